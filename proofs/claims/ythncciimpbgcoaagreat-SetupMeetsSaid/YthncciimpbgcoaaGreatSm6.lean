/- Merged for a claim: S2, Sh44, S3, S4, S5, S6, Sh45, S7, S8, Q1, Q2, Q3, Q4, S9, V0x, V1x, V2x, V4x, V8x. -/
import Derived.Test.YthncciimpbgcoaaGreatSm5
set_option linter.unusedSimpArgs false
set_option linter.unusedVariables false
namespace Go.Sh
open Go.Proofs
set_option maxHeartbeats 4000000
@[simp] theorem plainV_slnil : plainV .slnil = true := rfl
theorem zer_len' : zer.length = 32 := rfl
theorem sload_skip {xs ys : List SV} {ag : Bool} {n a o k : Nat} {r : Option SV} (h : xs.length = a) (hk : k = a + o) (h2 : sload ag n ys o = r) : sload ag n (xs ++ ys) k = r := by
 subst h hk h2
 unfold sload
 cases ag
 ·
  simp only [Bool.false_eq_true, if_false]
  rw [List.getElem?_append_right (by omega), Nat.add_sub_cancel_left]
 ·
  simp only [if_true, List.length_append]
  rw [List.drop_append, List.drop_eq_nil_of_le (by omega), List.nil_append, Nat.add_sub_cancel_left]
  by_cases h : o + n ≤ ys.length
  ·
   rw [if_pos h, if_pos (by omega)]
  ·
   rw [if_neg h, if_neg (by omega)]
theorem sput_skip {xs ys r : List SV} {a o k : Nat} {z : SV} (h : xs.length = a) (hk : k = a + o) (h2 : sput ys o z = r) : sput (xs ++ ys) k z = xs ++ r := by
 subst h hk h2
 have e : ∀ l : List SV, List.take (xs.length + o) (xs ++ ys) ++ l ++ List.drop (xs.length + o + l.length) (xs ++ ys) = xs ++ (List.take o ys ++ l ++ List.drop (o + l.length) ys) := fun l => by
  rw [List.take_append, List.drop_append, Nat.add_sub_cancel_left, List.take_of_length_le (by omega), show xs.length + o + l.length - xs.length = o + l.length by omega, List.drop_eq_nil_of_le (by omega)]
  simp
 cases z <;> simp only [sput] <;> first | exact e _ | (rw [List.set_append_right _ _ (by omega), Nat.add_sub_cancel_left])
theorem sload_mapc {l r : List UInt8} {ys : List SV} {o n : Nat} (h : (l.drop o).take n = r) (hl : o + n ≤ l.length) : sload true n (l.map .u8 ++ ys) o = some (.agg (r.map .u8)) := by
 subst h
 simp only [sload, if_true, List.length_append, List.length_map]
 rw [if_pos (by omega), List.drop_append_of_le_length (by simp; omega), List.take_append_of_le_length (by simp; omega), List.map_take, List.map_drop]
def kb (D A S : List UInt8) : List UInt8 := D ++ (A ++ S)
theorem kb_len {D A S : List UInt8} (hD : D.length = 2) (hA : A.length = 32) (hS : S.length = 32) : (kb D A S).length = 66 := by simp [kb, hD, hA, hS]
theorem kb_d {D A S : List UInt8} (hD : D.length = 2) : ((kb D A S).drop 0).take 2 = D := by unfold kb; rw [List.drop_zero, ← hD, List.take_left]
theorem kb_a {D A S : List UInt8} (hD : D.length = 2) (hA : A.length = 32) : ((kb D A S).drop 2).take 32 = A := by unfold kb; rw [← hD, List.drop_left, ← hA, List.take_left]
theorem kb_s {D A S : List UInt8} (hD : D.length = 2) (hA : A.length = 32) (hS : S.length = 32) : ((kb D A S).drop 34).take 32 = S := by
 unfold kb; rw [show 34 = (D ++ A).length by simp [hD, hA], ← List.append_assoc, List.drop_left, ← hS, List.take_length]
def bc (D A S : List UInt8) (h : Bool) (i : UInt32) (O : List UInt8) : List SV := D.map .u8 ++ (A.map .u8 ++ (S.map .u8 ++ (.b h :: .u32 i :: O.map .u8)))
@[simp] theorem bc_plain (D A S : List UInt8) (h : Bool) (i : UInt32) (O : List UInt8) : plainL (bc D A S h i O) = true := by simp [bc, plainV]
theorem mlen {l : List UInt8} {n : Nat} (h : l.length = n) : (l.map SV.u8).length = n := by rw [List.length_map, h]
theorem sfill_c {place : Nat → Option (Nat × Nat)} {l : List SV} {i off sz : Nat} {x : SV} {rest : List (Nat × SV)} {r : Option (List SV)} (hp : place i = some (off, sz)) (ht : x.isTup = false) (hx : x.cells.length = sz) (hl : off + sz ≤ l.length) (h : sfill place (sput l off x) rest = r) : sfill place l ((i, x) :: rest) = r := by
 unfold sfill
 rw [hp]
 dsimp only
 rw [if_pos ⟨ht, hx, hl⟩, h]
def z8 (n : Nat) : List SV := List.replicate n (.u8 0)
@[simp] theorem z8_len (n : Nat) : (z8 n).length = n := List.length_replicate
theorem fillB {t0 t1 t2 t3 : Nat} {D X Y : List UInt8} (hD : D.length = 2) (hX : X.length = 32) (hY : Y.length = 32) : sfill (fun i => (List.map (fun f : Nat × Nat × Nat => (f.fst, f.snd.snd)) [(0, t0, 2), (2, t1, 32), (34, t1, 32), (66, t2, 1), (67, t3, 1), (68, t1, 32)])[i]?) (SV.agg (List.replicate 66 (SV.u8 0) ++ [SV.b false, SV.u32 0] ++ List.replicate 32 (SV.u8 0))).cells [(0, .agg (D.map .u8)), (1, .agg (X.map .u8)), (2, .agg (Y.map .u8))] = some (bc D X Y false 0 zer) := by
 have h0 : (SV.agg (List.replicate 66 (SV.u8 0) ++ [SV.b false, SV.u32 0] ++ List.replicate 32 (SV.u8 0))).cells = z8 2 ++ (z8 32 ++ (z8 32 ++ (.b false :: .u32 0 :: zer.map .u8))) := rfl
 rw [h0]
 obtain ⟨T, hT⟩ : ∃ T, T = (SV.b false :: .u32 0 :: zer.map .u8) := ⟨_, rfl⟩
 have hTl : T.length = 34 := by rw [hT]; rfl
 unfold bc
 rw [← hT]
 have mD := mlen hD
 have mX := mlen hX
 have mY := mlen hY
 refine sfill_c rfl rfl mD (by simp only [List.length_append, z8_len]; omega) ?_
 rw [sput_fst (mD.trans (z8_len 2).symm)]
 refine sfill_c rfl rfl mX (by simp only [List.length_append, z8_len]; omega) ?_
 rw [sput_skip (o := 0) mD rfl (sput_fst (mX.trans (z8_len 32).symm))]
 refine sfill_c rfl rfl mY (by simp only [List.length_append, z8_len]; omega) ?_
 rw [sput_skip (o := 32) mD rfl (sput_skip (o := 0) mX rfl (sput_fst (mY.trans (z8_len 32).symm)))]
 rfl
theorem bc_len {D A S : List UInt8} {h : Bool} {i : UInt32} {O : List UInt8} (hD : D.length = 2) (hA : A.length = 32) (hS : S.length = 32) (hO : O.length = 32) : (bc D A S h i O).length = 100 := by
 simp [bc, hD, hA, hS, hO]
theorem sload_con {x : SV} {ys : List SV} {n o : Nat} {ag : Bool} {r : Option SV} (h : sload ag n ys o = r) : sload ag n (x :: ys) (o + 1) = r := by
 subst h
 cases ag <;> simp [sload]
 by_cases h : o + n ≤ ys.length
 ·
  rw [if_pos h, if_pos (by omega)]
 ·
  rw [if_neg h, if_neg (by omega)]
section
variable {D A S O : List UInt8} {h : Bool} {i : UInt32}
theorem bc_a (hD : D.length = 2) (hA : A.length = 32) : sload true 32 (bc D A S h i O) (0 + 2) = some (.agg (A.map .u8)) := sload_skip (mlen hD) rfl (sload_fst (mlen hA))
theorem bc_s (hD : D.length = 2) (hA : A.length = 32) (hS : S.length = 32) : sload true 32 (bc D A S h i O) (0 + 34) = some (.agg (S.map .u8)) := sload_skip (o := 32) (mlen hD) rfl (sload_skip (mlen hA) rfl (sload_fst (mlen hS)))
theorem bc_h (hD : D.length = 2) (hA : A.length = 32) (hS : S.length = 32) : sload false 1 (bc D A S h i O) (0 + 66) = some (.b h) := sload_skip (o := 64) (mlen hD) rfl (sload_skip (o := 32) (mlen hA) rfl (sload_skip (o := 0) (mlen hS) rfl rfl))
theorem bc_i (hD : D.length = 2) (hA : A.length = 32) (hS : S.length = 32) : sload false 1 (bc D A S h i O) (0 + 67) = some (.u32 i) := sload_skip (o := 65) (mlen hD) rfl (sload_skip (o := 33) (mlen hA) rfl (sload_skip (o := 1) (mlen hS) rfl rfl))
theorem bc_o (hD : D.length = 2) (hA : A.length = 32) (hS : S.length = 32) (hO : O.length = 32) : sload true 32 (bc D A S h i O) (0 + 68) = some (.agg (O.map .u8)) := sload_skip (o := 66) (mlen hD) rfl (sload_skip (o := 34) (mlen hA) rfl (sload_skip (o := 2) (mlen hS) rfl (sload_con (o := 1) (sload_con (o := 0) (sload_all rfl (mlen hO))))))
theorem pbc_h (hD : D.length = 2) (hA : A.length = 32) (hS : S.length = 32) (t : Bool) : sput (bc D A S h i O) (0 + 66) (.b t) = bc D A S t i O := sput_skip (o := 64) (mlen hD) rfl (sput_skip (o := 32) (mlen hA) rfl (sput_skip (o := 0) (mlen hS) rfl rfl))
theorem pbc_i (hD : D.length = 2) (hA : A.length = 32) (hS : S.length = 32) (t : UInt32) : sput (bc D A S h i O) (0 + 67) (.u32 t) = bc D A S h t O := sput_skip (o := 65) (mlen hD) rfl (sput_skip (o := 33) (mlen hA) rfl (sput_skip (o := 1) (mlen hS) rfl rfl))
theorem pbc_o (hD : D.length = 2) (hA : A.length = 32) (hS : S.length = 32) (hO : O.length = 32) {Y : List UInt8} (hY : Y.length = 32) : sput (bc D A S h i O) (0 + 68) (.agg (Y.map .u8)) = bc D A S h i Y := by
 have e : sput (O.map SV.u8) 0 (.agg (Y.map .u8)) = Y.map .u8 := by
  simp only [sput, List.take_zero, List.nil_append, Nat.zero_add, List.length_map]
  rw [List.drop_eq_nil_of_le (by simp; omega), List.append_nil]
 exact sput_skip (o := 66) (mlen hD) rfl (sput_skip (o := 34) (mlen hA) rfl (sput_skip (o := 2) (mlen hS) rfl (sput_skip (xs := [.b h, .u32 i]) (o := 0) rfl rfl e)))
end
attribute [local irreducible] kb bc
theorem s14_y (D A S : List UInt8) (hD : D.length = 2) (hA : A.length = 32) (hS : S.length = 32) (n : Nat) (f : Bool) (K : List (UInt32 × List UInt8)) : SCall Tryz.prog 22 [.p 0 0] [some (.ro ((kb D A S).map .u8 ++ [(.sl 1 0 n 33 f)])) , some (.ro (ocs K))] (.agg (bc D (pubN A) (pubN S) false 0 zer)) [some (.ro ((kb D A S).map .u8 ++ [(.sl 1 0 n 33 f)])) , some (.ro (ocs K))] := by
 have q1 := f41 A hA
 have l1 := pubN_len A
 have q2 := f41 S hS
 have l2 := pubN_len S
 have hM := kb_len hD hA hS
 have hd := kb_d (A := A) (S := S) hD
 have ha := kb_a (S := S) hD hA
 have hs := kb_s hD hA hS
 obtain ⟨M, eM⟩ : ∃ M, M = kb D A S := ⟨_, rfl⟩
 rw [← eM] at hM hd ha hs ⊢
 obtain ⟨X, hX⟩ : ∃ X, X = pubN A := ⟨_, rfl⟩
 rw [← hX] at q1 l1 ⊢
 obtain ⟨Y, hY⟩ : ∃ Y, Y = pubN S := ⟨_, rfl⟩
 rw [← hY] at q2 l2 ⊢
 have hf := fun t0 t1 t2 t3 : Nat => fillB (t0 := t0) (t1 := t1) (t2 := t2) (t3 := t3) hD l1 l2
 have hB := bc_len (h := false) (i := 0) hD l1 l2 zer_len'
 have pB := bc_plain D X Y false 0 zer
 obtain ⟨B, eB⟩ : ∃ B, B = bc D X Y false 0 zer := ⟨_, rfl⟩
 simp only [← eB] at hf
 rw [← eB] at hB pB ⊢
 have bd : 0 + 2 ≤ M.length := by omega
 have ba : 2 + 32 ≤ M.length := by omega
 have bs : 34 + 32 ≤ M.length := by omega
 refine scall_of ttOk (by kernel_rfl : Tryz.prog.funcs[22]? = some Tryz.f22) rfl rfl rfl ?_
 try simp only [List.length_cons, List.length_nil, Nat.zero_add, Nat.reduceAdd]
 refine sw_ok ttOk mixed (by kernel_rfl) ?_
 conv => whnf
 repeat (first | (refine Exists.intro _ (And.intro (sload_mapc hd bd) ?_); conv => whnf) | (refine Exists.intro _ (And.intro (sload_mapc ha ba) ?_); conv => whnf) | fail)
 refine ok1_callF [] [] true (q1) rfl rfl ⟨⟨rfl, by first | ((repeat' (first | exact wk_nil | exact ren_m8 rfl | (refine wk_agg ?_) | (refine wk_cons ?_ ?_))); done) | fail⟩, trivial, by rfl, by first | simp [plainRf, plainR, plainT, plainW], ?_⟩
 conv => whnf
 repeat (first | (refine Exists.intro _ (And.intro (sload_mapc hs bs) ?_); conv => whnf) | fail)
 refine ok1_callF [] [] true (q2) rfl rfl ⟨⟨rfl, by first | ((repeat' (first | exact wk_nil | exact ren_m8 rfl | (refine wk_agg ?_) | (refine wk_cons ?_ ?_))); done) | fail⟩, trivial, by rfl, by first | simp [plainRf, plainR, plainT, plainW], ?_⟩
 conv => whnf
 refine ⟨_, hf _ _ _ _, ?_⟩
 conv => whnf
 repeat (first | (refine Exists.intro _ (And.intro (sload_all rfl (by first | rfl | (simp [hB]; done) | fail)) ?_); conv => whnf) | (refine Exists.intro _ (And.intro (sput_all rfl (by first | rfl | (simp [hB]; done) | fail)) ?_); conv => whnf) | (refine And.intro (by first | omega | (simp; omega) | fail) ?_; conv => whnf) | (refine And.intro (by kernel_rfl) ?_; conv => whnf) | fail)
 refine ⟨[0, 1], ?_, rfl, rfl, ?_, rfl⟩
 ·
  (repeat' (first | exact ren_eq pB rfl | (refine wk_agg ?_) | fail)) <;> fail
 ·
  (repeat' (first | exact trivial | refine And.intro ?_ ?_ | fail)) <;> first | exact ren_eq (by first | (simp; done) | fail) (by rfl) | exact ren_app2 (by first | (simp; done) | fail) (by rfl) rfl | fail
theorem s13_y (D A S : List UInt8) (hD : D.length = 2) (hA : A.length = 32) (hS : S.length = 32) (n : Nat) (f : Bool) (K : List (UInt32 × List UInt8)) (i : UInt32) (k : List UInt8) (hk : k.length = 32) : SCall Tryz.prog 21 [.p 0 0, .agg (.u32 i :: k.map .u8)] [some (.ro ((kb D A S).map .u8 ++ [(.sl 1 0 n 33 f)])) , some (.ro (ocs K))] (.agg (bc D (pubN A) (pubN S) true i (pubN k))) [some (.ro ((kb D A S).map .u8 ++ [(.sl 1 0 n 33 f)])) , some (.ro (ocs K))] := by
 have q1 := s14_y D A S hD hA hS n f K
 have q2 := f41 k hk
 have l2 := pubN_len k
 obtain ⟨Y, hY⟩ : ∃ Y, Y = pubN k := ⟨_, rfl⟩
 rw [← hY] at q2 l2 ⊢
 have lA := pubN_len A
 have lS := pubN_len S
 obtain ⟨A2, eA⟩ : ∃ Y, Y = pubN A := ⟨_, rfl⟩
 obtain ⟨S2, eS⟩ : ∃ Y, Y = pubN S := ⟨_, rfl⟩
 rw [← eA] at q1 lA ⊢
 rw [← eS] at q1 lS ⊢
 have hB := bc_len (h := false) (i := 0) hD lA lS zer_len'
 have hB1 := bc_len (h := true) (i := 0) hD lA lS zer_len'
 have hB2 := bc_len (h := true) (i := i) hD lA lS zer_len'
 have hB3 := bc_len (h := true) (i := i) hD lA lS l2
 have hld : sload true 32 (.u32 i :: k.map SV.u8) (0 + 1) = some (.agg (k.map .u8)) := sload_con (o := 0) (sload_all rfl (mlen hk))
 refine scall_of ttOk (by kernel_rfl : Tryz.prog.funcs[21]? = some Tryz.f21) rfl rfl rfl ?_
 try simp only [List.length_cons, List.length_nil, Nat.zero_add, Nat.reduceAdd]
 refine sw_ok ttOk mixed (by kernel_rfl) ?_
 conv => whnf
 refine ok1_callE [0, 1] [some (.ro ((kb D A S).map .u8 ++ [(.sl 1 0 n 33 f)])), some (.ro (ocs K))] (.agg (bc D A2 S2 false 0 zer)) (q1) rfl rfl ⟨⟨rfl, by rfl⟩, by (repeat' (first | exact trivial | refine And.intro ?_ ?_)) <;> first | exact ren_eq (by first | (simp; done) | fail) (by rfl) | exact ren_app2 (by first | (simp; done) | fail) (by rfl) (by rfl) | fail, by (repeat' (first | exact trivial | refine And.intro ?_ ?_)) <;> first | rfl, by first | exact renV_plainR _ (by first | (simp [plainR, plainT, plainW]; done) | fail) | fail, ?_⟩
 conv => whnf
 repeat (first | (refine Exists.intro _ (And.intro (sput_all rfl (by first | rfl | (simp [hB]; done) | fail)) ?_); conv => whnf) | (refine Exists.intro _ (And.intro (hld) ?_); conv => whnf) | (refine Exists.intro _ (And.intro rfl ?_); conv => whnf) | (refine And.intro (by first | omega | (simp; omega) | fail) ?_; conv => whnf) | fail)
 refine ok1_callF [] [] true (q2) rfl rfl ⟨⟨rfl, by first | ((repeat' (first | exact wk_nil | exact ren_m8 rfl | (refine wk_agg ?_) | (refine wk_cons ?_ ?_))); done) | fail⟩, trivial, by rfl, by first | simp [plainRf, plainR, plainT, plainW], ?_⟩
 conv => whnf
 repeat (first | (refine Exists.intro _ (And.intro (sload_all rfl (by first | rfl | (simp [hB, hB1, hB2, hB3, l2]; done) | fail)) ?_); conv => whnf) | (refine Exists.intro _ (And.intro (sput_all rfl (by first | rfl | (simp [hB, hB1, hB2, hB3, l2]; done) | fail)) ?_); conv => whnf) | (refine Exists.intro _ (And.intro (pbc_h hD lA lS true) ?_); conv => whnf) | (refine Exists.intro _ (And.intro (pbc_i hD lA lS i) ?_); conv => whnf) | (refine Exists.intro _ (And.intro (pbc_o hD lA lS zer_len' l2) ?_); conv => whnf) | (refine And.intro (by first | omega | (simp; omega) | fail) ?_; conv => whnf) | (refine And.intro (by kernel_rfl) ?_; conv => whnf) | (refine And.intro ⟨by exact @rfl Nat _, by first | (simp [hB, hB1, hB2, hB3, l2]; done) | fail⟩ ?_; conv => whnf) | fail)
 refine ⟨[0, 1], ?_, rfl, rfl, ?_, rfl⟩
 ·
  (repeat' (first | exact ren_eq (bc_plain ..) rfl | (refine wk_agg ?_) | fail)) <;> fail
 ·
  (repeat' (first | exact trivial | refine And.intro ?_ ?_ | fail)) <;> first | exact ren_eq (by first | (simp; done) | fail) (by rfl) | exact ren_app2 (by first | (simp; done) | fail) (by rfl) rfl | fail
theorem plc_at {K : List (UInt32 × List UInt8)} {id : UInt32} (h : plc K id < K.length) : ∃ k, K[plc K id] = (id, k) := by
 have h3 := List.findIdx_getElem (p := fun y : UInt32 × List UInt8 => y.1 == id) (xs := K) (w := h)
 refine ⟨K[plc K id].2, Prod.ext ?_ rfl⟩
 have h4 : (K[plc K id].1 == id) = true := h3
 simpa using h4
theorem s6_y (D A S : List UInt8) (hD : D.length = 2) (hA : A.length = 32) (hS : S.length = 32) (K : List (UInt32 × List UInt8)) (hK : OcOk K) (hn : K.length < 1000000) (id : UInt32) (k : List UInt8) (i : Nat) (hi : i < K.length) (hp : plc K id = i) (hk : K[i] = (id, k)) (f : Bool) : SCall Tryz.prog 11 [.p 0 0, .u32 id] [some (.ro ((kb D A S).map .u8 ++ [.sl 1 0 K.length 33 f])), some (.ro (ocs K))] (.tup [.agg (bc D (pubN A) (pubN S) true id (pubN k)), .i 0]) [some (.ro ((kb D A S).map .u8 ++ [.sl 1 0 K.length 33 f])), some (.ro (ocs K))] := by
 have hM := kb_len hD hA hS
 have hkl : k.length = 32 := by have := hK.get hi; rw [hk] at this; exact this
 have q1 := s12 (kb D A S) [] K hK hM hn id f
 have hpi : plcI K id = (i : Int) := by unfold plcI; rw [hp, if_pos hi]
 rw [hpi] at q1
 have hge : decide ((i : Int) ≥ 0) = true := by simp
 rw [hge] at q1
 have q2 := s13_y D A S hD hA hS K.length f K id k hkl
 have hB := bc_len (h := true) (i := id) hD (pubN_len A) (pubN_len S) (pubN_len k)
 obtain ⟨A2, eA⟩ : ∃ Y, Y = pubN A := ⟨_, rfl⟩
 obtain ⟨S2, eS⟩ : ∃ Y, Y = pubN S := ⟨_, rfl⟩
 obtain ⟨k2, ek⟩ : ∃ Y, Y = pubN k := ⟨_, rfl⟩
 rw [← eA, ← eS, ← ek] at q2 hB ⊢
 have hol := ocs_len hK
 have hld := sload_oc hK hi hk
 refine scall_of ttOk (by kernel_rfl : Tryz.prog.funcs[11]? = some Tryz.f11) rfl rfl rfl ?_
 try simp only [List.length_cons, List.length_nil, Nat.zero_add, Nat.reduceAdd]
 refine sw_ok ttOk mixed (by kernel_rfl) ?_
 conv => whnf
 repeat (first | (refine brF rfl ?_; conv => whnf) | (refine And.intro (by kernel_rfl) ?_; conv => whnf) | fail)
 refine ok1_callE [0, 1] [some (.ro ((kb D A S).map .u8 ++ [.sl 1 0 K.length 33 f])), some (.ro (ocs K))] (.tup [.i (i : Int), .b true]) (q1) rfl rfl ⟨⟨rfl, by rfl⟩, by (repeat' (first | exact trivial | refine And.intro ?_ ?_)) <;> first | exact ren_eq (by first | (simp; done) | fail) (by rfl) | exact ren_app2 (by first | (simp; done) | fail) (by rfl) (by rfl) | fail, by (repeat' (first | exact trivial | refine And.intro ?_ ?_)) <;> first | rfl, by first | exact renV_plainR _ (by first | (simp [plainR, plainT, plainW]; done) | fail) | fail, ?_⟩
 conv => whnf
 repeat (first | (refine brT rfl ?_; conv => whnf) | (refine Exists.intro _ (And.intro (sload_snd (mlen hM)) ?_); conv => whnf) | (refine Exists.intro _ (And.intro (hld) ?_); conv => whnf) | (refine Exists.intro _ (And.intro rfl ?_); conv => whnf) | (refine And.intro (by omega) ?_; conv => whnf) | fail)
 refine ok1_callE [0, 1] [some (.ro ((kb D A S).map .u8 ++ [.sl 1 0 K.length 33 f])), some (.ro (ocs K))] (.agg (bc D A2 S2 true id k2)) (q2) rfl rfl ⟨⟨rfl, by first | ((repeat' (first | exact wk_nil | exact rfl | exact ren_eq (by first | (simp; done) | fail) rfl | (refine wk_agg ?_) | (refine wk_cons ?_ ?_))); done) | fail⟩, by (repeat' (first | exact trivial | refine And.intro ?_ ?_)) <;> first | exact ren_eq (by first | (simp; done) | fail) (by rfl) | exact ren_app2 (by first | (simp; done) | fail) (by rfl) (by rfl) | fail, by (repeat' (first | exact trivial | refine And.intro ?_ ?_)) <;> first | rfl, by first | exact renV_plainR _ (by first | (simp [plainR, plainT, plainW]; done) | fail) | fail, ?_⟩
 conv => whnf
 repeat (first | (refine Exists.intro _ (And.intro (sload_all rfl (by first | rfl | (simp [hB]; done) | fail)) ?_); conv => whnf) | (refine Exists.intro _ (And.intro (sput_all rfl (by first | rfl | (simp [hB]; done) | fail)) ?_); conv => whnf) | (refine And.intro (by first | omega | (simp; omega) | fail) ?_; conv => whnf) | fail)
 refine ⟨[0, 1], ?_, rfl, rfl, ?_, rfl⟩
 ·
  (repeat' (first | exact ren_eq (bc_plain ..) rfl | (refine wk_tup ?_) | (refine wk_agg ?_) | (refine wk_cons ?_ ?_))) <;> first | rfl | fail
 ·
  (repeat' (first | exact trivial | refine And.intro ?_ ?_ | fail)) <;> first | exact ren_eq (by first | (simp; done) | fail) (by rfl) | exact ren_app2 (by first | (simp; done) | fail) (by rfl) rfl | fail
theorem s6_n (D A S : List UInt8) (hD : D.length = 2) (hA : A.length = 32) (hS : S.length = 32) (K : List (UInt32 × List UInt8)) (hK : OcOk K) (hn : K.length < 1000000) (id : UInt32) (hp : plc K id = K.length) (hid : id = 4294967295) (f : Bool) : SCall Tryz.prog 11 [.p 0 0, .u32 id] [some (.ro ((kb D A S).map .u8 ++ [.sl 1 0 K.length 33 f])), some (.ro (ocs K))] (.tup [.agg (bc D (pubN A) (pubN S) false 0 zer), .i 0]) [some (.ro ((kb D A S).map .u8 ++ [.sl 1 0 K.length 33 f])), some (.ro (ocs K))] := by
 have hM := kb_len hD hA hS
 have q1 := s12 (kb D A S) [] K hK hM hn id f
 have hpi : plcI K id = -1 := by unfold plcI; rw [if_neg (by omega)]
 rw [hpi] at q1
 have q2 := s14_y D A S hD hA hS K.length f K
 have hB := bc_len (h := false) (i := 0) hD (pubN_len A) (pubN_len S) zer_len'
 obtain ⟨A2, eA⟩ : ∃ Y, Y = pubN A := ⟨_, rfl⟩
 obtain ⟨S2, eS⟩ : ∃ Y, Y = pubN S := ⟨_, rfl⟩
 rw [← eA, ← eS] at q2 hB ⊢
 have e1 : (id == 4294967295) = true := by rw [hid]; rfl
 refine scall_of ttOk (by kernel_rfl : Tryz.prog.funcs[11]? = some Tryz.f11) rfl rfl rfl ?_
 try simp only [List.length_cons, List.length_nil, Nat.zero_add, Nat.reduceAdd]
 refine sw_ok ttOk mixed (by kernel_rfl) ?_
 conv => whnf
 repeat (first | (refine brF rfl ?_; conv => whnf) | (refine And.intro (by kernel_rfl) ?_; conv => whnf) | fail)
 refine ok1_callE [0, 1] [some (.ro ((kb D A S).map .u8 ++ [.sl 1 0 K.length 33 f])), some (.ro (ocs K))] (.tup [.i (-1), .b false]) (q1) rfl rfl ⟨⟨rfl, by rfl⟩, by (repeat' (first | exact trivial | refine And.intro ?_ ?_)) <;> first | exact ren_eq (by first | (simp; done) | fail) (by rfl) | exact ren_app2 (by first | (simp; done) | fail) (by rfl) (by rfl) | fail, by (repeat' (first | exact trivial | refine And.intro ?_ ?_)) <;> first | rfl, by first | exact renV_plainR _ (by first | (simp [plainR, plainT, plainW]; done) | fail) | fail, ?_⟩
 conv => whnf
 repeat (first | (refine brF rfl ?_; conv => whnf) | (refine gdT e1 ?_; conv => whnf) | fail)
 refine ok1_callE [0, 1] [some (.ro ((kb D A S).map .u8 ++ [.sl 1 0 K.length 33 f])), some (.ro (ocs K))] (.agg (bc D A2 S2 false 0 zer)) (q2) rfl rfl ⟨⟨rfl, by rfl⟩, by (repeat' (first | exact trivial | refine And.intro ?_ ?_)) <;> first | exact ren_eq (by first | (simp; done) | fail) (by rfl) | exact ren_app2 (by first | (simp; done) | fail) (by rfl) (by rfl) | fail, by (repeat' (first | exact trivial | refine And.intro ?_ ?_)) <;> first | rfl, by first | exact renV_plainR _ (by first | (simp [plainR, plainT, plainW]; done) | fail) | fail, ?_⟩
 conv => whnf
 repeat (first | (refine Exists.intro _ (And.intro (sload_all rfl (by first | rfl | (simp [hB]; done) | fail)) ?_); conv => whnf) | (refine Exists.intro _ (And.intro (sput_all rfl (by first | rfl | (simp [hB]; done) | fail)) ?_); conv => whnf) | (refine And.intro (by first | omega | (simp; omega) | fail) ?_; conv => whnf) | fail)
 refine ⟨[0, 1], ?_, rfl, rfl, ?_, rfl⟩
 ·
  (repeat' (first | exact ren_eq (bc_plain ..) rfl | (refine wk_tup ?_) | (refine wk_agg ?_) | (refine wk_cons ?_ ?_))) <;> first | rfl | fail
 ·
  (repeat' (first | exact trivial | refine And.intro ?_ ?_ | fail)) <;> first | exact ren_eq (by first | (simp; done) | fail) (by rfl) | exact ren_app2 (by first | (simp; done) | fail) (by rfl) rfl | fail
end Go.Sh
namespace Go.Sh
section
variable {P : Program}
theorem lt_cap_nil {H : Heap} {o : Oper} {R : Env} {x : Operand} {t el : Nat} (ho : o.op = .call { callee := .builtin .cap, args := #[x], argTypes := #[t] }) (hx : evO R x = some .slnil) (hu : P.underlying t = some (.slice el)) :
  LT P o R H [] [] (some (.i 0)) := by
 refine LT.pure (by simp [ho]) fun e w ρ h1 _ => ?_
 have h3 := h1 x (by simp [ho, Op.operands, Call.operands]) _ hx
 simp only [Rel] at h3
 exact ⟨_, by simp [execOp, ho, resolve, invoke, builtin, Builtin.cap_, h3, run_und hu, goInt]; rfl, by simp only [Rel]⟩
theorem ok1_cap_nil {o : Oper} {R : RL} {H : HL} {L : Nat} {k : K1} {x : Operand} {t : Nat} (el : Nat) (ho : o.op = .call { callee := .builtin .cap, args := #[x], argTypes := #[t] }) (hx : ev R x = some .slnil) (hu : P.underlying t = some (.slice el))
  (h : k (some (.i 0)) [] [] L) : Ok1 P o R H L k := ok1_pure (lt_cap_nil ho (ev_some hx) hu) h
theorem lt_append_nilZ {H : Heap} {o : Oper} {R : Env} {x y : Operand} {t xT el by_ nid m : Nat} {z : SV} (ho : o.op = .call { callee := .builtin .append, args := #[x, y], argTypes := #[t, xT] })
  (hT : P.underlying t = some (.slice el)) (hX : P.underlying xT = some (.int .i64)) (hz : pzero P el = some z) (hza : z.atom = true) (hs : psz P el = some 1) (hb : pbytes P el = some by_) (hb0 : 0 < by_)
  (hx : evO R x = some .slnil) (hy : evO R y = some (.i (m : Int))) (hm0 : 0 < m) (hm : m * by_ ≤ 140737488355328) :
  LT P o R H [] [(nid, some (.row el (List.replicate m z)))] (some (.sl nid 0 m 1 false)) := by
 refine LT.of_run (by simp [ho]) fun e w ρ h1 h2 _ hfresh => ?_
 have hx2 := h1 x (by simp [ho, Op.operands, Call.operands]) _ hx
 have hy2 := h1 y (by simp [ho, Op.operands, Call.operands]) _ hy
 simp only [Rel] at hx2 hy2
 obtain ⟨i, v, hi, hv, hvc, his, hib, hvr⟩ := zfacts hz hza hs hb
 have hnm : m ≤ 140737488355328 := Nat.le_trans (Nat.le_mul_of_pos_right _ hb0) hm
 have hmb : m * i.bytes ≤ 140737488355328 := by rw [hib]; exact hm
 have hg := app_growZ (P := P) (ty := o.type) (w := w) (n := 0) (m := m) (c := 0) (a := none) (olds := []) hT hX hi hv his (by decide) hmb hnm (by omega) rfl (by omega) (by rw [hib]; exact hb0) (by rw [Nat.zero_add, nextslicecap_zero (by omega), hib]; omega)
 have hge := grownCap_ge w (0 + m) 0 el
 obtain ⟨g1, g2⟩ := grown_row (ρ := ρ) (w := w) (nid := nid) (el := el) (sz := 1) (n := 0) (xs := []) (olds := []) (z := v) (Rels.nil_iff.2 rfl) rfl (zero_rels (hvr ρ) hvc m) (zero_atoms hza m) (by simp) (by simp) (by rw [hvc]; rfl) hge
 simp only [Nat.zero_add, List.nil_append] at g1 g2 hg
 exact ⟨.value _, _, _, app_run ho (by rw [hx2, hy2]; exact hg), Chg.new (w.drawn + 1) (hfresh nid (some (.row el (List.replicate m z))) (by simp) (by simp)) rfl g1, .inl ⟨_, rfl, fun u hu => by cases hu; exact g2⟩⟩
theorem ok1_appZ_nil {o : Oper} {R : RL} {H : HL} {L : Nat} {k : K1} {x y : Operand} {t xT : Nat} (el by_ m : Nat) (z : SV) (ho : o.op = .call { callee := .builtin .append, args := #[x, y], argTypes := #[t, xT] })
  (hT : P.underlying t = some (.slice el)) (hX : P.underlying xT = some (.int .i64)) (hz : pzero P el = some z) (hza : z.atom = true) (hs : psz P el = some 1) (hb : pbytes P el = some by_) (hb0 : 0 < by_)
  (hx : ev R x = some .slnil) {v : Int} (hy : ev R y = some (.i v)) (hv : v = (m : Int)) (hm0 : 0 < m) (hm : m * by_ ≤ 140737488355328)
  (h : k (some (.sl L 0 m 1 false)) [(L, some (.row el (List.replicate m z)))] [] (L + 1)) : Ok1 P o R H L k := by
 subst hv
 exact ok1_new (lt_append_nilZ ho hT hX hz hza hs hb hb0 (ev_some hx) (ev_some hy) hm0 hm) h
end
end Go.Sh
namespace Go.Sh
open Go.Proofs
set_option maxHeartbeats 4000000
theorem s34 : SCall Tryz.prog 53 [.slnil, .i 64] [] (.sl 0 0 0 1 false) [some (.row 5 (z8 64))] := by
 refine scall_of ttOk (by kernel_rfl : Tryz.prog.funcs[53]? = some Tryz.f53) rfl rfl rfl ?_
 try simp only [List.length_cons, List.length_nil, Nat.zero_add, Nat.reduceAdd]
 refine sw_ok ttOk mixed (by kernel_rfl) ?_
 conv => whnf
 repeat (first | (refine brF rfl ?_; conv => whnf) | fail)
 refine ok1_cap_nil 5 rfl rfl (by kernel_rfl) ?_
 conv => whnf
 repeat (first | (refine brT rfl ?_; conv => whnf) | fail)
 refine ok1_cap_nil 5 rfl rfl (by kernel_rfl) ?_
 conv => whnf
 repeat (first | (refine And.intro ⟨rfl, rfl⟩ ?_; conv => whnf) | fail)
 refine ok1_appZ_nil 5 1 64 (.u8 0) rfl (by kernel_rfl) (by kernel_rfl) (by kernel_rfl) rfl (by kernel_rfl) (by kernel_rfl) (by decide) rfl rfl rfl (by decide) (by decide) ?_
 conv => whnf
 repeat (first | (refine Exists.intro _ (And.intro rfl ?_); conv => whnf) | (refine And.intro (by omega) ?_; conv => whnf) | fail)
 refine ⟨[0], ?_, rfl, rfl, ?_, rfl⟩
 ·
  (repeat' (fail)) <;> first | rfl | fail
 ·
  (repeat' (first | exact trivial | refine And.intro ?_ ?_ | (refine wk_cons ?_ ?_))) <;> first | rfl | fail
theorem cat1 {a : List UInt8} (ha : a.length = 32) : List.take (0 * 1) (List.drop 0 (z8 64)) ++ List.take (32 * 1) (List.drop 0 (a.map SV.u8)) = a.map .u8 := by
 rw [Nat.zero_mul, List.take_zero, List.nil_append, List.drop_zero, Nat.mul_one, List.take_of_length_le (by simp; omega)]
theorem cat2 {a b : List UInt8} (ha : a.length = 32) (hb : b.length = 32) : List.take (32 * 1) (List.drop 0 (a.map SV.u8)) ++ List.take (32 * 1) (List.drop 0 (b.map SV.u8)) = (a ++ b).map .u8 := by
 rw [List.drop_zero, List.drop_zero, Nat.mul_one, List.take_of_length_le (by simp; omega), List.take_of_length_le (by simp; omega), List.map_append]
theorem s25 (a b : List UInt8) (ha : a.length = 32) (hb : b.length = 32) (f fa fb : Bool) : SCall Tryz.prog 35 [.sl 0 0 2 1 f] [some (.ro [.sl 1 0 32 1 fa, .sl 2 0 32 1 fb]), some (.ro (a.map .u8)), some (.ro (b.map .u8))] (.sl 3 0 64 1 false) [some (.ro [.sl 1 0 32 1 fa, .sl 2 0 32 1 fb]), some (.ro (a.map .u8)), some (.ro (b.map .u8)), some (.row 5 ((a ++ b).map .u8))] := by
 have hap : List.take ((0 + 32) * 1) (List.drop 0 (List.take (0 * 1) (List.drop 0 (z8 64)) ++ List.take (32 * 1) (List.drop 0 (a.map SV.u8)))) ++ List.take (32 * 1) (List.drop 0 (b.map SV.u8)) = (a ++ b).map .u8 := by
  rw [cat1 ha]; exact cat2 ha hb
 refine scall_of ttOk (by kernel_rfl : Tryz.prog.funcs[35]? = some Tryz.f35) rfl rfl rfl ?_
 try simp only [List.length_cons, List.length_nil, Nat.zero_add, Nat.reduceAdd]
 refine sw_ok ttOk mixed (by kernel_rfl) ?_
 conv => whnf
 refine loop_rounds ttOk mixed (by kernel_rfl) 3 ?_
 conv => whnf
 repeat (first | (refine brT rfl ?_; conv => whnf) | (refine brF rfl ?_; conv => whnf) | (refine Exists.intro _ (And.intro rfl ?_); conv => whnf) | (refine And.intro (by omega) ?_; conv => whnf) | (refine And.intro (Nat.le_of_ble_eq_true rfl) ?_; conv => whnf) | fail)
 refine ok1_callF [] [true] false (s34) rfl rfl ⟨⟨rfl, by rfl⟩, trivial, by rfl, by rfl, ?_⟩
 conv => whnf
 refine loop_rounds ttOk mixed (by kernel_rfl) 3 ?_
 conv => whnf
 repeat (first | (refine brT rfl ?_; conv => whnf) | (refine brF rfl ?_; conv => whnf) | (refine Exists.intro _ (And.intro rfl ?_); conv => whnf) | (refine And.intro (by first | omega | (simp [ti5]; omega)) ?_; conv => whnf) | (refine And.intro (Nat.le_of_ble_eq_true rfl) ?_; conv => whnf) | fail)
 refine ⟨[0, 1, 2, 5], ?_, rfl, rfl, ?_, rfl⟩
 ·
  (repeat' (fail)) <;> first | rfl | fail
 ·
  (repeat' (first | exact trivial | exact ren_eq (plainL_u8 _) hap.symm | refine And.intro ?_ ?_ | (refine wk_cons ?_ ?_))) <;> first | rfl | exact ren_eq (by first | (simp; done) | fail) (by rfl) | fail
end Go.Sh
namespace Go.Sh
open Go.Proofs
set_option maxHeartbeats 4000000
abbrev Prs := List (List UInt8 × List UInt8)
def PrOk (P : Prs) : Prop := ∀ p ∈ P, p.1.length = 32 ∧ p.2.length = 32
def pbs (P : Prs) : List UInt8 := P.flatMap fun p => p.1 ++ p.2
theorem pbs_len : ∀ {P : Prs}, PrOk P → (pbs P).length = P.length * 64
 | [], _ => rfl
 | x :: P, h => by
  have h1 := pbs_len (P := P) fun y hy => h y (List.mem_cons_of_mem _ hy)
  obtain ⟨h2, h3⟩ := h x (List.mem_cons_self ..)
  show ((x.1 ++ x.2) ++ pbs P).length = _
  rw [List.length_append, h1, List.length_append, h2, h3, List.length_cons]; omega
theorem pbs_drop : ∀ {P : Prs}, PrOk P → ∀ i, (pbs P).drop (i * 64) = pbs (P.drop i)
 | P, _, 0 => by rw [Nat.zero_mul, List.drop_zero, List.drop_zero]
 | [], _, _ + 1 => by rw [List.drop_nil]; exact List.drop_nil
 | x :: P, h, i + 1 => by
  have h1 := pbs_drop (P := P) (fun y hy => h y (List.mem_cons_of_mem _ hy)) i
  obtain ⟨h2, h3⟩ := h x (List.mem_cons_self ..)
  show ((x.1 ++ x.2) ++ pbs P).drop _ = _
  have h2 : (x.1 ++ x.2).length = 64 := by rw [List.length_append, h2, h3]
  rw [show (i + 1) * 64 = (x.1 ++ x.2).length + i * 64 by omega, List.drop_append]
  simp only [List.drop_eq_nil_of_le (Nat.le_add_right _ _), List.nil_append, Nat.add_sub_cancel_left, List.drop_succ_cons]
  exact h1
theorem pbs_at {P : Prs} (h : PrOk P) {i : Nat} (hi : i < P.length) {a b : List UInt8} (e : P[i] = (a, b)) : ((pbs P).drop (0 + i * 64)).take 64 = a ++ b := by
 have h1 := h _ (List.getElem_mem hi)
 rw [e] at h1
 rw [Nat.zero_add, pbs_drop h, List.drop_eq_getElem_cons hi, e]
 show ((a ++ b) ++ pbs _).take 64 = _
 rw [show 64 = (a ++ b).length by rw [List.length_append, h1.1, h1.2], List.take_left]
def allB (P : Prs) (i : Nat) : List UInt8 := (P.take i).flatMap fun p => shN p.1 p.2
@[simp] theorem z8_plain (n : Nat) : plainL (z8 n) = true := plainL_rep n rfl
theorem allB_len {P : Prs} : ∀ {i : Nat}, i ≤ P.length → (allB P i).length = i * 32
 | 0, _ => by unfold allB; simp
 | i + 1, h => by
  have h1 := allB_len (P := P) (i := i) (by omega)
  unfold allB at h1 ⊢
  rw [List.take_succ_eq_append_getElem (by omega), List.flatMap_append, List.length_append, h1]
  simp only [List.flatMap_cons, List.flatMap_nil, List.append_nil, shN_len]; omega
theorem allB_s {P : Prs} {i : Nat} (h : i < P.length) : allB P (i + 1) = allB P i ++ shN P[i].1 P[i].2 := by
 unfold allB
 rw [List.take_succ_eq_append_getElem h, List.flatMap_append]
 simp
def OkA (P : Prs) (i : Nat) : Prop := ∀ j (hj : j < P.length), j < i → shN P[j].1 P[j].2 ≠ zer
def setS : List UInt8 := [104, 97, 105, 108, 101, 114, 32, 115, 101, 116, 117, 112]
def fstO (A B all : List UInt8) : List UInt8 := exO_n (mac_n setS all) (A ++ B) 2
theorem fstO_len (A B all : List UInt8) : (fstO A B all).length = 64 := exO_len_n _ _ 2
theorem fill64 {t0 t1 : Nat} {X : List UInt8} (h : X.length = 64) : sfill (fun i => (List.map (fun f : Nat × Nat × Nat => (f.fst, f.snd.snd)) [(0, t0, 32), (32, t1, 32)])[i]?) (SV.agg (z8 64)).cells [(0, .agg ((X.take 32).map .u8)), (1, .agg ((X.drop 32).map .u8))] = some (X.map .u8) := by
 have h1 : (X.take 32).length = 32 := by rw [List.length_take]; omega
 have h2 : (X.drop 32).length = 32 := by rw [List.length_drop]; omega
 obtain ⟨A, eA⟩ : ∃ A, A = X.take 32 := ⟨_, rfl⟩
 obtain ⟨B, eB⟩ : ∃ A, A = X.drop 32 := ⟨_, rfl⟩
 have hX : X = A ++ B := by rw [eA, eB, List.take_append_drop]
 rw [← eA] at h1 ⊢
 rw [← eB] at h2 ⊢
 have h0 : (SV.agg (z8 64)).cells = z8 32 ++ z8 32 := rfl
 rw [h0, hX]
 have mA := mlen h1
 have mB := mlen h2
 refine sfill_c rfl rfl mA (by simp only [List.length_append, z8_len]; omega) ?_
 rw [sput_fst (mA.trans (z8_len 32).symm)]
 refine sfill_c rfl rfl mB (by simp only [List.length_append, z8_len]; omega) ?_
 rw [sput_skip (o := 0) (r := B.map .u8) mA rfl (by
  simp only [sput, List.take_zero, List.nil_append, Nat.zero_add]
  rw [List.drop_eq_nil_of_le (by rw [z8_len, mB]; exact Nat.le_refl _), List.append_nil])]
 rw [List.map_append]; rfl
attribute [local irreducible] mac_n exO_n shN pubN fstO allB pbs
theorem s15_y (A B : List UInt8) (hA : A.length = 32) (hB : B.length = 32) (P : Prs) (hP : PrOk P) (hn : P.length < 1000000) (hok : OkA P P.length) (f : Bool) : SCall Tryz.prog 16 [.agg (A.map .u8), .agg (B.map .u8), .sl 0 0 P.length 64 f] [some (.ro ((pbs P).map .u8))] (.tup [.agg ((fstO A B (allB P P.length)).map .u8), .i 0]) [some (.ro ((pbs P).map .u8))] := by
 have hpl := pbs_len hP
 refine scall_of ttOk (by kernel_rfl : Tryz.prog.funcs[16]? = some Tryz.f16) rfl rfl rfl ?_
 try simp only [List.length_cons, List.length_nil, Nat.zero_add, Nat.reduceAdd]
 refine sw_ok ttOk mixed (by kernel_rfl) ?_
 conv => whnf
 refine SWp.weak (Weak.virt 8 5 1 rfl) ?_
 refine loop_rule ttOk mixed (by kernel_rfl) (ι := { i : Nat // i ≤ P.length }) (fun i => [(3, .p 1 0), (4, .p 2 0), (6, .p 3 0), (8, .sl 4 0 (allB P i.1).length 1 false), (15, .sl 0 0 P.length 64 f), (16, .i (P.length : Int)), (17, .i (i.1 : Int))]) (fun i => [some (.ro ((pbs P).map .u8)), some (.box (A.map .u8)), some (.box (B.map .u8)), some (.box (z8 64)), some (.row 5 ((allB P i.1).map .u8))]) (fun _ => 5) (fun i => P.length - i.1) ⟨0, by omega⟩ ?_ ?_
 ·
  have h0 : allB P 0 = [] := by unfold allB; simp
  dsimp only
  rw [h0]
  refine Weak.sel [0, 1, 2, 3, 4] rfl rfl ?_ ?_ rfl rfl
  ·
   (repeat' (first | exact trivial | refine And.intro ?_ ?_ | fail)) <;> first | rfl | fail
  ·
   (repeat' (first | exact trivial | refine And.intro ?_ ?_ | (refine wk_cons ?_ ?_))) <;> first | rfl | exact ren_eq (by first | (simp; done) | fail) (by rfl) | fail
 ·
  rintro ⟨i, hi⟩
  dsimp only
  by_cases hi2 : i < P.length
  ·
   have hlt : decide ((i : Int) < (P.length : Int)) = true := by simp; omega
   obtain ⟨a, b, hab⟩ : ∃ a b, P[i] = (a, b) := ⟨_, _, rfl⟩
   obtain ⟨ha, hb⟩ : a.length = 32 ∧ b.length = 32 := by have := hP _ (List.getElem_mem hi2); rw [hab] at this; exact this
   have hat := pbs_at hP hi2 hab
   have hle : 0 + i * 64 + 64 ≤ (pbs P).length := by omega
   have habl : (a ++ b).length = 64 := by rw [List.length_append, ha, hb]
   have hda : ((a ++ b).drop (0 + 0)).take 32 = a := by rw [show 0 + 0 = 0 from rfl, List.drop_zero, ← ha, List.take_left]
   have hdb : ((a ++ b).drop (0 + 32)).take 32 = b := by rw [Nat.zero_add, ← ha, List.drop_left, List.take_of_length_le (by omega)]
   have hle1 : (0 + 0) + 32 ≤ (a ++ b).length := by omega
   have hle2 : (0 + 32) + 32 ≤ (a ++ b).length := by omega
   have q := f40 a b ha hb
   have hne := hok i hi2 hi2
   have hs := allB_s hi2
   rw [hab] at hne hs
   dsimp only at hne hs
   have hll := allB_len (P := P) (i := i) (by omega)
   rw [if_neg hne] at q
   have hsl := shN_len a b
   obtain ⟨W, hW⟩ : ∃ W, W = shN a b := ⟨_, rfl⟩
   rw [← hW] at q hs hne hsl
   obtain ⟨C, hC⟩ : ∃ C, C = allB P i := ⟨_, rfl⟩
   rw [← hC] at hll hs ⊢
   obtain ⟨ab, hab2⟩ : ∃ C, C = a ++ b := ⟨_, rfl⟩
   rw [← hab2] at hat habl hda hdb hle1 hle2
   conv => whnf
   first | refine brT (by exact hlt) ?_ | fail
   conv => whnf
   repeat (first | (refine Exists.intro _ (And.intro (sput_all rfl (by first | rfl | (simp [habl]; done) | fail)) ?_); conv => whnf) | (refine Exists.intro _ (And.intro (sload_cut hat hle) ?_); conv => whnf) | (refine Exists.intro _ (And.intro (sload_cut hda hle1) ?_); conv => whnf) | (refine Exists.intro _ (And.intro (sload_cut hdb hle2) ?_); conv => whnf) | (refine Exists.intro _ (And.intro rfl ?_); conv => whnf) | (refine And.intro (by first | omega | (simp; omega) | fail) ?_; conv => whnf) | fail)
   refine ok1_callF [] [] true (q) rfl rfl ⟨⟨rfl, by first | ((repeat' (first | exact wk_nil | exact ren_m8 rfl | (refine wk_agg ?_) | (refine wk_cons ?_ ?_))); done) | fail⟩, trivial, by rfl, by first | simp [plainRf, plainR, plainT, plainW], ?_⟩
   conv => whnf
   repeat (first | (refine brF rfl ?_; conv => whnf) | (refine Exists.intro _ (And.intro (sput_all rfl (by first | rfl | (simp [hsl, hll]; done) | fail)) ?_); conv => whnf) | (refine Exists.intro _ (And.intro rfl ?_); conv => whnf) | (refine And.intro (by first | omega | (simp; omega) | (simp [ti5]; omega)) ?_; conv => whnf) | fail)
   have hp1 := wp30 i (by omega)
   have hcl : (C ++ W).length = C.length + (32 - 0) := by rw [List.length_append, hsl]
   have hap : (C ++ W).map SV.u8 = List.take (C.length * 1) (List.drop 0 (C.map SV.u8)) ++ List.take ((32 - 0) * 1) (List.drop 0 (W.map SV.u8)) := by
    rw [List.drop_zero, List.drop_zero, Nat.mul_one, List.take_of_length_le (by simp), List.take_of_length_le (by simp; omega), List.map_append]
   refine ⟨⟨i + 1, by omega⟩, by simp only; omega, ?_⟩
   dsimp only
   rw [hs]
   refine Weak.sel [0, 1, 2, 3, 7] rfl rfl ?_ ?_ rfl rfl
   ·
    (repeat' (first | exact trivial | refine And.intro ?_ ?_ | fail)) <;> first | exact wk_i (by first | exact hp1 | exact hp1.symm | fail) | rfl | exact wk_sl rfl (by rfl) (by exact hcl) | fail
   ·
    (repeat' (first | exact trivial | exact ren_eq (plainL_u8 _) hap | refine And.intro ?_ ?_ | (refine wk_cons ?_ ?_))) <;> first | rfl | exact ren_eq (by first | (simp; done) | fail) (by rfl) | fail
  ·
   obtain rfl : i = P.length := by omega
   have hlt : decide ((P.length : Int) < (P.length : Int)) = false := by simp
   have hll := allB_len (P := P) (Nat.le_refl _)
   obtain ⟨C, hC⟩ : ∃ C, C = allB P P.length := ⟨_, rfl⟩
   rw [← hC] at hll ⊢
   have q1 := f50_n setS C (by decide) (by omega) true false
   rw [show setS.length = 12 from rfl] at q1
   have l1 := mac_len_n setS C
   have q2 := s25 A B hA hB true true true
   have q3 := f51_n (mac_n setS C) (A ++ B) (by omega) (by rw [List.length_append, hA, hB]; decide) 64 (by decide) (by decide) true false
   have l3 := fstO_len A B C
   rw [show exO_n (mac_n setS C) (A ++ B) ((64 + (32 - 1)) / 32) = fstO A B C by unfold fstO; rfl, l1, show (A ++ B).length = 64 by rw [List.length_append, hA, hB]] at q3
   obtain ⟨M, hM⟩ : ∃ M, M = mac_n setS C := ⟨_, rfl⟩
   obtain ⟨X, hX⟩ : ∃ X, X = fstO A B C := ⟨_, rfl⟩
   rw [← hM] at q1 q3 l1
   rw [← hX] at q3 l3 ⊢
   conv => whnf
   first | refine brF (by exact hlt) ?_ | fail
   conv => whnf
   repeat (first | (refine Exists.intro _ (And.intro rfl ?_); conv => whnf) | fail)
   refine ok1_callF [5, 4] [false, false, true] false (q1) rfl rfl ⟨⟨rfl, by rfl⟩, by (repeat' (first | exact trivial | refine And.intro ?_ ?_)) <;> first | rfl | exact ren_eq (by first | (simp; done) | fail) (by rfl) | fail, by first | simp [plainHf, plainB], by rfl, ?_⟩
   conv => whnf
   repeat (first | (refine Exists.intro _ (And.intro rfl ?_); conv => whnf) | (refine And.intro (by first | omega | (simp; omega) | fail) ?_; conv => whnf) | fail)
   refine ok1_callF [7, 1, 2] [false, false, false, true] false (q2) rfl rfl ⟨⟨rfl, by rfl⟩, by (repeat' (first | exact trivial | refine And.intro ?_ ?_)) <;> first | rfl | exact ren_eq (by first | (simp; done) | fail) (by rfl) | fail, by first | simp [plainHf, plainB], by rfl, ?_⟩
   conv => whnf
   refine ok1_callF [6, 8] [false, false, true] false (q3) rfl rfl ⟨⟨rfl, by rfl⟩, by (repeat' (first | exact trivial | refine And.intro ?_ ?_)) <;> first | exact ren_eq (by first | (simp; done) | fail) (by rfl) | fail, by first | simp [plainHf, plainB], by rfl, ?_⟩
   conv => whnf
   have hx1 : 0 + 0 * 1 + 32 ≤ X.length := by omega
   have hx2 : 0 + (Int.toNat 32) * 1 + 32 ≤ X.length := by rw [l3]; decide
   have g1 : (X.drop (0 + 0 * 1)).take 32 = X.take 32 := by rw [show 0 + 0 * 1 = 0 from rfl, List.drop_zero]
   have g2 : (X.drop (0 + (Int.toNat 32) * 1)).take 32 = X.drop 32 := by rw [show 0 + (Int.toNat 32) * 1 = 32 from rfl, List.take_of_length_le (by simp; omega)]
   have hfl := fun t0 t1 : Nat => fill64 (t0 := t0) (t1 := t1) (X := X) l3
   have hm64 : (X.map SV.u8).length = 64 := by rw [List.length_map, l3]
   repeat (first | (refine Exists.intro _ (And.intro (sload_cut g1 hx1) ?_); conv => whnf) | (refine Exists.intro _ (And.intro (sload_cut g2 hx2) ?_); conv => whnf) | (refine Exists.intro _ (And.intro rfl ?_); conv => whnf) | (refine And.intro (by omega) ?_; conv => whnf) | (refine And.intro (by kernel_rfl) ?_; conv => whnf) | fail)
   refine ⟨_, hfl _ _, ?_⟩
   conv => whnf
   repeat (first | (refine Exists.intro _ (And.intro (sload_all rfl (by first | rfl | (simp [l3]; done) | fail)) ?_); conv => whnf) | (refine Exists.intro _ (And.intro (sput_all rfl (by first | rfl | (simp [l3]; done) | fail)) ?_); conv => whnf) | (refine And.intro (by first | omega | (simp; omega) | fail) ?_; conv => whnf) | (refine And.intro (by kernel_rfl) ?_; conv => whnf) | fail)
   refine ⟨[0], ?_, rfl, rfl, ?_, rfl⟩
   ·
    (repeat' (first | (refine wk_tup ?_) | (refine wk_agg ?_) | (refine wk_cons ?_ ?_))) <;> first | rfl | exact ren_eq (by first | (simp; done) | fail) (by rfl) | fail
   ·
    (repeat' (first | exact trivial | refine And.intro ?_ ?_ | fail)) <;> first | exact ren_eq (by first | (simp; done) | fail) (by rfl) | fail
theorem s15_x (A B : List UInt8) (hA : A.length = 32) (hB : B.length = 32) (P : Prs) (hP : PrOk P) (hn : P.length < 1000000) (m : Nat) (hm : m < P.length) (hok : OkA P m) (hz : shN P[m].1 P[m].2 = zer) (f : Bool) : SCall Tryz.prog 16 [.agg (A.map .u8), .agg (B.map .u8), .sl 0 0 P.length 64 f] [some (.ro ((pbs P).map .u8))] (.tup [.agg (z8 64), .i 70]) [some (.ro ((pbs P).map .u8))] := by
 have hpl := pbs_len hP
 refine scall_of ttOk (by kernel_rfl : Tryz.prog.funcs[16]? = some Tryz.f16) rfl rfl rfl ?_
 try simp only [List.length_cons, List.length_nil, Nat.zero_add, Nat.reduceAdd]
 refine sw_ok ttOk mixed (by kernel_rfl) ?_
 conv => whnf
 refine SWp.weak (Weak.virt 8 5 1 rfl) ?_
 refine loop_rule ttOk mixed (by kernel_rfl) (ι := { i : Nat // i ≤ m }) (fun i => [(3, .p 1 0), (4, .p 2 0), (6, .p 3 0), (8, .sl 4 0 (allB P i.1).length 1 false), (15, .sl 0 0 P.length 64 f), (16, .i (P.length : Int)), (17, .i (i.1 : Int))]) (fun i => [some (.ro ((pbs P).map .u8)), some (.box (A.map .u8)), some (.box (B.map .u8)), some (.box (z8 64)), some (.row 5 ((allB P i.1).map .u8))]) (fun _ => 5) (fun i => P.length - i.1) ⟨0, by omega⟩ ?_ ?_
 ·
  have h0 : allB P 0 = [] := by unfold allB; simp
  dsimp only
  rw [h0]
  refine Weak.sel [0, 1, 2, 3, 4] rfl rfl ?_ ?_ rfl rfl
  ·
   (repeat' (first | exact trivial | refine And.intro ?_ ?_ | fail)) <;> first | rfl | fail
  ·
   (repeat' (first | exact trivial | refine And.intro ?_ ?_ | (refine wk_cons ?_ ?_))) <;> first | rfl | exact ren_eq (by first | (simp; done) | fail) (by rfl) | fail
 ·
  rintro ⟨i, hi⟩
  dsimp only
  have hi2 : i < P.length := by omega
  have hlt : decide ((i : Int) < (P.length : Int)) = true := by simp; omega
  obtain ⟨a, b, hab⟩ : ∃ a b, P[i] = (a, b) := ⟨_, _, rfl⟩
  obtain ⟨ha, hb⟩ : a.length = 32 ∧ b.length = 32 := by have := hP _ (List.getElem_mem hi2); rw [hab] at this; exact this
  have hat := pbs_at hP hi2 hab
  have hle : 0 + i * 64 + 64 ≤ (pbs P).length := by omega
  have habl : (a ++ b).length = 64 := by rw [List.length_append, ha, hb]
  have hda : ((a ++ b).drop (0 + 0)).take 32 = a := by rw [show 0 + 0 = 0 from rfl, List.drop_zero, ← ha, List.take_left]
  have hdb : ((a ++ b).drop (0 + 32)).take 32 = b := by rw [Nat.zero_add, ← ha, List.drop_left, List.take_of_length_le (by omega)]
  have hle1 : (0 + 0) + 32 ≤ (a ++ b).length := by omega
  have hle2 : (0 + 32) + 32 ≤ (a ++ b).length := by omega
  have q := f40 a b ha hb
  have hne : i ≠ m → shN P[i].1 P[i].2 ≠ zer := fun h => hok i hi2 (by omega)
  have hze : i = m → shN P[i].1 P[i].2 = zer := fun h => by subst h; exact hz
  have hs := allB_s hi2
  rw [hab] at hne hs hze
  dsimp only at hne hs hze
  have hll := allB_len (P := P) (i := i) (by omega)
  have hsl := shN_len a b
  obtain ⟨W, hW⟩ : ∃ W, W = shN a b := ⟨_, rfl⟩
  rw [← hW] at q hs hne hsl hze
  obtain ⟨C, hC⟩ : ∃ C, C = allB P i := ⟨_, rfl⟩
  rw [← hC] at hll hs ⊢
  obtain ⟨ab, hab2⟩ : ∃ C, C = a ++ b := ⟨_, rfl⟩
  rw [← hab2] at hat habl hda hdb hle1 hle2
  by_cases him : i = m
  ·
   rw [if_pos (hze him)] at q
   conv => whnf
   first | refine brT (by exact hlt) ?_ | fail
   conv => whnf
   repeat (first | (refine Exists.intro _ (And.intro (sput_all rfl (by first | rfl | (simp [habl]; done) | fail)) ?_); conv => whnf) | (refine Exists.intro _ (And.intro (sload_cut hat hle) ?_); conv => whnf) | (refine Exists.intro _ (And.intro (sload_cut hda hle1) ?_); conv => whnf) | (refine Exists.intro _ (And.intro (sload_cut hdb hle2) ?_); conv => whnf) | (refine Exists.intro _ (And.intro rfl ?_); conv => whnf) | (refine And.intro (by first | omega | (simp; omega) | fail) ?_; conv => whnf) | fail)
   refine ok1_callF [] [] true (q) rfl rfl ⟨⟨rfl, by first | ((repeat' (first | exact wk_nil | exact ren_m8 rfl | (refine wk_agg ?_) | (refine wk_cons ?_ ?_))); done) | fail⟩, trivial, by rfl, by first | simp [plainRf, plainR, plainT, plainW], ?_⟩
   conv => whnf
   repeat (first | (refine brT rfl ?_; conv => whnf) | (refine Exists.intro _ (And.intro (sload_all rfl (by rfl)) ?_); conv => whnf) | (refine Exists.intro _ (And.intro (sput_all rfl (by first | rfl | (simp [hsl, hll]; done) | fail)) ?_); conv => whnf) | (refine Exists.intro _ (And.intro rfl ?_); conv => whnf) | (refine And.intro (by first | omega | (simp; done) | (simp; omega) | fail) ?_; conv => whnf) | fail)
   refine ⟨[0], ?_, rfl, rfl, ?_, rfl⟩
   ·
    (repeat' (first | (refine wk_tup ?_) | (refine wk_agg ?_) | (refine wk_cons ?_ ?_))) <;> first | rfl | fail
   ·
    (repeat' (first | exact trivial | refine And.intro ?_ ?_ | fail)) <;> first | exact ren_eq (by first | (simp; done) | fail) (by rfl) | fail
  ·
   rw [if_neg (hne him)] at q
   conv => whnf
   first | refine brT (by exact hlt) ?_ | fail
   conv => whnf
   repeat (first | (refine Exists.intro _ (And.intro (sput_all rfl (by first | rfl | (simp [habl]; done) | fail)) ?_); conv => whnf) | (refine Exists.intro _ (And.intro (sload_cut hat hle) ?_); conv => whnf) | (refine Exists.intro _ (And.intro (sload_cut hda hle1) ?_); conv => whnf) | (refine Exists.intro _ (And.intro (sload_cut hdb hle2) ?_); conv => whnf) | (refine Exists.intro _ (And.intro rfl ?_); conv => whnf) | (refine And.intro (by first | omega | (simp; omega) | fail) ?_; conv => whnf) | fail)
   refine ok1_callF [] [] true (q) rfl rfl ⟨⟨rfl, by first | ((repeat' (first | exact wk_nil | exact ren_m8 rfl | (refine wk_agg ?_) | (refine wk_cons ?_ ?_))); done) | fail⟩, trivial, by rfl, by first | simp [plainRf, plainR, plainT, plainW], ?_⟩
   conv => whnf
   repeat (first | (refine brF rfl ?_; conv => whnf) | (refine Exists.intro _ (And.intro (sput_all rfl (by first | rfl | (simp [hsl, hll]; done) | fail)) ?_); conv => whnf) | (refine Exists.intro _ (And.intro rfl ?_); conv => whnf) | (refine And.intro (by first | omega | (simp; omega) | (simp [ti5]; omega)) ?_; conv => whnf) | fail)
   have hp1 := wp30 i (by omega)
   have hcl : (C ++ W).length = C.length + (32 - 0) := by rw [List.length_append, hsl]
   have hap : (C ++ W).map SV.u8 = List.take (C.length * 1) (List.drop 0 (C.map SV.u8)) ++ List.take ((32 - 0) * 1) (List.drop 0 (W.map SV.u8)) := by
    rw [List.drop_zero, List.drop_zero, Nat.mul_one, List.take_of_length_le (by simp), List.take_of_length_le (by simp; omega), List.map_append]
   refine ⟨⟨i + 1, by omega⟩, by simp only; omega, ?_⟩
   dsimp only
   rw [hs]
   refine Weak.sel [0, 1, 2, 3, 7] rfl rfl ?_ ?_ rfl rfl
   ·
    (repeat' (first | exact trivial | refine And.intro ?_ ?_ | fail)) <;> first | exact wk_i (by first | exact hp1 | exact hp1.symm | fail) | rfl | exact wk_sl rfl (by rfl) (by exact hcl) | fail
   ·
    (repeat' (first | exact trivial | exact ren_eq (plainL_u8 _) hap | refine And.intro ?_ ?_ | (refine wk_cons ?_ ?_))) <;> first | rfl | exact ren_eq (by first | (simp; done) | fail) (by rfl) | fail
end Go.Sh
namespace Go.Sh
open Go.Proofs
set_option maxHeartbeats 4000000
def okP (P : Prs) : Bool := P.all fun p => decide (shN p.1 p.2 ≠ zer)
theorem okP_y {P : Prs} (h : okP P = true) : OkA P P.length := by
 intro j hj _
 simp only [okP, List.all_eq_true, decide_eq_true_eq] at h
 exact h _ (List.getElem_mem hj)
theorem okP_x {P : Prs} (h : okP P = false) : ∃ m, ∃ hm : m < P.length, OkA P m ∧ shN (P[m]).1 (P[m]).2 = zer := by
 have key : ∀ n, n ≤ P.length → OkA P n ∨ ∃ m, ∃ hm : m < P.length, OkA P m ∧ shN (P[m]).1 (P[m]).2 = zer := by
  intro n
  induction n with
  | zero => exact fun _ => .inl fun j _ h => absurd h (by omega)
  | succ n ih =>
   intro hn
   rcases ih (by omega) with h1 | h1
   ·
    by_cases hz : shN (P[n]).1 (P[n]).2 = zer
    ·
     exact .inr ⟨n, by omega, h1, hz⟩
    ·
     refine .inl fun j hj hjn => ?_
     rcases Nat.lt_or_ge j n with h2 | h2
     ·
      exact h1 j hj h2
     ·
      obtain rfl : j = n := by omega
      exact hz
   ·
    exact .inr h1
 rcases key P.length (Nat.le_refl _) with h1 | h1
 ·
  exfalso
  have : okP P = true := by
   simp only [okP, List.all_eq_true, decide_eq_true_eq]
   intro p hp
   obtain ⟨j, hj, rfl⟩ := List.getElem_of_mem hp
   exact h1 j hj hj
  rw [h] at this; cases this
 ·
  exact h1
theorem s15_z (A B : List UInt8) (hA : A.length = 32) (hB : B.length = 32) (P : Prs) (hP : PrOk P) (hn : P.length < 1000000) (hz : okP P = false) (f : Bool) : SCall Tryz.prog 16 [.agg (A.map .u8), .agg (B.map .u8), .sl 0 0 P.length 64 f] [some (.ro ((pbs P).map .u8))] (.tup [.agg (z8 64), .i 70]) [some (.ro ((pbs P).map .u8))] := by
 obtain ⟨m, hm, h1, h2⟩ := okP_x hz
 exact s15_x A B hA hB P hP hn m hm h1 h2 f
def sc (I E : List UInt8) (h : Bool) (i : UInt32) : List SV := I.map .u8 ++ (E.map .u8 ++ [.b h, .u32 i])
def sc0 : List SV := z8 64 ++ [.b false, .u32 0]
section
variable {I E : List UInt8} {h : Bool} {i : UInt32}
theorem sc_len (hI : I.length = 32) (hE : E.length = 32) : (sc I E h i).length = 66 := by simp [sc, hI, hE]
@[simp] theorem sc_plain (I E : List UInt8) (h : Bool) (i : UInt32) : plainL (sc I E h i) = true := by simp [sc, plainV]
theorem sc_i (hI : I.length = 32) : sload true 32 (sc I E h i) (0 + 0) = some (.agg (I.map .u8)) := sload_fst (mlen hI)
theorem sc_e (hI : I.length = 32) (hE : E.length = 32) : sload true 32 (sc I E h i) (0 + 32) = some (.agg (E.map .u8)) := sload_skip (mlen hI) rfl (sload_fst (mlen hE))
theorem sc_h (hI : I.length = 32) (hE : E.length = 32) : sload false 1 (sc I E h i) (0 + 64) = some (.b h) := sload_skip (o := 32) (mlen hI) rfl (sload_skip (o := 0) (mlen hE) rfl rfl)
theorem sc_n (hI : I.length = 32) (hE : E.length = 32) : sload false 1 (sc I E h i) (0 + 65) = some (.u32 i) := sload_skip (o := 33) (mlen hI) rfl (sload_skip (o := 1) (mlen hE) rfl rfl)
theorem psc_h (hI : I.length = 32) (hE : E.length = 32) (t : Bool) : sput (sc I E h i) (0 + 64) (.b t) = sc I E t i := sput_skip (o := 32) (mlen hI) rfl (sput_skip (o := 0) (mlen hE) rfl rfl)
theorem psc_n (hI : I.length = 32) (hE : E.length = 32) (t : UInt32) : sput (sc I E h i) (0 + 65) (.u32 t) = sc I E h t := sput_skip (o := 33) (mlen hI) rfl (sput_skip (o := 1) (mlen hE) rfl rfl)
theorem fillS {t0 t1 t2 t3 : Nat} (hI : I.length = 32) (hE : E.length = 32) : sfill (fun i => (List.map (fun f : Nat × Nat × Nat => (f.fst, f.snd.snd)) [(0, t0, 32), (32, t1, 32), (64, t2, 1), (65, t3, 1)])[i]?) (SV.agg (z8 64 ++ [SV.b false, SV.u32 0])).cells [(0, .agg (I.map .u8)), (1, .agg (E.map .u8))] = some (sc I E false 0) := by
 have h0 : (SV.agg (z8 64 ++ [SV.b false, SV.u32 0])).cells = z8 32 ++ (z8 32 ++ [SV.b false, SV.u32 0]) := rfl
 rw [h0]
 have mA := mlen hI
 have mB := mlen hE
 refine sfill_c rfl rfl mA (by simp) ?_
 rw [sput_fst (mA.trans (z8_len 32).symm)]
 refine sfill_c rfl rfl mB (by simp [hI]) ?_
 rw [sput_skip (o := 0) mA rfl (sput_fst (mB.trans (z8_len 32).symm))]
 rfl
theorem fillP {t0 t1 : Nat} {a b : List UInt8} (ha : a.length = 32) (hb : b.length = 32) : sfill (fun i => (List.map (fun f : Nat × Nat × Nat => (f.fst, f.snd.snd)) [(0, t0, 32), (32, t1, 32)])[i]?) (SV.agg (z8 64)).cells [(0, .agg (a.map .u8)), (1, .agg (b.map .u8))] = some ((a ++ b).map .u8) := by
 have h := fill64 (t0 := t0) (t1 := t1) (X := a ++ b) (by rw [List.length_append, ha, hb])
 have e1 : (a ++ b).take 32 = a := by rw [← ha, List.take_left]
 have e2 : (a ++ b).drop 32 = b := by rw [← ha, List.drop_left]
 rw [e1, e2] at h
 exact h
end
theorem lp {a b : List UInt8} (ha : a.length = 32) (hb : b.length = 32) : (a ++ b).length = 64 := by rw [List.length_append, ha, hb]
theorem fill3 {x y z : List UInt8} (hx : x.length = 64) (hy : y.length = 64) (hz : z.length = 64) : sfill (fun i => some (i * 64, 64)) (reps 3 (z8 64)) [(0, .agg (x.map .u8)), (1, .agg (y.map .u8)), (2, .agg (z.map .u8))] = some ((x ++ (y ++ z)).map .u8) := by
 have h0 : reps 3 (z8 64) = z8 64 ++ (z8 64 ++ (z8 64 ++ [])) := rfl
 rw [h0]
 have mx := mlen hx
 have my := mlen hy
 have mz := mlen hz
 refine sfill_c rfl rfl mx (by simp) ?_
 rw [sput_fst (mx.trans (z8_len 64).symm)]
 refine sfill_c rfl rfl my (by simp [hx]) ?_
 rw [sput_skip (o := 0) mx rfl (sput_fst (my.trans (z8_len 64).symm))]
 refine sfill_c rfl rfl mz (by simp [hx, hy]) ?_
 rw [sput_skip (o := 64) mx rfl (sput_skip (o := 0) my rfl (sput_fst (mz.trans (z8_len 64).symm)))]
 rw [List.append_nil, List.map_append, List.map_append]; rfl
theorem fill1 {x : List UInt8} (hx : x.length = 64) : sfill (fun i => some (i * 64, 64)) (reps 1 (z8 64)) [(0, .agg (x.map .u8))] = some (x.map .u8) := by
 have h0 : reps 1 (z8 64) = z8 64 ++ [] := rfl
 rw [h0]
 have mx := mlen hx
 refine sfill_c rfl rfl mx (by simp) ?_
 rw [sput_fst (mx.trans (z8_len 64).symm), List.append_nil]; rfl
theorem fill3p {a b c d e f : List UInt8} (ha : a.length = 32) (hb : b.length = 32) (hc : c.length = 32) (hd : d.length = 32) (he : e.length = 32) (hf : f.length = 32) : sfill (fun i => some (i * 64, 64)) (reps 3 (z8 64)) [(0, .agg ((a ++ b).map .u8)), (1, .agg ((c ++ d).map .u8)), (2, .agg ((e ++ f).map .u8))] = some ((pbs [(a, b), (c, d), (e, f)]).map .u8) := by
 rw [fill3 (lp ha hb) (lp hc hd) (lp he hf)]
 congr 2
 simp [pbs]
theorem cat_4 {a b c d e f g h : List UInt8} (ha : a.length = 32) (hb : b.length = 32) (hc : c.length = 32) (hd : d.length = 32) (he : e.length = 32) (hf : f.length = 32) (hg : g.length = 32) (hh : h.length = 32) : List.take (3 * 64) (List.drop 0 ((pbs [(a, b), (c, d), (e, f)]).map SV.u8)) ++ List.take (1 * 64) (List.drop 0 ((g ++ h).map SV.u8)) = (pbs [(a, b), (c, d), (e, f), (g, h)]).map .u8 := by
 rw [List.drop_zero, List.drop_zero, List.take_of_length_le (by simp [pbs, ha, hb, hc, hd, he, hf]), List.take_of_length_le (by simp [hg, hh]), ← List.map_append]
 congr 1
 simp [pbs]
def begP (A e I S O : List UInt8) (h : Bool) : Prs := [(A, S), (e, I), (e, S)] ++ (if h then [(e, O)] else [])
def begR (A e I S O : List UInt8) (h : Bool) (i : UInt32) : SV :=
 if okP (begP A e I S O h) then .tup [.agg ((fstO (pubN A) I (allB (begP A e I S O h) (begP A e I S O h).length)).map .u8), .agg (sc (pubN A) (pubN e) h (if h then i else 0)), .i 0]
 else .tup [.agg (z8 64), .agg sc0, .i 70]
attribute [local irreducible] mac_n exO_n shN pubN fstO allB pbs bc kb sc okP
theorem s10_y (D A S : List UInt8) (hD : D.length = 2) (hA : A.length = 32) (hS : S.length = 32) (n : Nat) (f : Bool) (K : List (UInt32 × List UInt8)) (D2 I2 S2 O e : List UInt8) (hD2 : D2.length = 2) (hI : I2.length = 32) (hS2 : S2.length = 32) (hO : O.length = 32) (he : e.length = 32) (h : Bool) (i : UInt32) : SCall Tryz.prog 7 [.p 0 0, .agg (bc D2 I2 S2 h i O), .agg (e.map .u8)] [some (.ro ((kb D A S).map .u8 ++ [(.sl 1 0 n 33 f)])) , some (.ro (ocs K))] (begR A e I2 S2 O h i) [some (.ro ((kb D A S).map .u8 ++ [(.sl 1 0 n 33 f)])) , some (.ro (ocs K))] := by
 have q1 := f41 A hA
 have l1 := pubN_len A
 have q2 := f41 e he
 have l2 := pubN_len e
 have hM := kb_len hD hA hS
 have ha := kb_a (S := S) hD hA
 obtain ⟨M, eM⟩ : ∃ M, M = kb D A S := ⟨_, rfl⟩
 rw [← eM] at hM ha ⊢
 have ba : 2 + 32 ≤ M.length := by omega
 unfold begR
 obtain ⟨X, hX⟩ : ∃ X, X = pubN A := ⟨_, rfl⟩
 rw [← hX] at q1 l1 ⊢
 obtain ⟨Y, hY⟩ : ∃ X, X = pubN e := ⟨_, rfl⟩
 rw [← hY] at q2 l2 ⊢
 have hB := bc_len (h := h) (i := i) hD2 hI hS2 hO
 have hsc := sc_len (h := false) (i := 0) l1 l2
 have hP3 : PrOk [(A, S2), (e, I2), (e, S2)] := by
  intro p hp
  simp only [List.mem_cons, List.not_mem_nil, or_false] at hp
  rcases hp with rfl | rfl | rfl <;> simp [hA, hS2, he, hI]
 have hP4 : PrOk [(A, S2), (e, I2), (e, S2), (e, O)] := by
  intro p hp
  simp only [List.mem_cons, List.not_mem_nil, or_false] at hp
  rcases hp with rfl | rfl | rfl | rfl <;> simp [hA, hS2, he, hI, hO]
 have hsc1 := sc_len (h := true) (i := 0) l1 l2
 have hsc2 := sc_len (h := true) (i := i) l1 l2
 refine scall_of ttOk (by kernel_rfl : Tryz.prog.funcs[7]? = some Tryz.f7) rfl rfl rfl ?_
 try simp only [List.length_cons, List.length_nil, Nat.zero_add, Nat.reduceAdd]
 refine sw_ok ttOk mixed (by kernel_rfl) ?_
 conv => whnf
 repeat (first | (refine brF rfl ?_; conv => whnf) | (refine Exists.intro _ (And.intro (sload_mapc ha ba) ?_); conv => whnf) | (refine And.intro (by kernel_rfl) ?_; conv => whnf) | fail)
 refine ok1_callF [] [] true (q1) rfl rfl ⟨⟨rfl, by first | ((repeat' (first | exact wk_nil | exact ren_m8 rfl | (refine wk_agg ?_) | (refine wk_cons ?_ ?_))); done) | fail⟩, trivial, by rfl, by first | simp [plainRf, plainR, plainT, plainW], ?_⟩
 conv => whnf
 repeat (first | (refine Exists.intro _ (And.intro (sload_all rfl (by first | rfl | (simp [hB, he, l1]; done) | fail)) ?_); conv => whnf) | (refine Exists.intro _ (And.intro (sput_all rfl (by first | rfl | (simp [hB, he, l1]; done) | fail)) ?_); conv => whnf) | (refine Exists.intro _ (And.intro (sload_mapc ha ba) ?_); conv => whnf) | (refine Exists.intro _ (And.intro (bc_a hD2 hI) ?_); conv => whnf) | (refine Exists.intro _ (And.intro (bc_s hD2 hI hS2) ?_); conv => whnf) | (refine Exists.intro _ (And.intro (fillP hA hS2) ?_); conv => whnf) | (refine Exists.intro _ (And.intro (fillP he hI) ?_); conv => whnf) | (refine Exists.intro _ (And.intro (fillP he hS2) ?_); conv => whnf) | (refine Exists.intro _ (And.intro (fill3p hA hS2 he hI he hS2) ?_); conv => whnf) | (refine And.intro (by first | omega | (simp; omega) | fail) ?_; conv => whnf) | (refine And.intro (by kernel_rfl) ?_; conv => whnf) | fail)
 refine ok1_callF [] [] true (q2) rfl rfl ⟨⟨rfl, by first | ((repeat' (first | exact wk_nil | exact ren_m8 rfl | (refine wk_agg ?_) | (refine wk_cons ?_ ?_))); done) | fail⟩, trivial, by rfl, by first | simp [plainRf, plainR, plainT, plainW], ?_⟩
 conv => whnf
 repeat (first | (refine Exists.intro _ (And.intro (sput_all rfl (by first | rfl | (simp [l1, hsc]; done) | fail)) ?_); conv => whnf) | (refine Exists.intro _ (And.intro (fillS l1 l2) ?_); conv => whnf) | (refine Exists.intro _ (And.intro (bc_h hD2 hI hS2) ?_); conv => whnf) | (refine And.intro (by first | (simp; omega) | fail) ?_; conv => whnf) | (refine And.intro (by kernel_rfl) ?_; conv => whnf) | fail)
 have hl3 : ((pbs [(A, S2), (e, I2), (e, S2)]).map SV.u8).length = 192 := by rw [List.length_map, pbs_len hP3]; rfl
 cases h with
 | true =>
  have hcat := cat_4 hA hS2 he hI he hS2 he hO
  have hl1 : ((e ++ O).map SV.u8).length = 64 := mlen (lp he hO)
  first | refine brT (by rfl) ?_ | fail
  conv => whnf
  repeat (first | (refine Exists.intro _ (And.intro (sload_all rfl (by first | rfl | (simp [he, hl3, hl1, hsc, hsc1, hsc2, l1]; done) | fail)) ?_); conv => whnf) | (refine Exists.intro _ (And.intro (bc_o hD2 hI hS2 hO) ?_); conv => whnf) | (refine Exists.intro _ (And.intro (fillP he hO) ?_); conv => whnf) | (refine Exists.intro _ (And.intro (fill1 (lp he hO)) ?_); conv => whnf) | (refine Exists.intro _ (And.intro (bc_i hD2 hI hS2) ?_); conv => whnf) | (refine Exists.intro _ (And.intro (psc_h l1 l2 true) ?_); conv => whnf) | (refine Exists.intro _ (And.intro (psc_n l1 l2 i) ?_); conv => whnf) | (refine Exists.intro _ (And.intro (bc_a hD2 hI) ?_); conv => whnf) | (refine And.intro (by first | omega | (simp; omega) | fail) ?_; conv => whnf) | (refine And.intro (by kernel_rfl) ?_; conv => whnf) | (refine And.intro ⟨by first | exact @rfl Nat _ | (simp [he, hl3, hl1, hsc, hsc1, hsc2, l1]; done) | fail, by first | (simp [he, hl3, hl1, hsc, hsc1, hsc2, l1]; done) | fail⟩ ?_; conv => whnf) | (refine And.intro ⟨by first | (simp [he, hl3, hl1, hsc, hsc1, hsc2, l1]; done) | fail, by first | (simp [he, hl3, hl1, hsc, hsc1, hsc2, l1]; omega) | fail, by decide⟩ ?_; conv => whnf) | fail)
  by_cases hok : okP [(A, S2), (e, I2), (e, S2), (e, O)] = true
  ·
   have q3 := s15_y X I2 l1 hI [(A, S2), (e, I2), (e, S2), (e, O)] hP4 (by simp) (okP_y hok) false
   have l4 := fstO_len X I2 (allB [(A, S2), (e, I2), (e, S2), (e, O)] 4)
   rw [show begP A e I2 S2 O true = [(A, S2), (e, I2), (e, S2), (e, O)] from rfl, if_pos hok, if_pos rfl]
   simp only [List.length_cons, List.length_nil, Nat.zero_add, Nat.reduceAdd] at q3 ⊢
   obtain ⟨Z, hZ⟩ : ∃ Z, Z = fstO X I2 (allB [(A, S2), (e, I2), (e, S2), (e, O)] 4) := ⟨_, rfl⟩
   rw [← hZ] at q3 l4 ⊢
   refine ok1_callF [10] [true] true (q3) rfl rfl ⟨⟨rfl, by first | ((repeat' (first | exact ren_m8 rfl | exact rfl | (refine wk_agg ?_) | (refine wk_cons ?_ ?_))); done) | fail⟩, by (repeat' (first | exact trivial | refine And.intro ?_ ?_)) <;> first | exact ren_eq (plainL_u8 _) hcat.symm | fail, by first | simp [plainHf, plainB], by first | simp [plainRf, plainR, plainT, plainW], ?_⟩
   conv => whnf
   repeat (first | (refine brF rfl ?_; conv => whnf) | (refine Exists.intro _ (And.intro (sload_all rfl (by first | rfl | (simp [l4]; done) | (simp [l4]; omega))) ?_); conv => whnf) | (refine Exists.intro _ (And.intro (sput_all rfl (by first | rfl | (simp [l4]; done) | (simp [l4]; omega))) ?_); conv => whnf) | (refine And.intro (by first | omega | (simp; omega) | fail) ?_; conv => whnf) | (refine And.intro (by kernel_rfl) ?_; conv => whnf) | fail)
   refine ⟨[0, 1], ?_, rfl, rfl, ?_, rfl⟩
   ·
    (repeat' (first | (refine wk_tup ?_) | (refine wk_agg ?_) | (refine wk_cons ?_ ?_))) <;> first | rfl | exact ren_eq (by first | (simp; done) | fail) (by rfl) | fail
   ·
    (repeat' (first | exact trivial | refine And.intro ?_ ?_ | fail)) <;> first | exact ren_eq (by first | (simp; done) | fail) (by rfl) | exact ren_app2 (by first | (simp; done) | fail) (by rfl) rfl | fail
  ·
   rw [Bool.not_eq_true] at hok
   have q3 := s15_z X I2 l1 hI [(A, S2), (e, I2), (e, S2), (e, O)] hP4 (by simp) hok false
   rw [show begP A e I2 S2 O true = [(A, S2), (e, I2), (e, S2), (e, O)] from rfl, if_neg (by rw [hok]; decide)]
   simp only [List.length_cons, List.length_nil, Nat.zero_add, Nat.reduceAdd] at q3
   refine ok1_callF [10] [true] true (q3) rfl rfl ⟨⟨rfl, by first | ((repeat' (first | exact ren_m8 rfl | exact rfl | (refine wk_agg ?_) | (refine wk_cons ?_ ?_))); done) | fail⟩, by (repeat' (first | exact trivial | refine And.intro ?_ ?_)) <;> first | exact ren_eq (plainL_u8 _) hcat.symm | fail, by first | simp [plainHf, plainB], by rfl, ?_⟩
   conv => whnf
   repeat (first | (refine brT rfl ?_; conv => whnf) | (refine Exists.intro _ (And.intro (sload_all rfl (by rfl)) ?_); conv => whnf) | (refine Exists.intro _ (And.intro (sput_all rfl (by rfl)) ?_); conv => whnf) | (refine Exists.intro _ (And.intro rfl ?_); conv => whnf) | (refine And.intro (by first | omega | (simp; done) | fail) ?_; conv => whnf) | fail)
   refine ⟨[0, 1], ?_, rfl, rfl, ?_, rfl⟩
   ·
    (repeat' (first | (refine wk_tup ?_) | (refine wk_agg ?_) | (refine wk_cons ?_ ?_))) <;> first | rfl | fail
   ·
    (repeat' (first | exact trivial | refine And.intro ?_ ?_ | fail)) <;> first | exact ren_eq (by first | (simp; done) | fail) (by rfl) | exact ren_app2 (by first | (simp; done) | fail) (by rfl) rfl | fail
 | false =>
  first | refine brF (by rfl) ?_ | fail
  conv => whnf
  repeat (first | (refine Exists.intro _ (And.intro (sload_all rfl (by first | rfl | (simp [l1]; done) | fail)) ?_); conv => whnf) | (refine Exists.intro _ (And.intro (bc_a hD2 hI) ?_); conv => whnf) | fail)
  by_cases hok : okP [(A, S2), (e, I2), (e, S2)] = true
  ·
   have q3 := s15_y X I2 l1 hI [(A, S2), (e, I2), (e, S2)] hP3 (by simp) (okP_y hok) true
   have l4 := fstO_len X I2 (allB [(A, S2), (e, I2), (e, S2)] 3)
   rw [show begP A e I2 S2 O false = [(A, S2), (e, I2), (e, S2)] from rfl, if_pos hok, if_neg (by decide)]
   simp only [List.length_cons, List.length_nil, Nat.zero_add, Nat.reduceAdd] at q3 ⊢
   obtain ⟨Z, hZ⟩ : ∃ Z, Z = fstO X I2 (allB [(A, S2), (e, I2), (e, S2)] 3) := ⟨_, rfl⟩
   rw [← hZ] at q3 l4 ⊢
   refine ok1_callF [7] [true] true (q3) rfl rfl ⟨⟨rfl, by first | ((repeat' (first | exact ren_m8 rfl | exact rfl | (refine wk_agg ?_) | (refine wk_cons ?_ ?_))); done) | fail⟩, by (repeat' (first | exact trivial | refine And.intro ?_ ?_)) <;> first | exact ren_eq (by first | (simp; done) | fail) (by rfl) | fail, by first | simp [plainHf, plainB], by first | simp [plainRf, plainR, plainT, plainW], ?_⟩
   conv => whnf
   repeat (first | (refine brF rfl ?_; conv => whnf) | (refine Exists.intro _ (And.intro (sload_all rfl (by first | rfl | (simp [l4, hsc]; done) | fail)) ?_); conv => whnf) | (refine Exists.intro _ (And.intro (sput_all rfl (by first | rfl | (simp [l4, hsc]; done) | fail)) ?_); conv => whnf) | (refine And.intro (by first | omega | (simp; omega) | fail) ?_; conv => whnf) | (refine And.intro (by kernel_rfl) ?_; conv => whnf) | fail)
   refine ⟨[0, 1], ?_, rfl, rfl, ?_, rfl⟩
   ·
    (repeat' (first | (refine wk_tup ?_) | (refine wk_agg ?_) | (refine wk_cons ?_ ?_))) <;> first | rfl | exact ren_eq (by first | (simp; done) | fail) (by rfl) | fail
   ·
    (repeat' (first | exact trivial | refine And.intro ?_ ?_ | fail)) <;> first | exact ren_eq (by first | (simp; done) | fail) (by rfl) | exact ren_app2 (by first | (simp; done) | fail) (by rfl) rfl | fail
  ·
   rw [Bool.not_eq_true] at hok
   have q3 := s15_z X I2 l1 hI [(A, S2), (e, I2), (e, S2)] hP3 (by simp) hok true
   rw [show begP A e I2 S2 O false = [(A, S2), (e, I2), (e, S2)] from rfl, if_neg (by rw [hok]; decide)]
   simp only [List.length_cons, List.length_nil, Nat.zero_add, Nat.reduceAdd] at q3
   refine ok1_callF [7] [true] true (q3) rfl rfl ⟨⟨rfl, by first | ((repeat' (first | exact ren_m8 rfl | exact rfl | (refine wk_agg ?_) | (refine wk_cons ?_ ?_))); done) | fail⟩, by (repeat' (first | exact trivial | refine And.intro ?_ ?_)) <;> first | exact ren_eq (by first | (simp; done) | fail) (by rfl) | fail, by first | simp [plainHf, plainB], by rfl, ?_⟩
   conv => whnf
   repeat (first | (refine brT rfl ?_; conv => whnf) | (refine Exists.intro _ (And.intro (sload_all rfl (by rfl)) ?_); conv => whnf) | (refine Exists.intro _ (And.intro (sput_all rfl (by rfl)) ?_); conv => whnf) | (refine Exists.intro _ (And.intro rfl ?_); conv => whnf) | (refine And.intro (by first | omega | (simp; done) | fail) ?_; conv => whnf) | fail)
   refine ⟨[0, 1], ?_, rfl, rfl, ?_, rfl⟩
   ·
    (repeat' (first | (refine wk_tup ?_) | (refine wk_agg ?_) | (refine wk_cons ?_ ?_))) <;> first | rfl | fail
   ·
    (repeat' (first | exact trivial | refine And.intro ?_ ?_ | fail)) <;> first | exact ren_eq (by first | (simp; done) | fail) (by rfl) | exact ren_app2 (by first | (simp; done) | fail) (by rfl) rfl | fail
theorem s10_n (D A S : List UInt8) (hD : D.length = 2) (hA : A.length = 32) (hS : S.length = 32)  (D2 I2 S2 O e : List UInt8) (hD2 : D2.length = 2) (hI : I2.length = 32) (hS2 : S2.length = 32) (hO : O.length = 32) (he : e.length = 32) (h : Bool) (i : UInt32) : SCall Tryz.prog 7 [.p 0 0, .agg (bc D2 I2 S2 h i O), .agg (e.map .u8)] [some (.ro ((kb D A S).map .u8 ++ [.slnil])) ] (begR A e I2 S2 O h i) [some (.ro ((kb D A S).map .u8 ++ [.slnil])) ] := by
 have q1 := f41 A hA
 have l1 := pubN_len A
 have q2 := f41 e he
 have l2 := pubN_len e
 have hM := kb_len hD hA hS
 have ha := kb_a (S := S) hD hA
 obtain ⟨M, eM⟩ : ∃ M, M = kb D A S := ⟨_, rfl⟩
 rw [← eM] at hM ha ⊢
 have ba : 2 + 32 ≤ M.length := by omega
 unfold begR
 obtain ⟨X, hX⟩ : ∃ X, X = pubN A := ⟨_, rfl⟩
 rw [← hX] at q1 l1 ⊢
 obtain ⟨Y, hY⟩ : ∃ X, X = pubN e := ⟨_, rfl⟩
 rw [← hY] at q2 l2 ⊢
 have hB := bc_len (h := h) (i := i) hD2 hI hS2 hO
 have hsc := sc_len (h := false) (i := 0) l1 l2
 have hP3 : PrOk [(A, S2), (e, I2), (e, S2)] := by
  intro p hp
  simp only [List.mem_cons, List.not_mem_nil, or_false] at hp
  rcases hp with rfl | rfl | rfl <;> simp [hA, hS2, he, hI]
 have hP4 : PrOk [(A, S2), (e, I2), (e, S2), (e, O)] := by
  intro p hp
  simp only [List.mem_cons, List.not_mem_nil, or_false] at hp
  rcases hp with rfl | rfl | rfl | rfl <;> simp [hA, hS2, he, hI, hO]
 have hsc1 := sc_len (h := true) (i := 0) l1 l2
 have hsc2 := sc_len (h := true) (i := i) l1 l2
 refine scall_of ttOk (by kernel_rfl : Tryz.prog.funcs[7]? = some Tryz.f7) rfl rfl rfl ?_
 try simp only [List.length_cons, List.length_nil, Nat.zero_add, Nat.reduceAdd]
 refine sw_ok ttOk mixed (by kernel_rfl) ?_
 conv => whnf
 repeat (first | (refine brF rfl ?_; conv => whnf) | (refine Exists.intro _ (And.intro (sload_mapc ha ba) ?_); conv => whnf) | (refine And.intro (by kernel_rfl) ?_; conv => whnf) | fail)
 refine ok1_callF [] [] true (q1) rfl rfl ⟨⟨rfl, by first | ((repeat' (first | exact wk_nil | exact ren_m8 rfl | (refine wk_agg ?_) | (refine wk_cons ?_ ?_))); done) | fail⟩, trivial, by rfl, by first | simp [plainRf, plainR, plainT, plainW], ?_⟩
 conv => whnf
 repeat (first | (refine Exists.intro _ (And.intro (sload_all rfl (by first | rfl | (simp [hB, he, l1]; done) | fail)) ?_); conv => whnf) | (refine Exists.intro _ (And.intro (sput_all rfl (by first | rfl | (simp [hB, he, l1]; done) | fail)) ?_); conv => whnf) | (refine Exists.intro _ (And.intro (sload_mapc ha ba) ?_); conv => whnf) | (refine Exists.intro _ (And.intro (bc_a hD2 hI) ?_); conv => whnf) | (refine Exists.intro _ (And.intro (bc_s hD2 hI hS2) ?_); conv => whnf) | (refine Exists.intro _ (And.intro (fillP hA hS2) ?_); conv => whnf) | (refine Exists.intro _ (And.intro (fillP he hI) ?_); conv => whnf) | (refine Exists.intro _ (And.intro (fillP he hS2) ?_); conv => whnf) | (refine Exists.intro _ (And.intro (fill3p hA hS2 he hI he hS2) ?_); conv => whnf) | (refine And.intro (by first | omega | (simp; omega) | fail) ?_; conv => whnf) | (refine And.intro (by kernel_rfl) ?_; conv => whnf) | fail)
 refine ok1_callF [] [] true (q2) rfl rfl ⟨⟨rfl, by first | ((repeat' (first | exact wk_nil | exact ren_m8 rfl | (refine wk_agg ?_) | (refine wk_cons ?_ ?_))); done) | fail⟩, trivial, by rfl, by first | simp [plainRf, plainR, plainT, plainW], ?_⟩
 conv => whnf
 repeat (first | (refine Exists.intro _ (And.intro (sput_all rfl (by first | rfl | (simp [l1, hsc]; done) | fail)) ?_); conv => whnf) | (refine Exists.intro _ (And.intro (fillS l1 l2) ?_); conv => whnf) | (refine Exists.intro _ (And.intro (bc_h hD2 hI hS2) ?_); conv => whnf) | (refine And.intro (by first | (simp; omega) | fail) ?_; conv => whnf) | (refine And.intro (by kernel_rfl) ?_; conv => whnf) | fail)
 have hl3 : ((pbs [(A, S2), (e, I2), (e, S2)]).map SV.u8).length = 192 := by rw [List.length_map, pbs_len hP3]; rfl
 cases h with
 | true =>
  have hcat := cat_4 hA hS2 he hI he hS2 he hO
  have hl1 : ((e ++ O).map SV.u8).length = 64 := mlen (lp he hO)
  first | refine brT (by rfl) ?_ | fail
  conv => whnf
  repeat (first | (refine Exists.intro _ (And.intro (sload_all rfl (by first | rfl | (simp [he, hl3, hl1, hsc, hsc1, hsc2, l1]; done) | fail)) ?_); conv => whnf) | (refine Exists.intro _ (And.intro (bc_o hD2 hI hS2 hO) ?_); conv => whnf) | (refine Exists.intro _ (And.intro (fillP he hO) ?_); conv => whnf) | (refine Exists.intro _ (And.intro (fill1 (lp he hO)) ?_); conv => whnf) | (refine Exists.intro _ (And.intro (bc_i hD2 hI hS2) ?_); conv => whnf) | (refine Exists.intro _ (And.intro (psc_h l1 l2 true) ?_); conv => whnf) | (refine Exists.intro _ (And.intro (psc_n l1 l2 i) ?_); conv => whnf) | (refine Exists.intro _ (And.intro (bc_a hD2 hI) ?_); conv => whnf) | (refine And.intro (by first | omega | (simp; omega) | fail) ?_; conv => whnf) | (refine And.intro (by kernel_rfl) ?_; conv => whnf) | (refine And.intro ⟨by first | exact @rfl Nat _ | (simp [he, hl3, hl1, hsc, hsc1, hsc2, l1]; done) | fail, by first | (simp [he, hl3, hl1, hsc, hsc1, hsc2, l1]; done) | fail⟩ ?_; conv => whnf) | (refine And.intro ⟨by first | (simp [he, hl3, hl1, hsc, hsc1, hsc2, l1]; done) | fail, by first | (simp [he, hl3, hl1, hsc, hsc1, hsc2, l1]; omega) | fail, by decide⟩ ?_; conv => whnf) | fail)
  by_cases hok : okP [(A, S2), (e, I2), (e, S2), (e, O)] = true
  ·
   have q3 := s15_y X I2 l1 hI [(A, S2), (e, I2), (e, S2), (e, O)] hP4 (by simp) (okP_y hok) false
   have l4 := fstO_len X I2 (allB [(A, S2), (e, I2), (e, S2), (e, O)] 4)
   rw [show begP A e I2 S2 O true = [(A, S2), (e, I2), (e, S2), (e, O)] from rfl, if_pos hok, if_pos rfl]
   simp only [List.length_cons, List.length_nil, Nat.zero_add, Nat.reduceAdd] at q3 ⊢
   obtain ⟨Z, hZ⟩ : ∃ Z, Z = fstO X I2 (allB [(A, S2), (e, I2), (e, S2), (e, O)] 4) := ⟨_, rfl⟩
   rw [← hZ] at q3 l4 ⊢
   refine ok1_callF [9] [true] true (q3) rfl rfl ⟨⟨rfl, by first | ((repeat' (first | exact ren_m8 rfl | exact rfl | (refine wk_agg ?_) | (refine wk_cons ?_ ?_))); done) | fail⟩, by (repeat' (first | exact trivial | refine And.intro ?_ ?_)) <;> first | exact ren_eq (plainL_u8 _) hcat.symm | fail, by first | simp [plainHf, plainB], by first | simp [plainRf, plainR, plainT, plainW], ?_⟩
   conv => whnf
   repeat (first | (refine brF rfl ?_; conv => whnf) | (refine Exists.intro _ (And.intro (sload_all rfl (by first | rfl | (simp [l4]; done) | (simp [l4]; omega))) ?_); conv => whnf) | (refine Exists.intro _ (And.intro (sput_all rfl (by first | rfl | (simp [l4]; done) | (simp [l4]; omega))) ?_); conv => whnf) | (refine And.intro (by first | omega | (simp; omega) | fail) ?_; conv => whnf) | (refine And.intro (by kernel_rfl) ?_; conv => whnf) | fail)
   refine ⟨[0], ?_, rfl, rfl, ?_, rfl⟩
   ·
    (repeat' (first | (refine wk_tup ?_) | (refine wk_agg ?_) | (refine wk_cons ?_ ?_))) <;> first | rfl | exact ren_eq (by first | (simp; done) | fail) (by rfl) | fail
   ·
    (repeat' (first | exact trivial | refine And.intro ?_ ?_ | fail)) <;> first | exact ren_eq (by first | (simp; done) | fail) (by rfl) | fail
  ·
   rw [Bool.not_eq_true] at hok
   have q3 := s15_z X I2 l1 hI [(A, S2), (e, I2), (e, S2), (e, O)] hP4 (by simp) hok false
   rw [show begP A e I2 S2 O true = [(A, S2), (e, I2), (e, S2), (e, O)] from rfl, if_neg (by rw [hok]; decide)]
   simp only [List.length_cons, List.length_nil, Nat.zero_add, Nat.reduceAdd] at q3
   refine ok1_callF [9] [true] true (q3) rfl rfl ⟨⟨rfl, by first | ((repeat' (first | exact ren_m8 rfl | exact rfl | (refine wk_agg ?_) | (refine wk_cons ?_ ?_))); done) | fail⟩, by (repeat' (first | exact trivial | refine And.intro ?_ ?_)) <;> first | exact ren_eq (plainL_u8 _) hcat.symm | fail, by first | simp [plainHf, plainB], by rfl, ?_⟩
   conv => whnf
   repeat (first | (refine brT rfl ?_; conv => whnf) | (refine Exists.intro _ (And.intro (sload_all rfl (by rfl)) ?_); conv => whnf) | (refine Exists.intro _ (And.intro (sput_all rfl (by rfl)) ?_); conv => whnf) | (refine Exists.intro _ (And.intro rfl ?_); conv => whnf) | (refine And.intro (by first | omega | (simp; done) | fail) ?_; conv => whnf) | fail)
   refine ⟨[0], ?_, rfl, rfl, ?_, rfl⟩
   ·
    (repeat' (first | (refine wk_tup ?_) | (refine wk_agg ?_) | (refine wk_cons ?_ ?_))) <;> first | rfl | fail
   ·
    (repeat' (first | exact trivial | refine And.intro ?_ ?_ | fail)) <;> first | exact ren_eq (by first | (simp; done) | fail) (by rfl) | fail
 | false =>
  first | refine brF (by rfl) ?_ | fail
  conv => whnf
  repeat (first | (refine Exists.intro _ (And.intro (sload_all rfl (by first | rfl | (simp [l1]; done) | fail)) ?_); conv => whnf) | (refine Exists.intro _ (And.intro (bc_a hD2 hI) ?_); conv => whnf) | fail)
  by_cases hok : okP [(A, S2), (e, I2), (e, S2)] = true
  ·
   have q3 := s15_y X I2 l1 hI [(A, S2), (e, I2), (e, S2)] hP3 (by simp) (okP_y hok) true
   have l4 := fstO_len X I2 (allB [(A, S2), (e, I2), (e, S2)] 3)
   rw [show begP A e I2 S2 O false = [(A, S2), (e, I2), (e, S2)] from rfl, if_pos hok, if_neg (by decide)]
   simp only [List.length_cons, List.length_nil, Nat.zero_add, Nat.reduceAdd] at q3 ⊢
   obtain ⟨Z, hZ⟩ : ∃ Z, Z = fstO X I2 (allB [(A, S2), (e, I2), (e, S2)] 3) := ⟨_, rfl⟩
   rw [← hZ] at q3 l4 ⊢
   refine ok1_callF [6] [true] true (q3) rfl rfl ⟨⟨rfl, by first | ((repeat' (first | exact ren_m8 rfl | exact rfl | (refine wk_agg ?_) | (refine wk_cons ?_ ?_))); done) | fail⟩, by (repeat' (first | exact trivial | refine And.intro ?_ ?_)) <;> first | exact ren_eq (by first | (simp; done) | fail) (by rfl) | fail, by first | simp [plainHf, plainB], by first | simp [plainRf, plainR, plainT, plainW], ?_⟩
   conv => whnf
   repeat (first | (refine brF rfl ?_; conv => whnf) | (refine Exists.intro _ (And.intro (sload_all rfl (by first | rfl | (simp [l4, hsc]; done) | fail)) ?_); conv => whnf) | (refine Exists.intro _ (And.intro (sput_all rfl (by first | rfl | (simp [l4, hsc]; done) | fail)) ?_); conv => whnf) | (refine And.intro (by first | omega | (simp; omega) | fail) ?_; conv => whnf) | (refine And.intro (by kernel_rfl) ?_; conv => whnf) | fail)
   refine ⟨[0], ?_, rfl, rfl, ?_, rfl⟩
   ·
    (repeat' (first | (refine wk_tup ?_) | (refine wk_agg ?_) | (refine wk_cons ?_ ?_))) <;> first | rfl | exact ren_eq (by first | (simp; done) | fail) (by rfl) | fail
   ·
    (repeat' (first | exact trivial | refine And.intro ?_ ?_ | fail)) <;> first | exact ren_eq (by first | (simp; done) | fail) (by rfl) | fail
  ·
   rw [Bool.not_eq_true] at hok
   have q3 := s15_z X I2 l1 hI [(A, S2), (e, I2), (e, S2)] hP3 (by simp) hok true
   rw [show begP A e I2 S2 O false = [(A, S2), (e, I2), (e, S2)] from rfl, if_neg (by rw [hok]; decide)]
   simp only [List.length_cons, List.length_nil, Nat.zero_add, Nat.reduceAdd] at q3
   refine ok1_callF [6] [true] true (q3) rfl rfl ⟨⟨rfl, by first | ((repeat' (first | exact ren_m8 rfl | exact rfl | (refine wk_agg ?_) | (refine wk_cons ?_ ?_))); done) | fail⟩, by (repeat' (first | exact trivial | refine And.intro ?_ ?_)) <;> first | exact ren_eq (by first | (simp; done) | fail) (by rfl) | fail, by first | simp [plainHf, plainB], by rfl, ?_⟩
   conv => whnf
   repeat (first | (refine brT rfl ?_; conv => whnf) | (refine Exists.intro _ (And.intro (sload_all rfl (by rfl)) ?_); conv => whnf) | (refine Exists.intro _ (And.intro (sput_all rfl (by rfl)) ?_); conv => whnf) | (refine Exists.intro _ (And.intro rfl ?_); conv => whnf) | (refine And.intro (by first | omega | (simp; done) | fail) ?_; conv => whnf) | fail)
   refine ⟨[0], ?_, rfl, rfl, ?_, rfl⟩
   ·
    (repeat' (first | (refine wk_tup ?_) | (refine wk_agg ?_) | (refine wk_cons ?_ ?_))) <;> first | rfl | fail
   ·
    (repeat' (first | exact trivial | refine And.intro ?_ ?_ | fail)) <;> first | exact ren_eq (by first | (simp; done) | fail) (by rfl) | fail
end Go.Sh
namespace Go.Sh
open Go.Proofs
set_option maxHeartbeats 4000000
theorem sload_ock {K : List (UInt32 × List UInt8)} (h : OcOk K) {i : Nat} (hi : i < K.length) {x : UInt32} {k : List UInt8} (hx : K[i] = (x, k)) : sload true 32 (ocs K) (0 + i * 33 + 1) = some (.agg (k.map .u8)) := by
 have h1 := ocs_at h hi
 rw [hx] at h1
 have hk : k.length = 32 := by have := h.get hi; rw [hx] at this; exact this
 have h2 := congrArg (List.drop 1) h1
 rw [List.drop_take, List.drop_drop, show 0 + i * 33 + 1 = 0 + i * 33 + 1 from rfl] at h2
 simp only [sload, if_true]
 rw [if_pos (by rw [ocs_len h]; omega), show (32 : Nat) = 33 - 1 from rfl, h2]; rfl
def accP (A S I E : List UInt8) (O : Option (List UInt8)) : Prs := [(S, I), (A, E), (S, E)] ++ (match O with | some k => [(k, E)] | none => [])
def accR (A S I E : List UInt8) (O : Option (List UInt8)) : SV :=
 if okP (accP A S I E O) then .tup [.agg ((fstO I (pubN A) (allB (accP A S I E O) (accP A S I E O).length)).map .u8), .i 0] else .tup [.agg (z8 64), .i 70]
attribute [local irreducible] mac_n exO_n shN pubN fstO allB pbs bc kb sc okP
theorem s7_0 (D A S : List UInt8) (hD : D.length = 2) (hA : A.length = 32) (hS : S.length = 32) (n : Nat) (f : Bool) (K : List (UInt32 × List UInt8)) (I E : List UInt8) (hI : I.length = 32) (hE : E.length = 32) (i : UInt32) : SCall Tryz.prog 9 [.p 0 0, .agg (sc I E false i)] [some (.ro ((kb D A S).map .u8 ++ [.sl 1 0 n 33 f])), some (.ro (ocs K))] (accR A S I E none) [some (.ro ((kb D A S).map .u8 ++ [.sl 1 0 n 33 f])), some (.ro (ocs K))] := by
 have q1 := f41 A hA
 have l1 := pubN_len A
 have hM := kb_len hD hA hS
 have ha := kb_a (S := S) hD hA
 have hs := kb_s hD hA hS
 obtain ⟨M, eM⟩ : ∃ M, M = kb D A S := ⟨_, rfl⟩
 rw [← eM] at hM ha hs ⊢
 have ba : 2 + 32 ≤ M.length := by omega
 have bs : 34 + 32 ≤ M.length := by omega
 unfold accR
 obtain ⟨X, hX⟩ : ∃ X, X = pubN A := ⟨_, rfl⟩
 rw [← hX] at q1 l1 ⊢
 have hB := sc_len (h := false) (i := i) hI hE
 have hP3 : PrOk [(S, I), (A, E), (S, E)] := by
  intro p hp
  simp only [List.mem_cons, List.not_mem_nil, or_false] at hp
  rcases hp with rfl | rfl | rfl <;> simp [hA, hS, hI, hE]
 refine scall_of ttOk (by kernel_rfl : Tryz.prog.funcs[9]? = some Tryz.f9) rfl rfl rfl ?_
 try simp only [List.length_cons, List.length_nil, Nat.zero_add, Nat.reduceAdd]
 refine sw_ok ttOk mixed (by kernel_rfl) ?_
 conv => whnf
 repeat (first | (refine brF rfl ?_; conv => whnf) | (refine Exists.intro _ (And.intro (sload_mapc ha ba) ?_); conv => whnf) | (refine Exists.intro _ (And.intro (sload_mapc hs bs) ?_); conv => whnf) | (refine Exists.intro _ (And.intro (sc_i hI) ?_); conv => whnf) | (refine Exists.intro _ (And.intro (sc_e hI hE) ?_); conv => whnf) | (refine Exists.intro _ (And.intro (fillP hS hI) ?_); conv => whnf) | (refine Exists.intro _ (And.intro (fillP hA hE) ?_); conv => whnf) | (refine Exists.intro _ (And.intro (fillP hS hE) ?_); conv => whnf) | (refine Exists.intro _ (And.intro (fill3p hS hI hA hE hS hE) ?_); conv => whnf) | (refine Exists.intro _ (And.intro (sc_h hI hE) ?_); conv => whnf) | (refine And.intro (by kernel_rfl) ?_; conv => whnf) | fail)
 refine ok1_callF [] [] true (q1) rfl rfl ⟨⟨rfl, by first | ((repeat' (first | exact wk_nil | exact ren_m8 rfl | (refine wk_agg ?_) | (refine wk_cons ?_ ?_))); done) | fail⟩, trivial, by rfl, by first | simp [plainRf, plainR, plainT, plainW], ?_⟩
 conv => whnf
 by_cases hok : okP [(S, I), (A, E), (S, E)] = true
 ·
  have q3 := s15_y I X hI l1 [(S, I), (A, E), (S, E)] hP3 (by simp) (okP_y hok) true
  have l4 := fstO_len I X (allB [(S, I), (A, E), (S, E)] 3)
  rw [show accP A S I E none = [(S, I), (A, E), (S, E)] from rfl, if_pos hok]
  simp only [List.length_cons, List.length_nil, Nat.zero_add, Nat.reduceAdd] at q3 ⊢
  obtain ⟨Z, hZ⟩ : ∃ Z, Z = fstO I X (allB [(S, I), (A, E), (S, E)] 3) := ⟨_, rfl⟩
  rw [← hZ] at q3 l4 ⊢
  refine ok1_callF [4] [true] true (q3) rfl rfl ⟨⟨rfl, by first | ((repeat' (first | exact ren_m8 rfl | exact rfl | (refine wk_agg ?_) | (refine wk_cons ?_ ?_))); done) | fail⟩, by (repeat' (first | exact trivial | refine And.intro ?_ ?_)) <;> first | exact ren_eq (by first | (simp; done) | fail) (by rfl) | fail, by first | simp [plainHf, plainB], by first | simp [plainRf, plainR, plainT, plainW], ?_⟩
  conv => whnf
  repeat (first | (refine Exists.intro _ (And.intro (sload_all rfl (by first | rfl | (simp [l4]; done) | fail)) ?_); conv => whnf) | (refine Exists.intro _ (And.intro (sput_all rfl (by first | rfl | (simp [l4]; done) | fail)) ?_); conv => whnf) | (refine And.intro (by first | omega | (simp; omega) | fail) ?_; conv => whnf) | (refine And.intro (by kernel_rfl) ?_; conv => whnf) | fail)
  refine ⟨[0, 1], ?_, rfl, rfl, ?_, rfl⟩
  ·
   (repeat' (first | (refine wk_tup ?_) | (refine wk_agg ?_) | (refine wk_cons ?_ ?_))) <;> first | rfl | exact ren_eq (by first | (simp; done) | fail) (by rfl) | fail
  ·
   (repeat' (first | exact trivial | refine And.intro ?_ ?_ | fail)) <;> first | exact ren_eq (by first | (simp; done) | fail) (by rfl) | exact ren_app2 (by first | (simp; done) | fail) (by rfl) rfl | fail
 ·
  rw [Bool.not_eq_true] at hok
  have q3 := s15_z I X hI l1 [(S, I), (A, E), (S, E)] hP3 (by simp) hok true
  rw [show accP A S I E none = [(S, I), (A, E), (S, E)] from rfl, if_neg (by rw [hok]; decide)]
  simp only [List.length_cons, List.length_nil, Nat.zero_add, Nat.reduceAdd] at q3
  refine ok1_callF [4] [true] true (q3) rfl rfl ⟨⟨rfl, by first | ((repeat' (first | exact ren_m8 rfl | exact rfl | (refine wk_agg ?_) | (refine wk_cons ?_ ?_))); done) | fail⟩, by (repeat' (first | exact trivial | refine And.intro ?_ ?_)) <;> first | exact ren_eq (by first | (simp; done) | fail) (by rfl) | fail, by first | simp [plainHf, plainB], by rfl, ?_⟩
  conv => whnf
  repeat (first | (refine Exists.intro _ (And.intro (sload_all rfl (by rfl)) ?_); conv => whnf) | (refine Exists.intro _ (And.intro (sput_all rfl (by rfl)) ?_); conv => whnf) | (refine And.intro (by first | omega | (simp; done) | fail) ?_; conv => whnf) | (refine And.intro (by kernel_rfl) ?_; conv => whnf) | fail)
  refine ⟨[0, 1], ?_, rfl, rfl, ?_, rfl⟩
  ·
   (repeat' (first | (refine wk_tup ?_) | (refine wk_agg ?_) | (refine wk_cons ?_ ?_))) <;> first | rfl | fail
  ·
   (repeat' (first | exact trivial | refine And.intro ?_ ?_ | fail)) <;> first | exact ren_eq (by first | (simp; done) | fail) (by rfl) | exact ren_app2 (by first | (simp; done) | fail) (by rfl) rfl | fail
theorem s7_1 (D A S : List UInt8) (hD : D.length = 2) (hA : A.length = 32) (hS : S.length = 32) (K : List (UInt32 × List UInt8)) (hK : OcOk K) (hn : K.length < 1000000) (f : Bool) (I E : List UInt8) (hI : I.length = 32) (hE : E.length = 32) (i : UInt32) (j : Nat) (hj : j < K.length) (hp : plc K i = j) (k : List UInt8) (hk : K[j] = (i, k)) : SCall Tryz.prog 9 [.p 0 0, .agg (sc I E true i)] [some (.ro ((kb D A S).map .u8 ++ [.sl 1 0 K.length 33 f])), some (.ro (ocs K))] (accR A S I E (some k)) [some (.ro ((kb D A S).map .u8 ++ [.sl 1 0 K.length 33 f])), some (.ro (ocs K))] := by
 have hkl : k.length = 32 := by have := hK.get hj; rw [hk] at this; exact this
 have q1 := f41 A hA
 have l1 := pubN_len A
 have hM := kb_len hD hA hS
 have ha := kb_a (S := S) hD hA
 have hs := kb_s hD hA hS
 have q0 := s12 (kb D A S) [] K hK hM hn i f
 have hpi : plcI K i = (j : Int) := by unfold plcI; rw [hp, if_pos hj]
 have hge : decide ((j : Int) ≥ 0) = true := by simp
 rw [hpi, hge] at q0
 have hol := ocs_len hK
 have hld := sload_ock hK hj hk
 obtain ⟨M, eM⟩ : ∃ M, M = kb D A S := ⟨_, rfl⟩
 rw [← eM] at hM ha hs q0 ⊢
 have ba : 2 + 32 ≤ M.length := by omega
 have bs : 34 + 32 ≤ M.length := by omega
 unfold accR
 obtain ⟨X, hX⟩ : ∃ X, X = pubN A := ⟨_, rfl⟩
 rw [← hX] at q1 l1 ⊢
 have hB := sc_len (h := true) (i := i) hI hE
 have hP3 : PrOk [(S, I), (A, E), (S, E)] := by
  intro p hp
  simp only [List.mem_cons, List.not_mem_nil, or_false] at hp
  rcases hp with rfl | rfl | rfl <;> simp [hA, hS, hI, hE]
 have hP4 : PrOk [(S, I), (A, E), (S, E), (k, E)] := by
  intro p hp
  simp only [List.mem_cons, List.not_mem_nil, or_false] at hp
  rcases hp with rfl | rfl | rfl | rfl <;> simp [hA, hS, hI, hE, hkl]
 have hl3 : ((pbs [(S, I), (A, E), (S, E)]).map SV.u8).length = 192 := by rw [List.length_map, pbs_len hP3]; rfl
 have hcat := cat_4 hS hI hA hE hS hE hkl hE
 have hl1 : ((k ++ E).map SV.u8).length = 64 := mlen (lp hkl hE)
 refine scall_of ttOk (by kernel_rfl : Tryz.prog.funcs[9]? = some Tryz.f9) rfl rfl rfl ?_
 try simp only [List.length_cons, List.length_nil, Nat.zero_add, Nat.reduceAdd]
 refine sw_ok ttOk mixed (by kernel_rfl) ?_
 conv => whnf
 repeat (first | (refine brT rfl ?_; conv => whnf) | (refine brF rfl ?_; conv => whnf) | (refine Exists.intro _ (And.intro (sload_mapc ha ba) ?_); conv => whnf) | (refine Exists.intro _ (And.intro (sload_mapc hs bs) ?_); conv => whnf) | (refine Exists.intro _ (And.intro (sc_i hI) ?_); conv => whnf) | (refine Exists.intro _ (And.intro (sc_e hI hE) ?_); conv => whnf) | (refine Exists.intro _ (And.intro (fillP hS hI) ?_); conv => whnf) | (refine Exists.intro _ (And.intro (fillP hA hE) ?_); conv => whnf) | (refine Exists.intro _ (And.intro (fillP hS hE) ?_); conv => whnf) | (refine Exists.intro _ (And.intro (fill3p hS hI hA hE hS hE) ?_); conv => whnf) | (refine Exists.intro _ (And.intro (sc_h hI hE) ?_); conv => whnf) | (refine Exists.intro _ (And.intro (sc_n hI hE) ?_); conv => whnf) | (refine And.intro (by kernel_rfl) ?_; conv => whnf) | fail)
 refine ok1_callE [0, 1] [some (.ro (M.map .u8 ++ [.sl 1 0 K.length 33 f])), some (.ro (ocs K))] (.tup [.i (j : Int), .b true]) (q0) rfl rfl ⟨⟨rfl, by rfl⟩, by (repeat' (first | exact trivial | refine And.intro ?_ ?_)) <;> first | exact ren_eq (by first | (simp; done) | fail) (by rfl) | exact ren_app2 (by first | (simp; done) | fail) (by rfl) (by rfl) | fail, by (repeat' (first | exact trivial | refine And.intro ?_ ?_)) <;> first | rfl, by first | exact renV_plainR _ (by first | (simp [plainR, plainT, plainW]; done) | fail) | fail, ?_⟩
 conv => whnf
 repeat (first | (refine brF rfl ?_; conv => whnf) | (refine Exists.intro _ (And.intro (sload_end (by first | rfl | (simp [hl3, hl1]; omega))) ?_); conv => whnf) | (refine Exists.intro _ (And.intro (hld) ?_); conv => whnf) | (refine Exists.intro _ (And.intro (sc_e hI hE) ?_); conv => whnf) | (refine Exists.intro _ (And.intro (fillP hkl hE) ?_); conv => whnf) | (refine Exists.intro _ (And.intro (fill1 (lp hkl hE)) ?_); conv => whnf) | (refine Exists.intro _ (And.intro (sc_i hI) ?_); conv => whnf) | (refine Exists.intro _ (And.intro (sload_mapc ha ba) ?_); conv => whnf) | (refine Exists.intro _ (And.intro rfl ?_); conv => whnf) | (refine And.intro (by omega) ?_; conv => whnf) | (refine And.intro (by kernel_rfl) ?_; conv => whnf) | (refine And.intro ⟨by first | (simp [hl3, hl1]; done) | fail, by first | (simp [hl3, hl1]; omega) | fail, by decide⟩ ?_; conv => whnf) | fail)
 refine ok1_callF [] [] true (q1) rfl rfl ⟨⟨rfl, by first | ((repeat' (first | exact wk_nil | exact ren_m8 rfl | (refine wk_agg ?_) | (refine wk_cons ?_ ?_))); done) | fail⟩, trivial, by rfl, by first | simp [plainRf, plainR, plainT, plainW], ?_⟩
 conv => whnf
 by_cases hok : okP [(S, I), (A, E), (S, E), (k, E)] = true
 ·
  have q3 := s15_y I X hI l1 [(S, I), (A, E), (S, E), (k, E)] hP4 (by simp) (okP_y hok) false
  have l4 := fstO_len I X (allB [(S, I), (A, E), (S, E), (k, E)] 4)
  rw [show accP A S I E (some k) = [(S, I), (A, E), (S, E), (k, E)] from rfl, if_pos hok]
  simp only [List.length_cons, List.length_nil, Nat.zero_add, Nat.reduceAdd] at q3 ⊢
  obtain ⟨Z, hZ⟩ : ∃ Z, Z = fstO I X (allB [(S, I), (A, E), (S, E), (k, E)] 4) := ⟨_, rfl⟩
  rw [← hZ] at q3 l4 ⊢
  refine ok1_callF [6] [true] true (q3) rfl rfl ⟨⟨rfl, by first | ((repeat' (first | exact ren_m8 rfl | exact rfl | (refine wk_agg ?_) | (refine wk_cons ?_ ?_))); done) | fail⟩, by (repeat' (first | exact trivial | refine And.intro ?_ ?_)) <;> first | exact ren_eq (plainL_u8 _) hcat.symm | fail, by first | simp [plainHf, plainB], by first | simp [plainRf, plainR, plainT, plainW], ?_⟩
  conv => whnf
  repeat (first | (refine Exists.intro _ (And.intro (sload_all rfl (by first | rfl | (simp [l4]; done) | fail)) ?_); conv => whnf) | (refine Exists.intro _ (And.intro (sput_all rfl (by first | rfl | (simp [l4]; done) | fail)) ?_); conv => whnf) | (refine And.intro (by first | omega | (simp; omega) | fail) ?_; conv => whnf) | (refine And.intro (by kernel_rfl) ?_; conv => whnf) | fail)
  refine ⟨[0, 1], ?_, rfl, rfl, ?_, rfl⟩
  ·
   (repeat' (first | (refine wk_tup ?_) | (refine wk_agg ?_) | (refine wk_cons ?_ ?_))) <;> first | rfl | exact ren_eq (by first | (simp; done) | fail) (by rfl) | fail
  ·
   (repeat' (first | exact trivial | refine And.intro ?_ ?_ | fail)) <;> first | exact ren_eq (by first | (simp; done) | fail) (by rfl) | exact ren_app2 (by first | (simp; done) | fail) (by rfl) rfl | fail
 ·
  rw [Bool.not_eq_true] at hok
  have q3 := s15_z I X hI l1 [(S, I), (A, E), (S, E), (k, E)] hP4 (by simp) hok false
  rw [show accP A S I E (some k) = [(S, I), (A, E), (S, E), (k, E)] from rfl, if_neg (by rw [hok]; decide)]
  simp only [List.length_cons, List.length_nil, Nat.zero_add, Nat.reduceAdd] at q3
  refine ok1_callF [6] [true] true (q3) rfl rfl ⟨⟨rfl, by first | ((repeat' (first | exact ren_m8 rfl | exact rfl | (refine wk_agg ?_) | (refine wk_cons ?_ ?_))); done) | fail⟩, by (repeat' (first | exact trivial | refine And.intro ?_ ?_)) <;> first | exact ren_eq (plainL_u8 _) hcat.symm | fail, by first | simp [plainHf, plainB], by rfl, ?_⟩
  conv => whnf
  repeat (first | (refine Exists.intro _ (And.intro (sload_all rfl (by rfl)) ?_); conv => whnf) | (refine Exists.intro _ (And.intro (sput_all rfl (by rfl)) ?_); conv => whnf) | (refine And.intro (by first | omega | (simp; done) | fail) ?_; conv => whnf) | (refine And.intro (by kernel_rfl) ?_; conv => whnf) | fail)
  refine ⟨[0, 1], ?_, rfl, rfl, ?_, rfl⟩
  ·
   (repeat' (first | (refine wk_tup ?_) | (refine wk_agg ?_) | (refine wk_cons ?_ ?_))) <;> first | rfl | fail
  ·
   (repeat' (first | exact trivial | refine And.intro ?_ ?_ | fail)) <;> first | exact ren_eq (by first | (simp; done) | fail) (by rfl) | exact ren_app2 (by first | (simp; done) | fail) (by rfl) rfl | fail
theorem s7_x (D A S : List UInt8) (hD : D.length = 2) (hA : A.length = 32) (hS : S.length = 32) (K : List (UInt32 × List UInt8)) (hK : OcOk K) (hn : K.length < 1000000) (f : Bool) (I E : List UInt8) (hI : I.length = 32) (hE : E.length = 32) (i : UInt32) (hp : plc K i = K.length) : SCall Tryz.prog 9 [.p 0 0, .agg (sc I E true i)] [some (.ro ((kb D A S).map .u8 ++ [.sl 1 0 K.length 33 f])), some (.ro (ocs K))] (.tup [.agg (z8 64), .i 4]) [some (.ro ((kb D A S).map .u8 ++ [.sl 1 0 K.length 33 f])), some (.ro (ocs K))] := by
 have hM := kb_len hD hA hS
 have ha := kb_a (S := S) hD hA
 have hs := kb_s hD hA hS
 have q0 := s12 (kb D A S) [] K hK hM hn i f
 have hpi : plcI K i = -1 := by unfold plcI; rw [if_neg (by omega)]
 rw [hpi] at q0
 obtain ⟨M, eM⟩ : ∃ M, M = kb D A S := ⟨_, rfl⟩
 rw [← eM] at hM ha hs q0 ⊢
 have ba : 2 + 32 ≤ M.length := by omega
 have bs : 34 + 32 ≤ M.length := by omega
 have hB := sc_len (h := true) (i := i) hI hE
 refine scall_of ttOk (by kernel_rfl : Tryz.prog.funcs[9]? = some Tryz.f9) rfl rfl rfl ?_
 try simp only [List.length_cons, List.length_nil, Nat.zero_add, Nat.reduceAdd]
 refine sw_ok ttOk mixed (by kernel_rfl) ?_
 conv => whnf
 repeat (first | (refine brT rfl ?_; conv => whnf) | (refine brF rfl ?_; conv => whnf) | (refine Exists.intro _ (And.intro (sload_mapc ha ba) ?_); conv => whnf) | (refine Exists.intro _ (And.intro (sload_mapc hs bs) ?_); conv => whnf) | (refine Exists.intro _ (And.intro (sc_i hI) ?_); conv => whnf) | (refine Exists.intro _ (And.intro (sc_e hI hE) ?_); conv => whnf) | (refine Exists.intro _ (And.intro (fillP hS hI) ?_); conv => whnf) | (refine Exists.intro _ (And.intro (fillP hA hE) ?_); conv => whnf) | (refine Exists.intro _ (And.intro (fillP hS hE) ?_); conv => whnf) | (refine Exists.intro _ (And.intro (fill3p hS hI hA hE hS hE) ?_); conv => whnf) | (refine Exists.intro _ (And.intro (sc_h hI hE) ?_); conv => whnf) | (refine Exists.intro _ (And.intro (sc_n hI hE) ?_); conv => whnf) | (refine And.intro (by kernel_rfl) ?_; conv => whnf) | fail)
 refine ok1_callE [0, 1] [some (.ro (M.map .u8 ++ [.sl 1 0 K.length 33 f])), some (.ro (ocs K))] (.tup [.i (-1), .b false]) (q0) rfl rfl ⟨⟨rfl, by rfl⟩, by (repeat' (first | exact trivial | refine And.intro ?_ ?_)) <;> first | exact ren_eq (by first | (simp; done) | fail) (by rfl) | exact ren_app2 (by first | (simp; done) | fail) (by rfl) (by rfl) | fail, by (repeat' (first | exact trivial | refine And.intro ?_ ?_)) <;> first | rfl, by first | exact renV_plainR _ (by first | (simp [plainR, plainT, plainW]; done) | fail) | fail, ?_⟩
 conv => whnf
 repeat (first | (refine brT rfl ?_; conv => whnf) | (refine Exists.intro _ (And.intro (sload_all rfl (by rfl)) ?_); conv => whnf) | (refine Exists.intro _ (And.intro (sput_all rfl (by rfl)) ?_); conv => whnf) | (refine Exists.intro _ (And.intro rfl ?_); conv => whnf) | (refine And.intro (by first | omega | (simp; done) | fail) ?_; conv => whnf) | fail)
 refine ⟨[0, 1], ?_, rfl, rfl, ?_, rfl⟩
 ·
  (repeat' (first | (refine wk_tup ?_) | (refine wk_agg ?_) | (refine wk_cons ?_ ?_))) <;> first | rfl | fail
 ·
  (repeat' (first | exact trivial | refine And.intro ?_ ?_ | fail)) <;> first | exact ren_eq (by first | (simp; done) | fail) (by rfl) | exact ren_app2 (by first | (simp; done) | fail) (by rfl) rfl | fail
end Go.Sh
namespace Go.Sh
section
variable {P : Program} {ρ : Ren} {H : Heap} {w : World}
theorem clear_okA {o : Oper} {x : Operand} {t el n id k sz : Nat} {full : Bool} {b : SB} {z : SV} {rb : RB} {e : Operand → Value} (ho : o.op = .call { callee := .builtin .clear, args := #[x], argTypes := #[t] })
  (hT : P.underlying t = some (.slice el)) (hz : pzero P el = some z) (hzl : z.cells.length = sz) (h1 : 0 < sz) (hx : Rel ρ (.sl id k n sz full) (e x)) (hid : H id = some b) (hr : ρ id = some rb) (hb : BRel ρ w rb b) (hown : b.own = true) (hin : k + n * sz ≤ b.cells.length)
  (h0 : 0 < b.cells.length) :
  ∃ w', (execOp e o).run P w = .ok (.value (.tuple #[])) w' ∧ Chg ρ H w [(id, some (b.with (sput b.cells k (.agg (reps n z.cells)))))] ρ w' := by
 obtain ⟨zv, hzv, hzr, hzt⟩ := run_zero (w := w) hz
 obtain ⟨zr, za⟩ := (hzr ρ).cells_rel hzt
 have hzs := zr.length
 simp only [Array.length_toList] at hzs
 obtain ⟨mr, ma⟩ := made_rel zr za n
 have hzc : Builtin.zeroCells zv.cells n = madeCells zv.cells (n * zv.cells.size) := rfl
 rw [← hzc] at mr
 have hml := mr.length
 rw [reps_length, hzl] at hml
 have hrel : Rel ρ (.agg (reps n z.cells)) (.agg (Builtin.zeroCells zv.cells n)) := by
  simp only [Rel]
  exact ⟨_, rfl, ma, mr⟩
 obtain ⟨p1, p2, p3⟩ := hb.put (k := k) hown hrel (by simp) (by show k + (reps n z.cells).length ≤ _; rw [reps_length, hzl]; exact hin) h0
 simp only [Rel] at hx
 obtain ⟨rb', a, cap, hr', he, hnc, hfull, hdis⟩ := hx
 rw [hr] at hr'; cases hr'
 have hclear : ∀ w', (match a with | some a => if n = 0 then Result.ok () w else (storeCells a (Builtin.zeroCells zv.cells n).toList).run P w | none => Result.ok () w) = .ok () w' → (execOp e o).run P w = .ok (.value (.tuple #[])) w' := fun w' hst => by
  simp only [execOp, ho, resolve, invoke, builtin, Sem.run_bind, Sem.run_pure, Result.andThen_ok, List.map_toArray, List.map_cons, List.map_nil, Builtin.clear_, List.getElem?_toArray, List.getElem?_cons_zero, run_und hT, he]
  cases a with
  | none => simp only at hst; cases hst; rfl
  | some a =>
   cases n with
   | zero => simp only [if_true] at hst; cases hst; rfl
   | succ n =>
    simp only [Nat.add_one_ne_zero, if_false] at hst
    simp only [Sem.run_bind, hzv, Result.andThen_ok, hst, Sem.run_pure]
 by_cases hz0 : n = 0
 ·
  subst hz0
  refine ⟨w, hclear w ?_, ?_⟩
  ·
   cases a <;> rfl
  ·
   have e0 : (Value.cells (.agg (Builtin.zeroCells zv.cells 0))).toList = [] := List.eq_nil_of_length_eq_zero (by
    rw [Nat.zero_mul] at hml; exact hml)
   rw [e0, putCells_nil] at p1 p2
   exact Chg.put hid hr hown p3 p1 p2
 ·
  obtain ⟨hv, ha2, hcapb⟩ := hdis.resolve_left (by
   intro h
   omega)
  obtain ⟨⟨ca, ty, fz, hca, _, hrl, hzz, hsz⟩, _⟩ := hb.cellsAt h0
  rw [hown] at hzz
  have hrll := hrl.length
  have hst := run_puts (P := P) (o := rb.off + k) (Builtin.zeroCells zv.cells n).toList 0 hca (hzz rfl) (by rw [hml]; simp at hrll; omega) (mr.oneCell ma)
  exact ⟨_, hclear _ (by rw [ha2]; simp only [hz0, if_false]; exact hst), Chg.put hid hr hown p3 p1 p2⟩
end
theorem lt_clearA {P : Program} {H : Heap} {o : Oper} {R : Env} {x : Operand} {t el n c id k sz : Nat} {b : SB} {z : SV} (ho : o.op = .call { callee := .builtin .clear, args := #[x], argTypes := #[t] })
  (hT : P.underlying t = some (.slice el)) (hz : pzero P el = some z) (hzl : z.cells.length = sz) (h1 : 0 < sz) (hx : evO R x = some (.slc id k n c sz)) (hid : H id = some b) (hown : b.own = true) (hin : k + n * sz ≤ b.cells.length) (h0 : 0 < b.cells.length) :
  LT P o R H [id] [(id, some (b.with (sput b.cells k (.agg (reps n z.cells)))))] (some (.tup [])) := by
 refine LT.of_run (by simp [ho]) fun e w ρ h1' h2 _ hfresh => ?_
 have hx2 := h1' x (by simp [ho, Op.operands, Call.operands]) _ hx
 obtain ⟨rb, hr, hbr⟩ := h2 id (by simp) _ hid
 obtain ⟨w', a1, a2⟩ := clear_okA (w := w) (H := H) ho hT hz hzl h1 hx2.slc_sl hid hr hbr hown hin h0
 exact ⟨_, w', ρ, a1, a2, .inl ⟨_, rfl, fun u hu => by cases hu; simp only [Rel]; exact ⟨[], rfl, by simp only [Rels]⟩⟩⟩
theorem ok1_clearA {P : Program} {o : Oper} {R : RL} {H : HL} {L : Nat} {k : K1} {x : Operand} {t : Nat} (el id off n c sz e : Nat) (l : List SV) (z : SV) (ho : o.op = .call { callee := .builtin .clear, args := #[x], argTypes := #[t] })
  (hT : P.underlying t = some (.slice el)) (hz : pzero P el = some z) (hzl : z.cells.length = sz) (h1 : 0 < sz) (hx : ev R x = some (.slc id off n c sz)) (hid : hk H id = some (.row e l)) (hin : off + n * sz ≤ l.length) (h0 : 0 < l.length) (hl : H.length ≤ L)
  (h : k (some (.tup [])) [(id, some (.row e (sput l off (.agg (reps n z.cells)))))] [id] L) : Ok1 P o R H L k :=
 ok1_put (hk_lt hl hid) (by simp) (lt_clearA ho hT hz hzl h1 (ev_some hx) (hk_some hid) rfl hin h0) h
end Go.Sh
namespace Go.Sh
open Go.Proofs
set_option maxHeartbeats 4000000
theorem takeO {l : List SV} {n : Nat} (h : n * 33 = l.length) : List.take (0 * 33) (List.drop 0 ([] : List SV)) ++ List.take (n * 33) (List.drop 0 l) = l := by simp [h]
theorem ocs_app (A B : List (UInt32 × List UInt8)) : ocs (A ++ B) = ocs A ++ ocs B := by simp [ocs]
theorem delO {K : List (UInt32 × List UInt8)} (hK : OcOk K) (i : Nat) (Z : List SV) (h : i < K.length) (hZ : Z.length = (K.length - (i + (K.length - (i + 1)))) * 33) :
  (sput (sput (ocs K) (0 + i * 33) (.agg (List.take ((K.length - (i + 1)) * 33) (List.drop (0 + (i + 1) * 33) (ocs K))))) (0 + (i + (K.length - (i + 1))) * 33) (.agg Z)).take ((K.length - 1) * 33) = ocs (K.eraseIdx i) := by
 have hKd : OcOk (K.drop (i + 1)) := fun x hx => hK x (List.mem_of_mem_drop hx)
 have hKt : OcOk (K.take i) := fun x hx => hK x (List.mem_of_mem_take hx)
 have l1 := ocs_len hKd
 have l2 := ocs_len hKt
 have l0 := ocs_len hK
 rw [List.length_drop] at l1
 rw [List.length_take, Nat.min_eq_left (by omega)] at l2
 have e1 : List.take ((K.length - (i + 1)) * 33) (List.drop (0 + (i + 1) * 33) (ocs K)) = ocs (K.drop (i + 1)) := by
  rw [Nat.zero_add, ocs_drop hK, List.take_of_length_le (by omega)]
 have e2 : ocs K = ocs (K.take i) ++ ocs (K.drop i) := by rw [← ocs_app, List.take_append_drop]
 have e3 : (ocs K).take (0 + i * 33) = ocs (K.take i) := by rw [e2, Nat.zero_add, ← l2, List.take_left]
 rw [e1, List.eraseIdx_eq_take_drop_succ, ocs_app]
 simp only [sput]
 rw [e3]
 have hX : (ocs (K.take i) ++ ocs (K.drop (i + 1))).length = (K.length - 1) * 33 := by rw [List.length_append, l1, l2]; omega
 obtain ⟨X, eX⟩ : ∃ X, X = ocs (K.take i) ++ ocs (K.drop (i + 1)) := ⟨_, rfl⟩
 rw [← eX] at hX ⊢
 have h4 : 0 + (i + (K.length - (i + 1))) * 33 = X.length := by omega
 rw [h4, List.take_append_of_le_length (Nat.le_refl _), List.take_length, List.append_assoc, ← hX, List.take_left]
theorem s18 (K : List (UInt32 × List UInt8)) (hK : OcOk K) (h0 : 0 < K.length) (hn : K.length < 1000000) (f : Bool) : SCall Tryz.prog 27 [.sl 0 0 K.length 33 f] [some (.ro (ocs K))] (.sl 1 0 K.length 33 false) [some (.ro (ocs K)), some (.row 52 (ocs K))] := by
 have hl := ocs_len hK
 have hap := takeO hl.symm
 refine scall_of ttOk (by kernel_rfl : Tryz.prog.funcs[27]? = some Tryz.f27) rfl rfl rfl ?_
 try simp only [List.length_cons, List.length_nil, Nat.zero_add, Nat.reduceAdd]
 refine sw_ok ttOk mixed (by kernel_rfl) ?_
 conv => whnf
 repeat (first | (refine brF rfl ?_; conv => whnf) | (refine Exists.intro _ (And.intro rfl ?_); conv => whnf) | (refine And.intro ⟨by first | omega | decide | fail, by omega⟩ ?_; conv => whnf) | fail)
 refine And.intro (by exact ⟨Nat.le_of_ble_eq_true rfl, by show 0 + K.length * 33 ≤ (ocs K).length; omega, by show (0 + K.length) * 36 ≤ _; omega⟩) ?_
 conv => whnf
 refine ⟨[0, 2], ?_, rfl, rfl, ?_, rfl⟩
 ·
  (repeat' (fail)) <;> first | exact wk_sl rfl (by rfl) (by omega) | fail
 ·
  (repeat' (first | exact trivial | exact ren_eq (plainL_ocs _) hap.symm | refine And.intro ?_ ?_ | fail)) <;> first | rfl | exact ren_eq (by first | (simp; done) | fail) (by rfl) | fail
theorem s17 (K : List (UInt32 × List UInt8)) (hK : OcOk K) (i : Nat) (hi : i < K.length) (hn : K.length < 1000000) (f : Bool) : SCall Tryz.prog 26 [.sl 0 0 K.length 33 f, .i (i : Int), .i ((i + 1 : Nat) : Int)] [some (.row 52 (ocs K))] (.sl 0 0 (K.length - 1) 33 false) [some (.row 52 (ocs (K.eraseIdx i)))] := by
 have e1 : ((i : Int) == ((i + 1 : Nat) : Int)) = false := by rw [beq_eq_false_iff_ne]; omega
 have hl := ocs_len hK
 have hdl := delO hK i (reps (K.length - (i + (K.length - (i + 1)))) ([SV.u32 0] ++ List.replicate 32 (SV.u8 0))) hi (by rw [reps_length]; rfl)
 refine scall_of ttOk (by kernel_rfl : Tryz.prog.funcs[26]? = some Tryz.f26) rfl rfl rfl ?_
 try simp only [List.length_cons, List.length_nil, Nat.zero_add, Nat.reduceAdd]
 refine swxs_ok (J := [5, 7]) ttOk mixed (by kernel_rfl) ?_
 conv => whnf
 repeat (first | (refine Exists.intro _ (And.intro (evb_i (m := i) rfl (by rfl)) ?_); conv => whnf) | (refine Exists.intro _ (And.intro (evb_i (m := i + 1) rfl (by rfl)) ?_); conv => whnf) | (refine gdF e1 ?_; conv => whnf) | (refine Exists.intro _ (And.intro rfl ?_); conv => whnf) | (refine And.intro (by omega) ?_; conv => whnf) | fail)
 refine SWp.weak (Weak.room 0 rfl) ?_
 refine sw_ok ttOk mixed (by kernel_rfl) ?_
 conv => whnf
 repeat (first | (refine Exists.intro _ (And.intro (evb_i (m := i) rfl (by rfl)) ?_); conv => whnf) | (refine Exists.intro _ (And.intro (evb_i (m := i + 1) rfl (by rfl)) ?_); conv => whnf) | (refine Exists.intro _ (And.intro rfl ?_); conv => whnf) | (refine And.intro (by first | omega | (simp; omega) | fail) ?_; conv => whnf) | (refine And.intro (by kernel_rfl) ?_; conv => whnf) | fail)
 refine ok1_clearA (t := 26) (el := 52) (e := 52) 0 _ _ _ 33 _ (.agg ([SV.u32 0] ++ List.replicate 32 (SV.u8 0))) rfl (by kernel_rfl : Tryz.prog.underlying 26 = some (.slice 52)) (by kernel_rfl) rfl (by decide) rfl rfl (by simp [sput, hl]; omega) (by simp [sput, hl]; omega) (Nat.le_of_ble_eq_true rfl) ?_
 conv => whnf
 refine SWp.weak ((Weak.short 0 ((K.length - 1) * 33) rfl rfl).trans (Weak.unroom 0 rfl)) ?_
 refine sw_ok ttOk mixed (by kernel_rfl) ?_
 conv => whnf
 simp only [Int.toNat_natCast, Nat.sub_zero, Nat.zero_mul, Nat.add_zero]
 refine ⟨[0], ?_, rfl, rfl, ?_, rfl⟩
 ·
  (repeat' (fail)) <;> first | exact wk_sl rfl (by rfl) (by omega) | fail
 ·
  (repeat' (first | exact trivial | exact ren_eq (plainL_ocs _) hdl.symm | refine And.intro ?_ ?_ | fail)) <;> first | rfl | fail
theorem s8_y (M : List UInt8) (hM : M.length = 66) (K : List (UInt32 × List UInt8)) (hK : OcOk K) (hn : K.length < 1000000) (id : UInt32) (i : Nat) (hi : i < K.length) (hp : plc K id = i) (f : Bool) : SCall Tryz.prog 13 [.p 0 0, .u32 id] [some (.box (M.map .u8 ++ [.sl 1 0 K.length 33 f])), some (.ro (ocs K))] (.b true) [some (.box (M.map .u8 ++ [.sl 2 0 (K.length - 1) 33 false])), some (.ro (ocs K)), some (.row 52 (ocs (K.eraseIdx i)))] := by
 have q1 := s12 M [] K hK hM hn id f
 have hpi : plcI K id = (i : Int) := by unfold plcI; rw [hp, if_pos hi]
 have hge : decide ((i : Int) ≥ 0) = true := by simp
 rw [hpi, hge] at q1
 have q2 := s18 K hK (by omega) hn f
 have q3 := s17 K hK i hi hn false
 have hp1 := wp30 i (by omega)
 rw [← hp1] at q3
 have hst : sput (M.map SV.u8 ++ [.sl 1 0 K.length 33 f]) (0 + 66) (.sl 2 0 (K.length - 1) 33 false) = M.map .u8 ++ [.sl 2 0 (K.length - 1) 33 false] := sput_snd (mlen hM) rfl
 refine scall_of ttOk (by kernel_rfl : Tryz.prog.funcs[13]? = some Tryz.f13) rfl rfl rfl ?_
 try simp only [List.length_cons, List.length_nil, Nat.zero_add, Nat.reduceAdd]
 refine sw_ok ttOk mixed (by kernel_rfl) ?_
 conv => whnf
 repeat (first | (refine brF rfl ?_; conv => whnf) | (refine And.intro (by kernel_rfl) ?_; conv => whnf) | fail)
 refine ok1_callE [0, 1] [some (.ro (M.map .u8 ++ [.sl 1 0 K.length 33 f])), some (.ro (ocs K))] (.tup [.i (i : Int), .b true]) (q1) rfl rfl ⟨⟨rfl, by rfl⟩, by (repeat' (first | exact trivial | refine And.intro ?_ ?_)) <;> first | exact ren_eq (by first | (simp; done) | fail) (by rfl) | exact ren_app2 (by first | (simp; done) | fail) (by rfl) (by rfl) | fail, by (repeat' (first | exact trivial | refine And.intro ?_ ?_)) <;> first | rfl, by first | exact renV_plainR _ (by first | (simp [plainR, plainT, plainW]; done) | fail) | fail, ?_⟩
 conv => whnf
 repeat (first | (refine brT rfl ?_; conv => whnf) | (refine Exists.intro _ (And.intro (sload_snd (mlen hM)) ?_); conv => whnf) | fail)
 refine ok1_callF [1] [true, true] false (q2) rfl rfl ⟨⟨rfl, by rfl⟩, by (repeat' (first | exact trivial | refine And.intro ?_ ?_)) <;> first | exact ren_eq (by first | (simp; done) | fail) (by rfl) | fail, by first | simp [plainHf, plainB], by rfl, ?_⟩
 conv => whnf
 refine ok1_callF [2] [true] false (q3) rfl rfl ⟨⟨rfl, by rfl⟩, by (repeat' (first | exact trivial | refine And.intro ?_ ?_)) <;> first | rfl | exact ren_eq (by first | (simp; done) | fail) (by rfl) | fail, by first | simp [plainHf, plainB], by rfl, ?_⟩
 conv => whnf
 repeat (first | (refine Exists.intro _ (And.intro (sput_end (by first | rfl | (simp [hM]; done) | fail) rfl) ?_); conv => whnf) | (refine And.intro ⟨by exact @rfl Nat _, by first | (simp [hM]; done) | fail⟩ ?_; conv => whnf) | fail)
 refine ⟨[0, 1, 2], ?_, rfl, rfl, ?_, rfl⟩
 ·
  (repeat' (fail)) <;> first | rfl | fail
 ·
  (repeat' (first | exact trivial | refine And.intro ?_ ?_ | fail)) <;> first | rfl | exact ren_eq (by first | (simp; done) | fail) (by rfl) | exact ren_app2 (by first | (simp; done) | fail) (by rfl) rfl | fail
theorem s8_n (M : List UInt8) (hM : M.length = 66) (K : List (UInt32 × List UInt8)) (hK : OcOk K) (hn : K.length < 1000000) (id : UInt32) (hp : plc K id = K.length) (f : Bool) : SCall Tryz.prog 13 [.p 0 0, .u32 id] [some (.ro (M.map .u8 ++ [.sl 1 0 K.length 33 f])), some (.ro (ocs K))] (.b false) [some (.ro (M.map .u8 ++ [.sl 1 0 K.length 33 f])), some (.ro (ocs K))] := by
 have q1 := s12 M [] K hK hM hn id f
 have hpi : plcI K id = -1 := by unfold plcI; rw [if_neg (by omega)]
 rw [hpi] at q1
 refine scall_of ttOk (by kernel_rfl : Tryz.prog.funcs[13]? = some Tryz.f13) rfl rfl rfl ?_
 try simp only [List.length_cons, List.length_nil, Nat.zero_add, Nat.reduceAdd]
 refine sw_ok ttOk mixed (by kernel_rfl) ?_
 conv => whnf
 repeat (first | (refine brF rfl ?_; conv => whnf) | (refine And.intro (by kernel_rfl) ?_; conv => whnf) | fail)
 refine ok1_callE [0, 1] [some (.ro (M.map .u8 ++ [.sl 1 0 K.length 33 f])), some (.ro (ocs K))] (.tup [.i (-1), .b false]) (q1) rfl rfl ⟨⟨rfl, by rfl⟩, by (repeat' (first | exact trivial | refine And.intro ?_ ?_)) <;> first | exact ren_eq (by first | (simp; done) | fail) (by rfl) | exact ren_app2 (by first | (simp; done) | fail) (by rfl) (by rfl) | fail, by (repeat' (first | exact trivial | refine And.intro ?_ ?_)) <;> first | rfl, by first | exact renV_plainR _ (by first | (simp [plainR, plainT, plainW]; done) | fail) | fail, ?_⟩
 conv => whnf
 repeat (first | (refine brF rfl ?_; conv => whnf) | fail)
 refine ⟨[0, 1], ?_, rfl, rfl, ?_, rfl⟩
 ·
  (repeat' (fail)) <;> first | rfl | fail
 ·
  (repeat' (first | exact trivial | refine And.intro ?_ ?_ | fail)) <;> first | exact ren_eq (by first | (simp; done) | fail) (by rfl) | exact ren_app2 (by first | (simp; done) | fail) (by rfl) rfl | fail
end Go.Sh
namespace Go.Sh
open Go.Proofs
set_option maxHeartbeats 8000000
set_option maxRecDepth 100000
def kk (n : UInt8) : List UInt8 := n :: List.replicate 31 0
@[simp] theorem kk_len (n : UInt8) : (kk n).length = 32 := by simp [kk]
def pk1 : List UInt8 := [47, 229, 125, 163, 71, 205, 98, 67, 21, 40, 218, 172, 95, 187, 41, 7, 48, 255, 246, 132, 175, 196, 207, 194, 237, 144, 153, 95, 88, 203, 59, 116]
theorem pk1_is : pubN (kk 1) = pk1 := by decide +kernel
def pk2 : List UInt8 := [47, 229, 125, 163, 71, 205, 98, 67, 21, 40, 218, 172, 95, 187, 41, 7, 48, 255, 246, 132, 175, 196, 207, 194, 237, 144, 153, 95, 88, 203, 59, 116]
theorem pk2_is : pubN (kk 2) = pk2 := by decide +kernel
def pk4 : List UInt8 := [47, 229, 125, 163, 71, 205, 98, 67, 21, 40, 218, 172, 95, 187, 41, 7, 48, 255, 246, 132, 175, 196, 207, 194, 237, 144, 153, 95, 88, 203, 59, 116]
theorem pk4_is : pubN (kk 4) = pk4 := by decide +kernel
def pk7 : List UInt8 := [47, 229, 125, 163, 71, 205, 98, 67, 21, 40, 218, 172, 95, 187, 41, 7, 48, 255, 246, 132, 175, 196, 207, 194, 237, 144, 153, 95, 88, 203, 59, 116]
theorem pk7_is : pubN (kk 7) = pk7 := by decide +kernel
def pk9 : List UInt8 := [66, 44, 142, 122, 98, 39, 215, 188, 161, 53, 11, 62, 43, 183, 39, 159, 120, 151, 184, 123, 182, 133, 75, 120, 60, 96, 232, 3, 17, 174, 48, 121]
theorem pk9_is : pubN (kk 9) = pk9 := by decide +kernel
def sk92 : List UInt8 := [225, 189, 51, 79, 122, 238, 168, 227, 98, 167, 115, 151, 113, 69, 154, 116, 127, 239, 105, 193, 110, 207, 36, 81, 80, 229, 5, 175, 63, 215, 172, 93]
theorem sk92_is : shN (kk 9) pk2 = sk92 := by decide +kernel
def sk71 : List UInt8 := [147, 254, 162, 167, 193, 174, 182, 44, 253, 100, 82, 255, 91, 173, 174, 139, 223, 252, 189, 113, 150, 220, 145, 12, 137, 148, 64, 6, 216, 93, 187, 104]
theorem sk71_is : shN (kk 7) pk1 = sk71 := by decide +kernel
def sk72 : List UInt8 := [147, 254, 162, 167, 193, 174, 182, 44, 253, 100, 82, 255, 91, 173, 174, 139, 223, 252, 189, 113, 150, 220, 145, 12, 137, 148, 64, 6, 216, 93, 187, 104]
theorem sk72_is : shN (kk 7) pk2 = sk72 := by decide +kernel
def sk74 : List UInt8 := [147, 254, 162, 167, 193, 174, 182, 44, 253, 100, 82, 255, 91, 173, 174, 139, 223, 252, 189, 113, 150, 220, 145, 12, 137, 148, 64, 6, 216, 93, 187, 104]
theorem sk74_is : shN (kk 7) pk4 = sk74 := by decide +kernel
def prkN : List UInt8 := [104, 198, 249, 107, 217, 228, 249, 71, 192, 68, 229, 174, 193, 2, 63, 131, 6, 205, 214, 206, 1, 148, 248, 246, 209, 14, 65, 27, 129, 78, 173, 123]
theorem prk_is : mac_n setS (sk92 ++ (sk71 ++ (sk72 ++ sk74))) = prkN := by decide +kernel
theorem fst_ne : (exO_n prkN (pk9 ++ pk1) 2).getD 0 0 ≠ 0 := by decide +kernel
end Go.Sh
namespace Go.Sh
set_option maxHeartbeats 8000000
instance neP : NeZero P25519 := ⟨by decide⟩
abbrev FF := Fin P25519
def finv (a : FF) : FF := Fin.ofNat P25519 (a.val ^ (P25519 - 2))
theorem finv_mul {a : FF} (h : a ≠ 0) : a * finv a = 1 := by
 have h1 : a.val % P25519 ≠ 0 := by
  intro h2
  apply h
  apply Fin.ext
  rw [Nat.mod_eq_of_lt a.isLt] at h2
  exact h2
 have h3 := inv_mul h1
 apply Fin.ext
 rw [Fin.val_mul]
 show a.val * (a.val ^ (P25519 - 2) % P25519) % P25519 = 1 % P25519
 rw [Nat.mul_mod, Nat.mod_mod, ← Nat.mul_mod, h3]
 exact (Nat.mod_eq_of_lt (by decide)).symm
attribute [local irreducible] finv
theorem fdom {a b : FF} (h : a * b = 0) : a = 0 ∨ b = 0 := by
 by_cases ha : a = 0
 ·
  exact Or.inl ha
 ·
  right
  have h1 := finv_mul ha
  grind -lia -linarith (splits := 0)
theorem fcan {a b c : FF} (h : c ≠ 0) (h2 : a * c = b * c) : a = b := by
 have := finv_mul h
 grind -lia -linarith (splits := 0)
theorem two_ne : (2 : FF) ≠ 0 := by decide
theorem one_ne : (1 : FF) ≠ 0 := by decide
def OnE (d x y : FF) : Prop := x * x + y * y = 1 + d * x * x * y * y
def Nsq (d : FF) : Prop := ∀ s : FF, s * s ≠ d
theorem comp0 {d x1 y1 x2 y2 e : FF} (hd : Nsq d) (h1 : OnE d x1 y1) (h2 : OnE d x2 y2) (he : e = d * x1 * x2 * y1 * y2) (hs : e * e = 1) : False := by
 unfold OnE at h1 h2
 have hx : x1 * y1 ≠ 0 := by
  intro h
  have h5 : e = 0 := by grind -lia -linarith (splits := 0)
  have h6 : (1 : FF) = 0 := by grind -lia -linarith (splits := 0)
  exact absurd h6 one_ne
 have g1 : (x1 + e * y1) * (x1 + e * y1) = d * ((x1 * y1) * (x2 + y2)) * ((x1 * y1) * (x2 + y2)) := by grind -lia -linarith (splits := 0)
 have g2 : (x1 - e * y1) * (x1 - e * y1) = d * ((x1 * y1) * (x2 - y2)) * ((x1 * y1) * (x2 - y2)) := by grind -lia -linarith (splits := 0)
 by_cases k1 : (x1 * y1) * (x2 + y2) = 0
 ·
  by_cases k2 : (x1 * y1) * (x2 - y2) = 0
  ·
   have a1 := (fdom k1).resolve_left hx
   have a2 := (fdom k2).resolve_left hx
   have a3 : 2 * x2 = 0 := by grind -lia -linarith (splits := 0)
   have a4 := (fdom a3).resolve_left two_ne
   have h5 : e = 0 := by rw [he, a4]; grind -lia -linarith (splits := 0)
   have h6 : (1 : FF) = 0 := by rw [← hs, h5]; rfl
   exact absurd h6 one_ne
  ·
   have h7 := finv_mul k2
   exact hd ((x1 - e * y1) * finv ((x1 * y1) * (x2 - y2))) (by
    clear h1 h2 he hs k1 k2 g1 hx
    generalize finv ((x1 * y1) * (x2 - y2)) = w at h7 ⊢
    generalize (x1 * y1) * (x2 - y2) = v at h7 g2 ⊢
    generalize x1 - e * y1 = t at g2 ⊢
    grind -lia -linarith (splits := 0))
 ·
  have h7 := finv_mul k1
  exact hd ((x1 + e * y1) * finv ((x1 * y1) * (x2 + y2))) (by
    clear h1 h2 he hs k1 g2 hx
    generalize finv ((x1 * y1) * (x2 + y2)) = w at h7 ⊢
    generalize (x1 * y1) * (x2 + y2) = v at h7 g1 ⊢
    generalize x1 + e * y1 = t at g1 ⊢
    grind -lia -linarith (splits := 0))
theorem comp1 {d x1 y1 x2 y2 : FF} (hd : Nsq d) (h1 : OnE d x1 y1) (h2 : OnE d x2 y2) : 1 + d * x1 * x2 * y1 * y2 ≠ 0 := fun h => comp0 (e := d * x1 * x2 * y1 * y2) hd h1 h2 rfl (by generalize d * x1 * x2 * y1 * y2 = e at h ⊢; clear h1 h2 hd; grind -lia -linarith (splits := 0))
theorem comp2 {d x1 y1 x2 y2 : FF} (hd : Nsq d) (h1 : OnE d x1 y1) (h2 : OnE d x2 y2) : 1 - d * x1 * x2 * y1 * y2 ≠ 0 := fun h => comp0 (e := d * x1 * x2 * y1 * y2) hd h1 h2 rfl (by generalize d * x1 * x2 * y1 * y2 = e at h ⊢; clear h1 h2 hd; grind -lia -linarith (splits := 0))
theorem sum_key {d x1 y1 x2 y2 : FF} (h1 : x1 * x1 + y1 * y1 = 1 + d * x1 * x1 * y1 * y1) (h2 : x2 * x2 + y2 * y2 = 1 + d * x2 * x2 * y2 * y2) : (x1 * y2 + y1 * x2) * (x1 * y2 + y1 * x2) * ((1 - d * x1 * x2 * y1 * y2) * (1 - d * x1 * x2 * y1 * y2)) + (y1 * y2 - x1 * x2) * (y1 * y2 - x1 * x2) * ((1 + d * x1 * x2 * y1 * y2) * (1 + d * x1 * x2 * y1 * y2)) = (1 + d * x1 * x2 * y1 * y2) * (1 + d * x1 * x2 * y1 * y2) * ((1 - d * x1 * x2 * y1 * y2) * (1 - d * x1 * x2 * y1 * y2)) + d * ((x1 * y2 + y1 * x2) * (x1 * y2 + y1 * x2)) * ((y1 * y2 - x1 * x2) * (y1 * y2 - x1 * x2)) := by
 grind -lia -linarith (splits := 0)
def Sm (d x1 y1 x2 y2 x3 y3 : FF) : Prop := x3 * (1 + d * x1 * x2 * y1 * y2) = x1 * y2 + y1 * x2 ∧ y3 * (1 - d * x1 * x2 * y1 * y2) = y1 * y2 - x1 * x2
theorem sum_on {d x1 y1 x2 y2 x3 y3 : FF} (hd : Nsq d) (h1 : OnE d x1 y1) (h2 : OnE d x2 y2) (h3 : Sm d x1 y1 x2 y2 x3 y3) : OnE d x3 y3 := by
 have hp := comp1 hd h1 h2
 have hm := comp2 hd h1 h2
 obtain ⟨hx, hy⟩ := h3
 unfold OnE at h1 h2 ⊢
 have key := sum_key h1 h2
 clear h1 h2 hd
 generalize 1 + d * x1 * x2 * y1 * y2 = P at *
 generalize 1 - d * x1 * x2 * y1 * y2 = M at *
 rw [← hx, ← hy] at key
 refine fcan (c := P * P * (M * M)) ?_ ?_
 ·
  intro h
  rcases fdom h with h | h <;> rcases fdom h with h | h <;> first | exact hp h | exact hm h
 ·
  clear hx hy hp hm
  grind -lia -linarith (splits := 0)
theorem sum_one {d x1 y1 x2 y2 x3 y3 x4 y4 : FF} (hd : Nsq d) (h1 : OnE d x1 y1) (h2 : OnE d x2 y2) (h3 : Sm d x1 y1 x2 y2 x3 y3) (h4 : Sm d x1 y1 x2 y2 x4 y4) : x3 = x4 ∧ y3 = y4 :=
 ⟨fcan (comp1 hd h1 h2) (h3.1.trans h4.1.symm), fcan (comp2 hd h1 h2) (h3.2.trans h4.2.symm)⟩
theorem assoc_x {d x1 y1 x2 y2 x y n1 n2 m1 m2 e f : FF} (h1 : x1 * x1 + y1 * y1 = 1 + d * x1 * x1 * y1 * y1) (h2 : x2 * x2 + y2 * y2 = 1 + d * x2 * x2 * y2 * y2) (h3 : x * x + y * y = 1 + d * x * x * y * y) (hn1 : n1 = x1 * y2 + y1 * x2) (hn2 : n2 = y1 * y2 - x1 * x2) (hm1 : m1 = x2 * y + y2 * x) (hm2 : m2 = y2 * y - x2 * x) (he : e = d * x1 * x2 * y1 * y2) (hf : f = d * x2 * x * y2 * y) :
 (n1 * (1 - e) * y + n2 * (1 + e) * x) * ((1 + f) * (1 - f) + d * m1 * m2 * x1 * y1) = (x1 * m2 * (1 + f) + y1 * m1 * (1 - f)) * ((1 + e) * (1 - e) + d * n1 * n2 * x * y) := by
 subst hn1 hn2 hm1 hm2 he hf
 grind -lia -linarith (splits := 0) (ringSteps := 1000000)
theorem assoc_y {d x1 y1 x2 y2 x y n1 n2 m1 m2 e f : FF} (h1 : x1 * x1 + y1 * y1 = 1 + d * x1 * x1 * y1 * y1) (h2 : x2 * x2 + y2 * y2 = 1 + d * x2 * x2 * y2 * y2) (h3 : x * x + y * y = 1 + d * x * x * y * y) (hn1 : n1 = x1 * y2 + y1 * x2) (hn2 : n2 = y1 * y2 - x1 * x2) (hm1 : m1 = x2 * y + y2 * x) (hm2 : m2 = y2 * y - x2 * x) (he : e = d * x1 * x2 * y1 * y2) (hf : f = d * x2 * x * y2 * y) :
 (n2 * (1 + e) * y - n1 * (1 - e) * x) * ((1 + f) * (1 - f) - d * m1 * m2 * x1 * y1) = (y1 * m2 * (1 + f) - x1 * m1 * (1 - f)) * ((1 + e) * (1 - e) - d * n1 * n2 * x * y) := by
 subst hn1 hn2 hm1 hm2 he hf
 grind -lia -linarith (splits := 0) (ringSteps := 1000000)
theorem sum_assoc {d x1 y1 x2 y2 x y a1 a2 b1 b2 u1 u2 v1 v2 : FF} (hd : Nsq d) (h1 : OnE d x1 y1) (h2 : OnE d x2 y2) (h3 : OnE d x y) (ha : Sm d x1 y1 x2 y2 a1 a2) (hb : Sm d x2 y2 x y b1 b2) (hu : Sm d a1 a2 x y u1 u2) (hv : Sm d x1 y1 b1 b2 v1 v2) : u1 = v1 ∧ u2 = v2 := by
 have oa := sum_on hd h1 h2 ha
 have ob := sum_on hd h2 h3 hb
 have p1 := comp1 hd h1 h2
 have p2 := comp2 hd h1 h2
 have p3 := comp1 hd h2 h3
 have p4 := comp2 hd h2 h3
 have p5 := comp1 hd oa h3
 have p6 := comp2 hd oa h3
 have p7 := comp1 hd h1 ob
 have p8 := comp2 hd h1 ob
 obtain ⟨ha1, ha2⟩ := ha
 obtain ⟨hb1, hb2⟩ := hb
 obtain ⟨hu1, hu2⟩ := hu
 obtain ⟨hv1, hv2⟩ := hv
 have k1 := assoc_x h1 h2 h3 rfl rfl rfl rfl rfl rfl
 have k2 := assoc_y h1 h2 h3 rfl rfl rfl rfl rfl rfl
 rw [← ha1, ← ha2, ← hb1, ← hb2] at k1 k2
 clear h1 h2 h3 oa ob hd ha1 ha2 hb1 hb2
 generalize d * x1 * x2 * y1 * y2 = e at *
 generalize d * x2 * x * y2 * y = f at *
 constructor
 ·
  refine fcan (c := (1 + e) * (1 - e) * ((1 + f) * (1 - f)) * ((1 + d * a1 * x * a2 * y) * (1 + d * x1 * b1 * y1 * b2))) ?_ ?_
  ·
   intro h
   rcases fdom h with h | h
   ·
    rcases fdom h with h | h <;> rcases fdom h with h | h
    ·
     exact p1 h
    ·
     exact p2 h
    ·
     exact p3 h
    ·
     exact p4 h
   ·
    rcases fdom h with h | h
    ·
     exact p5 h
    ·
     exact p7 h
  ·
   clear p1 p2 p3 p4 p5 p6 p7 p8 k2 hu2 hv2
   have k : (1 + e) * (1 - e) * ((1 + f) * (1 - f)) * ((a1 * y + a2 * x) * (1 + d * x1 * b1 * y1 * b2)) = (1 + e) * (1 - e) * ((1 + f) * (1 - f)) * ((x1 * b2 + y1 * b1) * (1 + d * a1 * x * a2 * y)) := by
    clear hu1 hv1
    grind -lia -linarith (splits := 0) (ringSteps := 1000000)
   rw [← hu1, ← hv1] at k
   generalize 1 + d * x1 * b1 * y1 * b2 = s at *
   generalize 1 + d * a1 * x * a2 * y = t at *
   generalize (1 + e) * (1 - e) * ((1 + f) * (1 - f)) = g at *
   clear k1 hu1 hv1
   grind -lia -linarith (splits := 0) (ringSteps := 1000000)
 ·
  refine fcan (c := (1 + e) * (1 - e) * ((1 + f) * (1 - f)) * ((1 - d * a1 * x * a2 * y) * (1 - d * x1 * b1 * y1 * b2))) ?_ ?_
  ·
   intro h
   rcases fdom h with h | h
   ·
    rcases fdom h with h | h <;> rcases fdom h with h | h
    ·
     exact p1 h
    ·
     exact p2 h
    ·
     exact p3 h
    ·
     exact p4 h
   ·
    rcases fdom h with h | h
    ·
     exact p6 h
    ·
     exact p8 h
  ·
   clear p1 p2 p3 p4 p5 p6 p7 p8 k1 hu1 hv1
   have k : (1 + e) * (1 - e) * ((1 + f) * (1 - f)) * ((a2 * y - a1 * x) * (1 - d * x1 * b1 * y1 * b2)) = (1 + e) * (1 - e) * ((1 + f) * (1 - f)) * ((y1 * b2 - x1 * b1) * (1 - d * a1 * x * a2 * y)) := by
    clear hu2 hv2
    grind -lia -linarith (splits := 0) (ringSteps := 1000000)
   rw [← hu2, ← hv2] at k
   generalize 1 - d * x1 * b1 * y1 * b2 = s at *
   generalize 1 - d * a1 * x * a2 * y = t at *
   generalize (1 + e) * (1 - e) * ((1 + f) * (1 - f)) = g at *
   clear k2 hu2 hv2
   grind -lia -linarith (splits := 0) (ringSteps := 1000000)
end Go.Sh
namespace Go.Sh
set_option maxHeartbeats 8000000
def dE : FF := 20800338683988658368647408995589388737092878452977063003340006470870624536394
theorem dE_is : 121666 * dE = (121665 : FF) := by decide +kernel
theorem dE_0 : dE ≠ 0 := by decide +kernel
theorem dE_pow : pm P25519 256 dE.val ((P25519 - 1) / 2) = P25519 - 1 := by decide +kernel
theorem nsq_of {p a d h : Nat} (hp : Pr p) (h2 : p - 1 = 2 * h) (ha : ¬ p ∣ a) (hd : a * a % p = d) : d ^ h % p = 1 := by
 have h1 := fermat hp ha
 rw [h2, Nat.pow_mul, Nat.pow_mod, Nat.pow_two, hd] at h1
 rw [← h1, Nat.pow_mod, Nat.pow_mod (d % p), Nat.mod_mod]
theorem dE_nsq : Nsq dE := by
 intro s hs
 have hd : s.val * s.val % P25519 = dE.val := by rw [← hs]; rfl
 have ha : ¬ P25519 ∣ s.val := by
  intro h
  have h0 : s.val = 0 := Nat.eq_zero_of_dvd_of_lt h s.isLt
  apply dE_0
  apply Fin.ext
  rw [← hd, h0]; rfl
 have h1 := nsq_of pr4 (h := (P25519 - 1) / 2) (by decide +kernel) ha hd
 rw [← pm_eq P25519 256 _ _ (by decide +kernel), dE_pow] at h1
 exact absurd h1 (by decide +kernel)
attribute [local irreducible] dE finv
abbrev Pt := FF × FF
def On (p : Pt) : Prop := OnE dE p.1 p.2
def padd (p q : Pt) : Pt := ((p.1 * q.2 + p.2 * q.1) * finv (1 + dE * p.1 * q.1 * p.2 * q.2), (p.2 * q.2 - p.1 * q.1) * finv (1 - dE * p.1 * q.1 * p.2 * q.2))
theorem mul_fi {a b : FF} (h : b ≠ 0) : a * finv b * b = a := by
 have := finv_mul h
 grind -lia -linarith (splits := 0)
theorem padd_sm {p q : Pt} (hp : On p) (hq : On q) : Sm dE p.1 p.2 q.1 q.2 (padd p q).1 (padd p q).2 :=
 ⟨mul_fi (comp1 dE_nsq hp hq), mul_fi (comp2 dE_nsq hp hq)⟩
theorem padd_on {p q : Pt} (hp : On p) (hq : On q) : On (padd p q) := sum_on dE_nsq hp hq (padd_sm hp hq)
theorem padd_of {p q r : Pt} (hp : On p) (hq : On q) (h : Sm dE p.1 p.2 q.1 q.2 r.1 r.2) : padd p q = r := by
 obtain ⟨h1, h2⟩ := sum_one dE_nsq hp hq (padd_sm hp hq) h
 exact Prod.ext h1 h2
theorem padd_comm {p q : Pt} (hp : On p) (hq : On q) : padd p q = padd q p := by
 refine padd_of hp hq ?_
 obtain ⟨h1, h2⟩ := padd_sm hq hp
 constructor
 ·
  grind -lia -linarith (splits := 0)
 ·
  grind -lia -linarith (splits := 0)
theorem padd_assoc {p q r : Pt} (hp : On p) (hq : On q) (hr : On r) : padd (padd p q) r = padd p (padd q r) := by
 obtain ⟨h1, h2⟩ := sum_assoc dE_nsq hp hq hr (padd_sm hp hq) (padd_sm hq hr) (padd_sm (padd_on hp hq) hr) (padd_sm hp (padd_on hq hr))
 exact Prod.ext h1 h2
def pO : Pt := (0, 1)
theorem on_O : On pO := by unfold On OnE pO; dsimp only; grind -lia -linarith (splits := 0)
theorem padd_O {p : Pt} (hp : On p) : padd p pO = p := by
 refine padd_of hp on_O ?_
 unfold Sm pO; dsimp only
 constructor <;> grind -lia -linarith (splits := 0)
theorem O_padd {p : Pt} (hp : On p) : padd pO p = p := by rw [padd_comm on_O hp, padd_O hp]
def pneg (p : Pt) : Pt := (0 - p.1, p.2)
theorem neg_on {p : Pt} (hp : On p) : On (pneg p) := by
 unfold On OnE pneg at *; dsimp only; grind -lia -linarith (splits := 0)
theorem neg_padd {p : Pt} (hp : On p) : padd (pneg p) p = pO := by
 refine padd_of (neg_on hp) hp ?_
 unfold On OnE at hp
 unfold Sm pneg pO; dsimp only
 constructor <;> grind -lia -linarith (splits := 0)
def nmul : Nat → Pt → Pt
 | 0, _ => pO
 | n + 1, p => padd (nmul n p) p
theorem nmul_on {p : Pt} (hp : On p) : ∀ n, On (nmul n p)
 | 0 => on_O
 | n + 1 => padd_on (nmul_on hp n) hp
theorem nmul_add {p : Pt} (hp : On p) (m : Nat) : ∀ n, nmul (m + n) p = padd (nmul m p) (nmul n p)
 | 0 => (padd_O (nmul_on hp m)).symm
 | n + 1 => by
  show padd (nmul (m + n) p) p = padd (nmul m p) (padd (nmul n p) p)
  rw [nmul_add hp m n, padd_assoc (nmul_on hp m) (nmul_on hp n) hp]
theorem nmul_mul {p : Pt} (hp : On p) (m : Nat) : ∀ n, nmul (n * m) p = nmul n (nmul m p)
 | 0 => by rw [Nat.zero_mul]; rfl
 | n + 1 => by
  rw [Nat.succ_mul, nmul_add hp, nmul_mul hp m n]; rfl
theorem nmul_comm {p : Pt} (hp : On p) (m n : Nat) : nmul m (nmul n p) = nmul n (nmul m p) := by
 rw [← nmul_mul hp, ← nmul_mul hp, Nat.mul_comm]
theorem nmul_O : ∀ n, nmul n pO = pO
 | 0 => rfl
 | n + 1 => by
  show padd (nmul n pO) pO = pO
  rw [nmul_O n, padd_O on_O]
def flad (u x2 z2 x3 z3 : FF) : FF × FF × FF × FF :=
  ((x2 + z2) * (x2 + z2) * ((x2 - z2) * (x2 - z2)),
   ((x2 + z2) * (x2 + z2) - (x2 - z2) * (x2 - z2)) * ((x2 + z2) * (x2 + z2) + ((x2 + z2) * (x2 + z2) - (x2 - z2) * (x2 - z2)) * 121665),
   ((x3 - z3) * (x2 + z2) + (x3 + z3) * (x2 - z2)) * ((x3 - z3) * (x2 + z2) + (x3 + z3) * (x2 - z2)),
   u * (((x3 - z3) * (x2 + z2) - (x3 + z3) * (x2 - z2)) * ((x3 - z3) * (x2 + z2) - (x3 + z3) * (x2 - z2))))
def Rep (x z : FF) (q : Pt) : Prop := x * (1 - q.2) = z * (1 + q.2) ∧ ¬ (x = 0 ∧ z = 0)
theorem rep_ab {x z : FF} {q : Pt} (h : Rep x z q) : x - z = q.2 * (x + z) ∧ x + z ≠ 0 := by
 obtain ⟨h1, h2⟩ := h
 have h3 : x - z = q.2 * (x + z) := by grind -lia -linarith (splits := 0)
 refine ⟨h3, fun h4 => h2 ?_⟩
 rw [h4] at h3
 have h5 : 2 * x = 0 := by grind -lia -linarith (splits := 0)
 have h6 : 2 * z = 0 := by grind -lia -linarith (splits := 0)
 exact ⟨(fdom h5).resolve_left two_ne, (fdom h6).resolve_left two_ne⟩
theorem dbl_key {d x y : FF} (hd : 121666 * d = 121665) (h : x * x + y * y = 1 + d * x * x * y * y) : y * y * ((1 - d * x * x * y * y) - (y * y - x * x)) = (1 - y * y) * (1 + (1 - y * y) * 121665) * ((1 - d * x * x * y * y) + (y * y - x * x)) := by
 grind -lia -linarith (splits := 0)
theorem rep_dbl {x z : FF} {q : Pt} (hq : On q) (h : Rep x z q) (u a b : FF) : Rep (flad u x z a b).1 (flad u x z a b).2.1 (padd q q) := by
 obtain ⟨h1, h2⟩ := rep_ab h
 have hs := (padd_sm hq hq).2
 have hm := comp2 dE_nsq hq hq
 have key := dbl_key dE_is hq
 unfold flad Rep; dsimp only
 rw [h1]
 clear h h1 hq
 generalize (padd q q).2 = w at *
 generalize q.1 = s at *
 generalize q.2 = y at *
 generalize x + z = A at *
 constructor
 ·
  refine fcan hm ?_
  generalize 1 - dE * s * s * y * y = M at *
  rw [← hs] at key
  clear hs hm h2
  grind -lia -linarith (splits := 0)
 ·
  rintro ⟨h3, h4⟩
  have h5 : y = 0 := by
   rcases fdom h3 with h5 | h5
   ·
    rcases fdom h5 with h5 | h5 <;> exact absurd h5 h2
   ·
    rcases fdom h5 with h5 | h5 <;> rcases fdom h5 with h5 | h5
    ·
     exact h5
    ·
     exact absurd h5 h2
    ·
     exact h5
    ·
     exact absurd h5 h2
  rw [h5] at h4
  have h6 : A * A * (A * A) * 121666 = 0 := by clear hs hm key h3; grind -lia -linarith (splits := 0)
  rcases fdom h6 with h7 | h7
  ·
   rcases fdom h7 with h7 | h7 <;> rcases fdom h7 with h7 | h7 <;> exact h2 h7
  ·
   exact absurd h7 (by decide)
theorem on_y0 {d a y : FF} (h : a * a + y * y = 1 + d * a * a * y * y) (hy : y = 0) : a * a = 1 := by
 grind -lia -linarith (splits := 0)
theorem y1_y0 {d a b y z w : FF} (h : w * (1 + d * a * b * y * z) = y * z + a * b) (hy : y = 0) (_hz : z = 0) : w = a * b := by
 grind -lia -linarith (splits := 0)
theorem add_key {d x2 y2 x3 y3 : FF} (h2 : x2 * x2 + y2 * y2 = 1 + d * x2 * x2 * y2 * y2) (h3 : x3 * x3 + y3 * y3 = 1 + d * x3 * x3 * y3 * y3) : (y2 + y3) * (y2 + y3) * ((1 - d * x2 * x3 * y2 * y3) - (y2 * y3 - x2 * x3)) * ((1 + d * x2 * x3 * y2 * y3) - (y2 * y3 + x2 * x3)) = (y3 - y2) * (y3 - y2) * ((1 - d * x2 * x3 * y2 * y3) + (y2 * y3 - x2 * x3)) * ((1 + d * x2 * x3 * y2 * y3) + (y2 * y3 + x2 * x3)) := by
 grind -lia -linarith (splits := 0)
theorem rep_add {x2 z2 x3 z3 u y1 : FF} {q r : Pt} (hq : On q) (hr : On r) (h2 : Rep x2 z2 q) (h3 : Rep x3 z3 r)
  (hy : y1 * (1 + dE * q.1 * r.1 * q.2 * r.2) = q.2 * r.2 + q.1 * r.1) (hu : u * (1 - y1) = 1 + y1) (hu0 : u ≠ 0) : Rep (flad u x2 z2 x3 z3).2.2.1 (flad u x2 z2 x3 z3).2.2.2 (padd q r) := by
 obtain ⟨g2, k2⟩ := rep_ab h2
 obtain ⟨g3, k3⟩ := rep_ab h3
 have hs := (padd_sm hq hr).2
 have hm := comp2 dE_nsq hq hr
 have hp := comp1 dE_nsq hq hr
 have key := add_key hq hr
 have hy1 : 1 - y1 ≠ 0 := by
  intro h
  have h4 : y1 = 1 := by clear hu hy hq hr hm hp hs key g2 g3; grind -lia -linarith (splits := 0)
  rw [h, h4] at hu
  have h5 : u * 0 = 0 := by clear hu hy hq hr hm hp hs key g2 g3; grind -lia -linarith (splits := 0)
  rw [h5] at hu
  exact absurd hu (by decide)
 unfold flad Rep; dsimp only
 rw [g2, g3]
 unfold On OnE at hq hr
 clear h2 h3 g2 g3
 generalize (padd q r).2 = w at *
 generalize q.1 = a2 at *
 generalize q.2 = y2 at *
 generalize r.1 = a3 at *
 generalize r.2 = y3 at *
 generalize x2 + z2 = A at *
 generalize x3 + z3 = C at *
 constructor
 ·
  refine fcan hm (fcan hp (fcan hy1 ?_))
  clear hq hr k2 k3
  generalize 1 - dE * a2 * a3 * y2 * y3 = M at *
  generalize 1 + dE * a2 * a3 * y2 * y3 = P at *
  rw [← hy, ← hs] at key
  have key2 : (y2 + y3) * (y2 + y3) * (1 - w) * (1 - y1) * (M * P) = (y3 - y2) * (y3 - y2) * (1 + w) * (1 + y1) * (M * P) := by
   clear hs hy hu hm hp; grind -lia -linarith (splits := 0)
  rw [← hu] at key2
  clear hs hy hu hm hp key
  grind -lia -linarith (splits := 0)
 ·
  rintro ⟨h4, h5⟩
  have e1 : (y3 * C * A + C * (y2 * A)) = C * A * (y2 + y3) := by clear hq hr hm hp hs hy key hu; grind -lia -linarith (splits := 0)
  have e2 : (y3 * C * A - C * (y2 * A)) = C * A * (y3 - y2) := by clear hq hr hm hp hs hy key hu; grind -lia -linarith (splits := 0)
  rw [e1] at h4
  rw [e2] at h5
  have f1 : y2 + y3 = 0 := by
   rcases fdom h4 with h | h <;> rcases fdom h with h | h
   ·
    rcases fdom h with h | h
    ·
     exact absurd h k3
    ·
     exact absurd h k2
   ·
    exact h
   ·
    rcases fdom h with h | h
    ·
     exact absurd h k3
    ·
     exact absurd h k2
   ·
    exact h
  have f2 : y3 - y2 = 0 := by
   have h5 := (fdom h5).resolve_left hu0
   rcases fdom h5 with h | h <;> rcases fdom h with h | h
   ·
    rcases fdom h with h | h
    ·
     exact absurd h k3
    ·
     exact absurd h k2
   ·
    exact h
   ·
    rcases fdom h with h | h
    ·
     exact absurd h k3
    ·
     exact absurd h k2
   ·
    exact h
  have f3 : 2 * y3 = 0 := by clear hq hr hm hp hs hy key hu; grind -lia -linarith (splits := 0)
  have f4 := (fdom f3).resolve_left two_ne
  have f5 : y2 = 0 := by rw [f4] at f1; clear hq hr hm hp hs hy key hu; grind -lia -linarith (splits := 0)
  have f6 : a2 * a2 = 1 := on_y0 hq f5
  have f7 : a3 * a3 = 1 := on_y0 hr f4
  have f8 : y1 = a2 * a3 := y1_y0 hy f5 f4
  have f9 : (1 - y1) * (1 + y1) = 0 := by rw [f8]; clear hq hr hm hp hs hy key hu f8; grind -lia -linarith (splits := 0)
  have f10 := (fdom f9).resolve_left hy1
  rw [f10] at hu
  rcases fdom hu with h | h
  ·
   exact hu0 h
  ·
   exact hy1 h
theorem dif_y {p q : Pt} (hp : On p) (hq : On q) : p.2 * (1 + dE * q.1 * (padd q p).1 * q.2 * (padd q p).2) = q.2 * (padd q p).2 + q.1 * (padd q p).1 := by
 have h1 : padd (pneg q) (padd q p) = p := by rw [← padd_assoc (neg_on hq) hq hp, neg_padd hq, O_padd hp]
 have h2 := (padd_sm (neg_on hq) (padd_on hq hp)).2
 rw [h1] at h2
 unfold pneg at h2
 dsimp only at h2
 clear h1
 grind -lia -linarith (splits := 0)
end Go.Sh
namespace Go.Sh
set_option maxHeartbeats 8000000
def fo (x : Nat) : FF := Fin.ofNat P25519 x
theorem fo_val {x : Nat} (h : x < P25519) : (fo x).val = x := Nat.mod_eq_of_lt h
theorem fo_of (a : FF) : fo a.val = a := Fin.ext (Nat.mod_eq_of_lt a.isLt)
theorem fo_add (a b : Nat) : fo ((a + b) % P25519) = fo a + fo b := by
 apply Fin.ext
 show (a + b) % P25519 % P25519 = (a % P25519 + b % P25519) % P25519
 rw [Nat.mod_mod, Nat.add_mod]
theorem fo_mul (a b : Nat) : fo (a * b % P25519) = fo a * fo b := by
 apply Fin.ext
 show a * b % P25519 % P25519 = (a % P25519 * (b % P25519)) % P25519
 rw [Nat.mod_mod, Nat.mul_mod]
theorem fo_sub (a : Nat) {b : Nat} (h : b < P25519) : fo ((a + (P25519 - b)) % P25519) = fo a - fo b := by
 apply Fin.ext
 show (a + (P25519 - b)) % P25519 % P25519 = (P25519 - b % P25519 + a % P25519) % P25519
 rw [Nat.mod_mod, Nat.mod_eq_of_lt h, Nat.add_comm a, Nat.add_mod, Nat.add_mod (P25519 - b) (a % P25519), Nat.mod_mod]
theorem fo_0 {x : Nat} (h : x < P25519) (h0 : fo x = 0) : x = 0 := by
 have := fo_val h
 rw [h0] at this
 exact this.symm
def fo4 (s : Nat × Nat × Nat × Nat) : FF × FF × FF × FF := (fo s.1, fo s.2.1, fo s.2.2.1, fo s.2.2.2)
def Lt4 (s : Nat × Nat × Nat × Nat) : Prop := s.1 < P25519 ∧ s.2.1 < P25519 ∧ s.2.2.1 < P25519 ∧ s.2.2.2 < P25519
theorem lad4_lt (u : Nat) (s : Nat × Nat × Nat × Nat) : Lt4 (lad4 u s) := ⟨mod_lt_P _, mod_lt_P _, mod_lt_P _, mod_lt_P _⟩
theorem sw4_lt (c : Nat) {s : Nat × Nat × Nat × Nat} (h : Lt4 s) : Lt4 (sw4 c s) := by
 unfold sw4; split
 ·
  exact ⟨h.2.2.1, h.2.2.2, h.1, h.2.1⟩
 ·
  exact h
theorem lad4_fo (u : Nat) {s : Nat × Nat × Nat × Nat} (h : Lt4 s) : fo4 (lad4 u s) = flad (fo u) (fo s.1) (fo s.2.1) (fo s.2.2.1) (fo s.2.2.2) := by
 obtain ⟨x2, z2, x3, z3⟩ := s
 obtain ⟨h1, h2, h3, h4⟩ := h
 dsimp only at h1 h2 h3 h4
 have eA := fo_add x2 z2
 have eB := fo_sub x2 h2
 have eC := fo_add x3 z3
 have eD := fo_sub x3 h4
 have e5 : fo 121665 = 121665 := rfl
 unfold fo4 lad4 lad flad
 dsimp only
 generalize (x2 + z2) % P25519 = A at *
 generalize (x2 + (P25519 - z2)) % P25519 = B at *
 generalize (x3 + z3) % P25519 = C at *
 generalize (x3 + (P25519 - z3)) % P25519 = D at *
 have l1 := mod_lt_P (B * B)
 have l2 := mod_lt_P (C * B)
 simp only [fo_add, fo_mul, fo_sub _ l1, fo_sub _ l2, eA, eB, eC, eD, e5]
def mN (b : List UInt8) : Nat → Nat
 | 0 => 0
 | t + 1 => 2 * mN b t + bitN b (254 - t)
theorem bitN_01 (b : List UInt8) (i : Nat) : bitN b i = 0 ∨ bitN b i = 1 := by unfold bitN; omega
def uof (q : Pt) : FF := if q.2 = 1 then 0 else (1 + q.2) * finv (1 - q.2)
theorem uof_is {q : Pt} (h : q.2 ≠ 1) : uof q * (1 - q.2) = 1 + q.2 := by
 unfold uof
 rw [if_neg h]
 refine mul_fi fun h2 => h ?_
 clear h
 grind -lia -linarith (splits := 0)
theorem rep_O (q : Pt) (h : q = pO) : Rep 1 0 q := by
 rw [h]
 unfold Rep pO
 refine ⟨?_, fun h => one_ne h.1⟩
 dsimp only
 grind -lia -linarith (splits := 0)
theorem ldr_lt (b : List UInt8) {u : Nat} (hu : u < P25519) : ∀ t, Lt4 (ldr b u t)
 | 0 => ⟨by show 1 < P25519; decide, by show 0 < P25519; decide, hu, by show 1 < P25519; decide⟩
 | _ + 1 => sw4_lt _ (lad4_lt _ _)
def Rep4 (s : FF × FF × FF × FF) (q r : Pt) : Prop := Rep s.1 s.2.1 q ∧ Rep s.2.2.1 s.2.2.2 r
theorem ldr_rep (b : List UInt8) {p : Pt} (hp : On p) (h1 : p.2 ≠ 1) (h0 : uof p ≠ 0) : ∀ t, Rep4 (fo4 (ldr b (uof p).val t)) (nmul (mN b t) p) (nmul (mN b t + 1) p)
 | 0 => by
  refine ⟨rep_O _ rfl, ?_⟩
  show Rep (fo (uof p).val) (fo 1) (padd pO p)
  rw [O_padd hp, fo_of]
  refine ⟨?_, fun h => one_ne h.2⟩
  rw [uof_is h1, show fo 1 = 1 from rfl]
  grind -lia -linarith (splits := 0)
 | t + 1 => by
  have ih := ldr_rep b hp h1 h0 t
  have lt := ldr_lt b (u := (uof p).val) (uof p).isLt t
  have hu := uof_is h1
  have om := nmul_on hp (mN b t)
  have om1 := nmul_on hp (mN b t + 1)
  have dy := dif_y hp om
  have e1 : nmul (mN b t + 1) p = padd (nmul (mN b t) p) p := rfl
  rw [← e1] at dy
  show Rep4 (fo4 (sw4 _ (lad4 _ (sw4 _ _)))) _ _
  rcases bitN_01 b (254 - t) with hb | hb
  ·
   have em : mN b (t + 1) = mN b t + mN b t := by show 2 * mN b t + bitN b (254 - t) = _; omega
   have e2 : nmul (mN b (t + 1)) p = padd (nmul (mN b t) p) (nmul (mN b t) p) := by rw [em, nmul_add hp]
   have e3 : nmul (mN b (t + 1) + 1) p = padd (nmul (mN b t) p) (nmul (mN b t + 1) p) := by rw [em, Nat.add_assoc, nmul_add hp]
   rw [hb, show ∀ s : Nat × Nat × Nat × Nat, sw4 0 s = s from fun s => by unfold sw4; rw [if_neg (by decide)], show ∀ s : Nat × Nat × Nat × Nat, sw4 0 s = s from fun s => by unfold sw4; rw [if_neg (by decide)], lad4_fo _ lt, fo_of, e2, e3]
   exact ⟨rep_dbl om ih.1 _ _ _, rep_add om om1 ih.1 ih.2 dy hu h0⟩
  ·
   have em : mN b (t + 1) = mN b t + mN b t + 1 := by show 2 * mN b t + bitN b (254 - t) = _; omega
   have e2 : nmul (mN b (t + 1)) p = padd (nmul (mN b t + 1) p) (nmul (mN b t) p) := by rw [em, show mN b t + mN b t + 1 = (mN b t + 1) + mN b t by omega, nmul_add hp]
   have e3 : nmul (mN b (t + 1) + 1) p = padd (nmul (mN b t + 1) p) (nmul (mN b t + 1) p) := by rw [em, show mN b t + mN b t + 1 + 1 = (mN b t + 1) + (mN b t + 1) by omega, nmul_add hp]
   have sw1 : ∀ s : Nat × Nat × Nat × Nat, sw4 1 s = (s.2.2.1, s.2.2.2, s.1, s.2.1) := fun s => by unfold sw4; rw [if_pos rfl]
   have lt2 := sw4_lt 1 lt
   have lf := lad4_fo (uof p).val lt2
   rw [hb]
   rw [sw1] at lf
   rw [sw1 (lad4 _ _), sw1 (ldr _ _ _)]
   dsimp only at lf
   rw [fo_of] at lf
   have l1 := congrArg (fun x : FF × FF × FF × FF => x.1) lf
   have l2 := congrArg (fun x : FF × FF × FF × FF => x.2.1) lf
   have l3 := congrArg (fun x : FF × FF × FF × FF => x.2.2.1) lf
   have l4 := congrArg (fun x : FF × FF × FF × FF => x.2.2.2) lf
   dsimp only [fo4] at l1 l2 l3 l4
   unfold Rep4 fo4
   dsimp only
   rw [l1, l2, l3, l4, e2, e3]
   refine ⟨rep_add om1 om ih.2 ih.1 ?_ hu h0, rep_dbl om1 ih.2 _ _ _⟩
   clear ih lf l1 l2 l3 l4 hu
   grind -lia -linarith (splits := 0)
theorem times_rep {b : List UInt8} {u : Nat} (hu : u < P25519) {q : Pt} (h : Rep (fo (ldr b u 255).1) (fo (ldr b u 255).2.1) q) : timesN b u = (uof q).val := by
 obtain ⟨-, hz, -, -⟩ := ldr_lt b hu 255
 have hl : timesN b u < P25519 := mod_lt_P _
 rw [← fo_val hl]
 congr 1
 unfold timesN
 rw [fo_mul]
 generalize (ldr b u 255).1 = X at *
 generalize (ldr b u 255).2.1 = Z at *
 obtain ⟨h1, h2⟩ := h
 by_cases z0 : Z = 0
 ·
  subst z0
  have hx : fo X ≠ 0 := fun h => h2 ⟨h, rfl⟩
  rw [invN_0]
  have e1 : fo X * (1 - q.2) = 0 := by
   rw [h1, show fo 0 = 0 from rfl]
   grind -lia -linarith (splits := 0)
  have e2 := (fdom e1).resolve_left hx
  have e3 : q.2 = 1 := by clear h1 h2 e1 hx; grind -lia -linarith (splits := 0)
  unfold uof
  rw [if_pos e3, show fo 0 = 0 from rfl]
  clear h1 h2 e1 hx e2 e3
  grind -lia -linarith (splits := 0)
 ·
  have hz0 : fo Z ≠ 0 := fun h => z0 (fo_0 hz h)
  have hi : fo Z * fo (invN Z) = 1 := by
   rw [← fo_mul, invN_mul (by rw [Nat.mod_eq_of_lt hz]; exact z0)]; rfl
  have hq : q.2 ≠ 1 := by
   intro h
   rw [h] at h1
   have e1 : fo Z * 2 = 0 := by clear hi hz0 z0 h2 hl; grind -lia -linarith (splits := 0)
   rcases fdom e1 with h | h
   ·
    exact hz0 h
   ·
    exact two_ne h
  have hq2 : 1 - q.2 ≠ 0 := fun h => hq (by clear h1 h2 hi hz0 z0 hl hq; grind -lia -linarith (splits := 0))
  refine fcan hq2 ?_
  rw [uof_is hq]
  clear h2 hq hq2 hz0 z0 hl
  grind -lia -linarith (splits := 0)
theorem uof_0 {q : Pt} (hq : On q) (h : uof q = 0) : padd q q = pO := by
 have h2 : q.2 * q.2 = 1 := by
  by_cases h1 : q.2 = 1
  ·
   rw [h1]; rfl
  ·
   have h3 := uof_is h1
   rw [h] at h3
   clear h h1
   grind -lia -linarith (splits := 0)
 have h3 : q.1 = 0 := by
  unfold On OnE at hq
  have h4 := dE_is
  have h5 : q.1 * q.1 = 0 := by
   clear h
   grind -lia -linarith (splits := 0)
  rcases fdom h5 with h | h <;> exact h
 refine padd_of hq hq ?_
 unfold Sm pO
 clear h hq
 dsimp only
 constructor <;> grind -lia -linarith (splits := 0)
theorem lad_z0 {s : Nat × Nat × Nat × Nat} (hl : Lt4 s) (h1 : fo s.1 * fo s.2.1 = 0) : fo (lad4 0 s).2.1 = 0 ∧ fo (lad4 0 s).2.2.2 = 0 := by
 have lf := lad4_fo 0 hl
 have l2 := congrArg (fun x : FF × FF × FF × FF => x.2.1) lf
 have l4 := congrArg (fun x : FF × FF × FF × FF => x.2.2.2) lf
 dsimp only [fo4, flad] at l2 l4
 rw [l2, l4, show fo 0 = 0 from rfl]
 clear lf l2 l4
 generalize fo s.1 = x at *
 generalize fo s.2.1 = z at *
 constructor <;> grind -lia -linarith (splits := 0)
theorem ldr_z1 (b : List UInt8) (t : Nat) (hx : fo (ldr b 0 t).1 * fo (ldr b 0 t).2.1 = 0 ∧ fo (ldr b 0 t).2.2.1 * fo (ldr b 0 t).2.2.2 = 0) : fo (ldr b 0 (t + 1)).2.1 = 0 ∧ fo (ldr b 0 (t + 1)).2.2.2 = 0 := by
 have hl := ldr_lt b (u := 0) (by decide) t
 show fo (sw4 _ (lad4 0 (sw4 _ _))).2.1 = 0 ∧ fo (sw4 _ (lad4 0 (sw4 _ _))).2.2.2 = 0
 have hl2 := sw4_lt (bitN b (254 - t)) hl
 have hx2 : fo (sw4 (bitN b (254 - t)) (ldr b 0 t)).1 * fo (sw4 (bitN b (254 - t)) (ldr b 0 t)).2.1 = 0 := by
  unfold sw4; split
  ·
   exact hx.2
  ·
   exact hx.1
 have := lad_z0 hl2 hx2
 generalize lad4 0 (sw4 (bitN b (254 - t)) (ldr b 0 t)) = s at *
 unfold sw4; split
 ·
  exact ⟨this.2, this.1⟩
 ·
  exact this
theorem ldr_z0 (b : List UInt8) : ∀ t, fo (ldr b 0 (t + 1)).2.1 = 0 ∧ fo (ldr b 0 (t + 1)).2.2.2 = 0
 | 0 => ldr_z1 b 0 ⟨by show fo 1 * fo 0 = 0; rfl, by show fo 0 * fo 1 = 0; rfl⟩
 | t + 1 => ldr_z1 b (t + 1) (by
  obtain ⟨h1, h2⟩ := ldr_z0 b t
  rw [h1, h2]
  constructor <;> grind -lia -linarith (splits := 0))
theorem times_0 (b : List UInt8) : timesN b 0 = 0 := by
 have h := (ldr_z0 b 254).1
 have hl := (ldr_lt b (u := 0) (by decide) 255).2.1
 unfold timesN
 rw [fo_0 hl h, invN_0, Nat.mul_zero]; rfl
theorem times_uof {b : List UInt8} (h0 : bitN b 0 = 0) {q : Pt} (hq : On q) : timesN b (uof q).val = (uof (nmul (mN b 255) q)).val := by
 by_cases hu : uof q = 0
 ·
  have h2 := uof_0 hq hu
  have hm : mN b 255 = mN b 254 * 2 := by show 2 * mN b 254 + bitN b 0 = _; omega
  have h3 : nmul 2 q = pO := by
   show padd (padd pO q) q = pO
   rw [O_padd hq, h2]
  rw [hu, hm, nmul_mul hq, h3, nmul_O]
  exact times_0 b
 ·
  have h1 : q.2 ≠ 1 := fun h => hu (by unfold uof; rw [if_pos h])
  exact times_rep (uof q).isLt (ldr_rep b hq h1 hu 255).1
def pB : Pt := (9771384041963202563870679428059935816164187996444183106833894008023910952347, 46316835694926478169428394003475163141307993866256225615783033603165251855960)
theorem on_B : On pB := by
 show pB.1 * pB.1 + pB.2 * pB.2 = 1 + dE * pB.1 * pB.1 * pB.2 * pB.2
 unfold dE
 decide +kernel
theorem uof_B : uof pB = 9 := by
 have h : pB.2 ≠ 1 := by decide +kernel
 have h2 : 1 - pB.2 ≠ 0 := by decide +kernel
 refine fcan h2 ?_
 rw [uof_is h]
 decide +kernel
theorem times_comm {a b : List UInt8} (ha : bitN a 0 = 0) (hb : bitN b 0 = 0) : timesN a (timesN b 9) = timesN b (timesN a 9) := by
 have h9 : (9 : Nat) = (uof pB).val := by rw [uof_B]; rfl
 rw [h9, times_uof hb on_B, times_uof ha on_B, times_uof ha (nmul_on on_B _), times_uof hb (nmul_on on_B _), nmul_comm on_B]
end Go.Sh
namespace Go.Sh
set_option maxHeartbeats 8000000
theorem br_le {v : Nat} (h : v < P25519) : br (le32 v) = v := by
 have hP : P25519 ≤ 57896044618658097711785492504343953926634992332820282019728792003956564819968 := by decide
 have hQ : (57896044618658097711785492504343953926634992332820282019728792003956564819968 : Nat) < 256 ^ 32 := by decide
 unfold br bn
 rw [bv_le32 v (by omega), Nat.mod_eq_of_lt (Nat.lt_of_lt_of_le h hP), Nat.mod_eq_of_lt h]
theorem clamp_b0 {a : List UInt8} (ha : a.length = 32) : bitN (clampL a) 0 = 0 := by
 have h0 : (clampL a).getD 0 0 = a.getD 0 0 &&& 248 := by
  unfold clampL
  rw [List.getD_eq_getElem?_getD, List.getElem?_set_ne (by decide), List.getElem?_set_self (by omega)]; rfl
 have h1 : ∀ x : UInt8, (x &&& 248).toNat % 2 = 0 := u8_all (p := fun x => (x &&& 248).toNat % 2 = 0) (by decide +kernel)
 unfold bitN
 rw [show 0 / 8 = 0 from rfl, h0, show 2 ^ (0 % 8) = 1 from rfl, Nat.div_one]
 exact h1 _
theorem shN_comm {a b : List UInt8} (ha : a.length = 32) (hb : b.length = 32) : shN a (pubN b) = shN b (pubN a) := by
 unfold shN pubN
 have h1 : timesN (clampL b) 9 < P25519 := mod_lt_P _
 have h2 : timesN (clampL a) 9 < P25519 := mod_lt_P _
 rw [br_le h1, br_le h2, times_comm (clamp_b0 ha) (clamp_b0 hb)]
end Go.Sh
namespace Go.Sh
open Go.Proofs
set_option maxHeartbeats 4000000
def K0 : List (UInt32 × List UInt8) := [(1, kk 3), (3, kk 4)]
theorem K0_ok : OcOk K0 := by
 intro x hx
 simp only [K0, List.mem_cons, List.not_mem_nil, or_false] at hx
 rcases hx with rfl | rfl <;> rfl
def D0 : List UInt8 := [2, 0]
def M0 : List UInt8 := kb D0 (kk 1) (kk 2)
theorem s5 : SCall Tryz.prog 14 [] [] (.p 0 0) [some (.box (M0.map .u8 ++ [.sl 1 0 2 33 true])), some (.row 52 (ocs K0))] := by
 refine scall_of ttOk (by kernel_rfl : Tryz.prog.funcs[14]? = some Tryz.f14) rfl rfl rfl ?_
 try simp only [List.length_cons, List.length_nil, Nat.zero_add, Nat.reduceAdd]
 refine sw_ok ttOk mixed (by kernel_rfl) ?_
 conv => whnf
 repeat (first | (refine Exists.intro _ (And.intro rfl ?_); conv => whnf) | fail)
 refine ⟨[1, 0], ?_, rfl, rfl, ?_, rfl⟩
 ·
  (repeat' (fail)) <;> first | rfl | fail
 ·
  (repeat' (first | exact trivial | refine And.intro ?_ ?_ | (refine wk_cons ?_ ?_))) <;> first | rfl | fail
def PB : Prs := [(kk 9, pk2), (kk 7, pk1), (kk 7, pk2), (kk 7, pk4)]
def PA : Prs := [(kk 2, pk9), (kk 1, pk7), (kk 2, pk7), (kk 4, pk7)]
theorem PB_ok : okP PB = true := by
 simp only [okP, PB, List.all_cons, List.all_nil, sk92_is, sk71_is, sk72_is, sk74_is]
 decide
theorem sh_c (a b : UInt8) : shN (kk a) (pubN (kk b)) = shN (kk b) (pubN (kk a)) := shN_comm (kk_len a) (kk_len b)
theorem PA_all : PA.map (fun p => shN p.1 p.2) = PB.map (fun p => shN p.1 p.2) := by
 simp only [PA, PB, List.map_cons, List.map_nil, ← pk1_is, ← pk2_is, ← pk4_is, ← pk7_is, ← pk9_is]
 rw [sh_c 2 9, sh_c 1 7, sh_c 2 7, sh_c 4 7]
theorem okP_map (P : Prs) : okP P = (P.map fun p => shN p.1 p.2).all fun s => decide (s ≠ zer) := by simp [okP, List.all_map]; rfl
theorem allB_map (P : Prs) : allB P P.length = (P.map fun p => shN p.1 p.2).flatMap id := by
 unfold allB; rw [List.take_length, List.flatMap_map]; rfl
theorem PA_ok : okP PA = true := by rw [okP_map, PA_all, ← okP_map]; exact PB_ok
theorem PA_allB : allB PA 4 = allB PB 4 := by
 have h1 := allB_map PA
 have h2 := allB_map PB
 rw [PA_all, ← h2] at h1
 exact h1
def FF0 : List UInt8 := fstO pk9 pk1 (allB PB 4)
theorem FF0_len : FF0.length = 64 := fstO_len _ _ _
theorem FF0_ne : FF0 ≠ List.replicate 64 0 := by
 have h1 : allB PB 4 = sk92 ++ (sk71 ++ (sk72 ++ sk74)) := by
  have := allB_map PB
  simp only [PB, List.map_cons, List.map_nil, sk92_is, sk71_is, sk72_is, sk74_is] at this
  rw [show PB = [(kk 9, pk2), (kk 7, pk1), (kk 7, pk2), (kk 7, pk4)] from rfl]
  refine Eq.trans this ?_
  simp
 intro h
 have h2 := congrArg (fun l : List UInt8 => l.getD 0 0) h
 unfold FF0 fstO at h2
 rw [h1, prk_is] at h2
 exact fst_ne h2
theorem beg_is : begR (kk 9) (kk 7) pk1 pk2 pk4 true 3 = .tup [.agg (FF0.map .u8), .agg (sc pk9 pk7 true 3), .i 0] := by
 unfold begR
 rw [show begP (kk 9) (kk 7) pk1 pk2 pk4 true = PB from rfl, if_pos PB_ok, pk9_is, pk7_is]; rfl
theorem acc_is : accR (kk 1) (kk 2) pk9 pk7 (some (kk 4)) = .tup [.agg (FF0.map .u8), .i 0] := by
 unfold accR
 rw [show accP (kk 1) (kk 2) pk9 pk7 (some (kk 4)) = PA from rfl, if_pos PA_ok, pk1_is, show PA.length = 4 from rfl, PA_allB]; rfl
attribute [local irreducible] mac_n exO_n shN pubN fstO allB pbs bc sc okP M0 FF0
theorem s4 : SCall Tryz.prog 5 [] [] (.b true) [] := by
 have q1 := s6_y D0 (kk 1) (kk 2) rfl (kk_len 1) (kk_len 2) K0 K0_ok (by decide) 3 (kk 4) 1 (by decide) (by decide +kernel) rfl true
 rw [pk1_is, pk2_is, pk4_is, show kb D0 (kk 1) (kk 2) = M0 by unfold M0; rfl, show K0.length = 2 from rfl] at q1
 have hB1 := bc_len (D := D0) (A := pk1) (S := pk2) (O := pk4) (h := true) (i := 3) rfl rfl rfl rfl
 have q2 := s10_n [0, 0] (kk 9) (kk 8) rfl rfl rfl D0 pk1 pk2 pk4 (kk 7) rfl rfl rfl rfl rfl true 3
 rw [beg_is] at q2
 have q3 := s7_1 D0 (kk 1) (kk 2) rfl rfl rfl K0 K0_ok (by decide) true pk9 pk7 rfl rfl 3 1 (by decide) (by decide +kernel) (kk 4) rfl
 rw [acc_is, show kb D0 (kk 1) (kk 2) = M0 by unfold M0; rfl, show K0.length = 2 from rfl] at q3
 have hsc := sc_len (I := pk9) (E := pk7) (h := true) (i := 3) rfl rfl
 have hF := FF0_len
 have hq : eqcs (FF0.map SV.u8) (FF0.map SV.u8) = true := eqcs_refl _
 have hq2 : (!eqcs (FF0.map SV.u8) (List.replicate 64 (SV.u8 0))) = true := by
  rw [show List.replicate 64 (SV.u8 0) = (List.replicate 64 (0 : UInt8)).map SV.u8 from rfl, eqcs_dec _ _ (by rw [hF]; rfl), decide_eq_false FF0_ne]; rfl
 have hbh := bc_h (D := D0) (A := pk1) (S := pk2) (O := pk4) (h := true) (i := 3) rfl rfl rfl
 have hbi := bc_i (D := D0) (A := pk1) (S := pk2) (O := pk4) (h := true) (i := 3) rfl rfl rfl
 refine scall_of ttOk (by kernel_rfl : Tryz.prog.funcs[5]? = some Tryz.f5) rfl rfl rfl ?_
 try simp only [List.length_cons, List.length_nil, Nat.zero_add, Nat.reduceAdd]
 refine sw_ok ttOk mixed (by kernel_rfl) ?_
 conv => whnf
 refine ok1_callE [] [some (.box (M0.map .u8 ++ [.sl 1 0 2 33 true])), some (.row 52 (ocs K0))] (.p 0 0) (s5) rfl rfl ⟨⟨rfl, by rfl⟩, trivial, by (repeat' (first | exact trivial | refine And.intro ?_ ?_)) <;> first | exact renB_plain _ (by first | (simp; done) | fail) | exact rb_boxa (by first | (simp; done) | fail) rfl | rfl, by rfl, ?_⟩
 conv => whnf
 refine ok1_callE [0, 1] [some (.ro (M0.map .u8 ++ [.sl 1 0 2 33 true])), some (.ro (ocs K0))] (.tup [.agg (bc D0 pk1 pk2 true 3 pk4), .i 0]) (q1) rfl rfl ⟨⟨rfl, by rfl⟩, by (repeat' (first | exact trivial | refine And.intro ?_ ?_)) <;> first | rfl | exact ren_app2 (by first | (simp; done) | fail) (by rfl) (by rfl) | fail, by (repeat' (first | exact trivial | refine And.intro ?_ ?_)) <;> first | rfl, by first | exact renV_plainR _ (by first | (simp [plainR, plainT, plainW]; done) | fail) | fail, ?_⟩
 conv => whnf
 repeat (first | (refine Exists.intro _ (And.intro (sload_all rfl (by first | rfl | (simp [hB1]; done) | fail)) ?_); conv => whnf) | (refine Exists.intro _ (And.intro (sput_all rfl (by first | rfl | (simp [hB1]; done) | fail)) ?_); conv => whnf) | (refine Exists.intro _ (And.intro rfl ?_); conv => whnf) | (refine And.intro (by first | omega | (simp; omega) | fail) ?_; conv => whnf) | fail)
 refine ok1_callF [3] [true] true (q2) rfl rfl ⟨⟨rfl, by first | ((repeat' (first | exact rfl | exact ren_eq (by first | (simp; done) | fail) rfl | (refine wk_agg ?_) | (refine wk_cons ?_ ?_))); done) | fail⟩, by (repeat' (first | exact trivial | refine And.intro ?_ ?_)) <;> first | rfl | fail, by rfl, by first | simp [plainRf, plainR, plainT, plainW], ?_⟩
 conv => whnf
 repeat (first | (refine Exists.intro _ (And.intro (sput_all rfl (by first | rfl | (simp [hsc]; done) | (simp [hsc]; omega))) ?_); conv => whnf) | (refine And.intro (by first | omega | (simp; omega) | fail) ?_; conv => whnf) | fail)
 refine ok1_callE [] [some (.box (M0.map .u8 ++ [.sl 7 0 2 33 true])), some (.row 52 (ocs K0))] (.p 6 0) (s5) rfl rfl ⟨⟨rfl, by rfl⟩, trivial, by (repeat' (first | exact trivial | refine And.intro ?_ ?_)) <;> first | exact renB_plain _ (by first | (simp; done) | fail) | exact rb_boxa (by first | (simp; done) | fail) rfl | rfl, by rfl, ?_⟩
 conv => whnf
 repeat (first | (refine Exists.intro _ (And.intro (sload_all rfl (by first | rfl | (simp [hsc]; done) | fail)) ?_); conv => whnf) | fail)
 refine ok1_callE [6, 7] [some (.ro (M0.map .u8 ++ [.sl 7 0 2 33 true])), some (.ro (ocs K0))] (.tup [.agg (FF0.map .u8), .i 0]) (q3) rfl rfl ⟨⟨rfl, by first | ((repeat' (first | exact wk_nil | exact rfl | exact ren_eq (by first | (simp; done) | fail) rfl | (refine wk_agg ?_) | (refine wk_cons ?_ ?_))); done) | fail⟩, by (repeat' (first | exact trivial | refine And.intro ?_ ?_)) <;> first | rfl | exact ren_app2 (by first | (simp; done) | fail) (by rfl) (by rfl) | fail, by (repeat' (first | exact trivial | refine And.intro ?_ ?_)) <;> first | rfl, by first | exact renV_plainR _ (by first | (simp [plainR, plainT, plainW]; done) | fail) | fail, ?_⟩
 conv => whnf
 repeat (first | (refine brT rfl ?_; conv => whnf) | (refine Exists.intro _ (And.intro (sload_all rfl (by first | rfl | (simp [hF]; done) | fail)) ?_); conv => whnf) | (refine Exists.intro _ (And.intro (sput_all rfl (by first | rfl | (simp [hF]; done) | fail)) ?_); conv => whnf) | (refine Exists.intro _ (And.intro (hbh) ?_); conv => whnf) | (refine Exists.intro _ (And.intro (hbi) ?_); conv => whnf) | (refine Exists.intro _ (And.intro rfl ?_); conv => whnf) | (refine And.intro (by first | (simp; omega) | fail) ?_; conv => whnf) | (refine And.intro (by kernel_rfl) ?_; conv => whnf) | fail)
 refine And.intro ⟨kd_u8n FF0 hF, kd_u8n FF0 hF⟩ ?_
 conv => whnf
 repeat (first | (refine Exists.intro _ (And.intro (sload_all rfl (by first | rfl | (simp [hF]; done) | fail)) ?_); conv => whnf) | (refine gdT hq ?_; conv => whnf) | (refine Exists.intro _ (And.intro rfl ?_); conv => whnf) | fail)
 refine And.intro ⟨kd_u8n FF0 hF, rfl⟩ ?_
 conv => whnf
 repeat (first | (refine pkT hq ?_; conv => whnf) | fail)
 refine ⟨[], ?_, rfl, rfl, ?_, rfl⟩
 ·
  (repeat' (fail)) <;> first | exact wk_b (by exact hq2.symm) | fail
 ·
  (repeat' (first | exact trivial | fail)) <;> fail
end Go.Sh
namespace Go.Sh
open Go.Proofs
set_option maxHeartbeats 4000000
def secs (P : Prs) : List UInt8 := P.flatMap fun p => p.1
def pubs (P : Prs) : List UInt8 := P.flatMap fun p => p.2
theorem secs_len : ∀ {P : Prs}, PrOk P → (secs P).length = P.length * 32
 | [], _ => rfl
 | x :: P, h => by
  have h1 := secs_len (P := P) fun y hy => h y (List.mem_cons_of_mem _ hy)
  have h2 := (h x (List.mem_cons_self ..)).1
  show (x.1 ++ secs P).length = _
  rw [List.length_append, h1, h2, List.length_cons]; omega
theorem secs_drop : ∀ {P : Prs}, PrOk P → ∀ i, (secs P).drop (i * 32) = secs (P.drop i)
 | P, _, 0 => by rw [Nat.zero_mul, List.drop_zero, List.drop_zero]
 | [], _, _ + 1 => by rw [List.drop_nil]; exact List.drop_nil
 | x :: P, h, i + 1 => by
  have h1 := secs_drop (P := P) (fun y hy => h y (List.mem_cons_of_mem _ hy)) i
  have h2 := (h x (List.mem_cons_self ..)).1
  show (x.1 ++ secs P).drop _ = _
  rw [show (i + 1) * 32 = (x.1).length + i * 32 by omega, List.drop_append]
  simp only [List.drop_eq_nil_of_le (Nat.le_add_right _ _), List.nil_append, Nat.add_sub_cancel_left, List.drop_succ_cons]
  exact h1
theorem secs_at {P : Prs} (h : PrOk P) {i : Nat} (hi : i < P.length) {a b : List UInt8} (e : P[i] = (a, b)) : ((secs P).drop (0 + i * 32)).take 32 = (a, b).1 := by
 have h1 := h _ (List.getElem_mem hi)
 rw [e] at h1
 rw [Nat.zero_add, secs_drop h, List.drop_eq_getElem_cons hi, e]
 show ((a, b).1 ++ secs _).take 32 = _
 rw [show 32 = ((a, b).1).length by first | exact h1.1.symm | exact h1.2.symm, List.take_left]
theorem pubs_len : ∀ {P : Prs}, PrOk P → (pubs P).length = P.length * 32
 | [], _ => rfl
 | x :: P, h => by
  have h1 := pubs_len (P := P) fun y hy => h y (List.mem_cons_of_mem _ hy)
  have h2 := (h x (List.mem_cons_self ..)).2
  show (x.2 ++ pubs P).length = _
  rw [List.length_append, h1, h2, List.length_cons]; omega
theorem pubs_drop : ∀ {P : Prs}, PrOk P → ∀ i, (pubs P).drop (i * 32) = pubs (P.drop i)
 | P, _, 0 => by rw [Nat.zero_mul, List.drop_zero, List.drop_zero]
 | [], _, _ + 1 => by rw [List.drop_nil]; exact List.drop_nil
 | x :: P, h, i + 1 => by
  have h1 := pubs_drop (P := P) (fun y hy => h y (List.mem_cons_of_mem _ hy)) i
  have h2 := (h x (List.mem_cons_self ..)).2
  show (x.2 ++ pubs P).drop _ = _
  rw [show (i + 1) * 32 = (x.2).length + i * 32 by omega, List.drop_append]
  simp only [List.drop_eq_nil_of_le (Nat.le_add_right _ _), List.nil_append, Nat.add_sub_cancel_left, List.drop_succ_cons]
  exact h1
theorem pubs_at {P : Prs} (h : PrOk P) {i : Nat} (hi : i < P.length) {a b : List UInt8} (e : P[i] = (a, b)) : ((pubs P).drop (0 + i * 32)).take 32 = (a, b).2 := by
 have h1 := h _ (List.getElem_mem hi)
 rw [e] at h1
 rw [Nat.zero_add, pubs_drop h, List.drop_eq_getElem_cons hi, e]
 show ((a, b).2 ++ pubs _).take 32 = _
 rw [show 32 = ((a, b).2).length by first | exact h1.1.symm | exact h1.2.symm, List.take_left]
end Go.Sh
namespace Go.Sh
open Go.Proofs
set_option maxHeartbeats 4000000
attribute [local irreducible] mac_n exO_n shN pubN fstO allB pbs bc kb sc okP
theorem r12 (k : List UInt8) (hk : k.length = 32) : SCall Tryz.prog 12 [.agg (k.map .u8)] [] (.agg ((pubN k).map .u8)) [] := by
 have q1 := f108 k hk
 have q2 := f44 k hk false
 have l2 := pubN_len k
 obtain ⟨X, hX⟩ : ∃ X, X = pubN k := ⟨_, rfl⟩
 rw [← hX] at q2 l2 ⊢
 have q3 := f107 X 0 (by omega) (by omega) false X (by rw [List.drop_zero, List.take_of_length_le (by omega)])
 rw [l2] at q3
 refine scall_of ttOk (by kernel_rfl : Tryz.prog.funcs[12]? = some Tryz.f12) rfl rfl rfl ?_
 try simp only [List.length_cons, List.length_nil, Nat.zero_add, Nat.reduceAdd]
 refine sw_ok ttOk mixed (by kernel_rfl) ?_
 conv => whnf
 repeat (first | (refine Exists.intro _ (And.intro (sload_all rfl (by first | rfl | (simp [hk]; done) | fail)) ?_); conv => whnf) | fail)
 refine ok1_callF [] [true] false (q1) rfl rfl ⟨⟨rfl, by first | ((repeat' (first | exact wk_nil | exact ren_m8 rfl | (refine wk_agg ?_) | (refine wk_cons ?_ ?_))); done) | fail⟩, trivial, by first | simp [plainHf, plainB], by rfl, ?_⟩
 conv => whnf
 refine ok1_callF [2] [false, true] false (q2) rfl rfl ⟨⟨rfl, by rfl⟩, by (repeat' (first | exact trivial | refine And.intro ?_ ?_)) <;> first | exact ren_eq (by first | (simp; done) | fail) (by rfl) | fail, by first | simp [plainHf, plainB], by rfl, ?_⟩
 conv => whnf
 refine ok1_callF [3] [false] true (q3) rfl rfl ⟨⟨rfl, by rfl⟩, by (repeat' (first | exact trivial | refine And.intro ?_ ?_)) <;> first | exact ren_eq (by first | (simp; done) | fail) (by rfl) | fail, by rfl, by first | simp [plainRf, plainR, plainT, plainW], ?_⟩
 conv => whnf
 repeat (first | (refine Exists.intro _ (And.intro (sload_all rfl (by first | rfl | (simp [l2]; done) | fail)) ?_); conv => whnf) | (refine Exists.intro _ (And.intro (sput_all rfl (by first | rfl | (simp [l2]; done) | fail)) ?_); conv => whnf) | (refine And.intro (by first | omega | (simp; omega) | fail) ?_; conv => whnf) | fail)
 refine ⟨[], ?_, rfl, rfl, ?_, rfl⟩
 ·
  (repeat' (first | (refine wk_agg ?_) | fail)) <;> first | exact ren_eq (by first | (simp; done) | fail) (by rfl) | fail
 ·
  (repeat' (first | exact trivial | fail)) <;> fail
theorem r36 (a b : List UInt8) (ha : a.length = 32) (hb : b.length = 32) : SCall Tryz.prog 36 [.agg (a.map .u8), .agg (b.map .u8)] [] (.tup [.agg ((shN a b).map .u8), .b (!decide (shN a b = zer))]) [] := by
 have q1 := f108 a ha
 have q2 := f108 b hb
 have q3 := f43 a b ha hb false false
 have l2 := shN_len a b
 obtain ⟨X, hX⟩ : ∃ X, X = shN a b := ⟨_, rfl⟩
 rw [← hX] at q3 l2 ⊢
 have q4 := f107 X 0 (by omega) (by omega) false X (by rw [List.drop_zero, List.take_of_length_le (by omega)])
 rw [l2] at q4
 have hdec : eqcs (X.map SV.u8) (zer.map SV.u8) = decide (X = zer) := eqcs_dec _ _ (by rw [l2]; rfl)
 have hdec2 : (!eqcs (X.map SV.u8) (List.replicate 32 (SV.u8 0))) = !decide (X = zer) := by rw [← hdec]; rfl
 refine scall_of ttOk (by kernel_rfl : Tryz.prog.funcs[36]? = some Tryz.f36) rfl rfl rfl ?_
 try simp only [List.length_cons, List.length_nil, Nat.zero_add, Nat.reduceAdd]
 refine sw_ok ttOk mixed (by kernel_rfl) ?_
 conv => whnf
 repeat (first | (refine Exists.intro _ (And.intro (sload_all rfl (by first | rfl | (simp [ha, hb]; done) | fail)) ?_); conv => whnf) | fail)
 refine ok1_callF [] [true] false (q1) rfl rfl ⟨⟨rfl, by first | ((repeat' (first | exact wk_nil | exact ren_m8 rfl | (refine wk_agg ?_) | (refine wk_cons ?_ ?_))); done) | fail⟩, trivial, by first | simp [plainHf, plainB], by rfl, ?_⟩
 conv => whnf
 repeat (first | (refine Exists.intro _ (And.intro (sload_all rfl (by first | rfl | (simp [ha, hb]; done) | fail)) ?_); conv => whnf) | fail)
 refine ok1_callF [] [true] false (q2) rfl rfl ⟨⟨rfl, by first | ((repeat' (first | exact wk_nil | exact ren_m8 rfl | (refine wk_agg ?_) | (refine wk_cons ?_ ?_))); done) | fail⟩, trivial, by first | simp [plainHf, plainB], by rfl, ?_⟩
 conv => whnf
 refine ok1_callF [3, 4] [false, false, true] false (q3) rfl rfl ⟨⟨rfl, by rfl⟩, by (repeat' (first | exact trivial | refine And.intro ?_ ?_)) <;> first | exact ren_eq (by first | (simp; done) | fail) (by rfl) | fail, by first | simp [plainHf, plainB], by rfl, ?_⟩
 conv => whnf
 refine ok1_callF [5] [false] true (q4) rfl rfl ⟨⟨rfl, by rfl⟩, by (repeat' (first | exact trivial | refine And.intro ?_ ?_)) <;> first | exact ren_eq (by first | (simp; done) | fail) (by rfl) | fail, by rfl, by first | simp [plainRf, plainR, plainT, plainW], ?_⟩
 conv => whnf
 repeat (first | (refine Exists.intro _ (And.intro (sload_all rfl (by first | rfl | (simp [l2]; done) | fail)) ?_); conv => whnf) | (refine Exists.intro _ (And.intro (sput_all rfl (by first | rfl | (simp [l2]; done) | fail)) ?_); conv => whnf) | (refine Exists.intro _ (And.intro rfl ?_); conv => whnf) | (refine And.intro (by first | (simp; omega) | fail) ?_; conv => whnf) | (refine And.intro (by kernel_rfl) ?_; conv => whnf) | fail)
 refine And.intro ⟨kd_u8n X l2, rfl⟩ ?_
 conv => whnf
 repeat (first | (refine Exists.intro _ (And.intro (sload_all rfl (by first | rfl | (simp [l2]; done) | fail)) ?_); conv => whnf) | (refine Exists.intro _ (And.intro (sput_all rfl (by first | rfl | (simp [l2]; done) | fail)) ?_); conv => whnf) | (refine And.intro (by first | omega | (simp; omega) | fail) ?_; conv => whnf) | (refine And.intro (by kernel_rfl) ?_; conv => whnf) | fail)
 refine ⟨[], ?_, rfl, rfl, ?_, rfl⟩
 ·
  (repeat' (first | (refine wk_tup ?_) | (refine wk_agg ?_) | (refine wk_cons ?_ ?_))) <;> first | rfl | exact ren_eq (by first | (simp; done) | fail) (by rfl) | exact wk_b (by exact hdec2.symm) | fail
 ·
  (repeat' (first | exact trivial | fail)) <;> fail
attribute [local irreducible] secs pubs
theorem r17_y (P : Prs) (hP : PrOk P) (hn : P.length < 1000000) (hok : OkA P P.length) (f g : Bool) : SCall Tryz.prog 17 [.sl 0 0 P.length 32 f, .sl 1 0 P.length 32 g] [some (.ro ((secs P).map .u8)), some (.ro ((pubs P).map .u8))] (.tup [.sl 2 0 (allB P P.length).length 1 false, .b true]) [some (.ro ((secs P).map .u8)), some (.ro ((pubs P).map .u8)), some (.row 5 ((allB P P.length).map .u8))] := by
 have hsl := secs_len hP
 have hpl := pubs_len hP
 refine scall_of ttOk (by kernel_rfl : Tryz.prog.funcs[17]? = some Tryz.f17) rfl rfl rfl ?_
 try simp only [List.length_cons, List.length_nil, Nat.zero_add, Nat.reduceAdd]
 refine sw_ok ttOk mixed (by kernel_rfl) ?_
 conv => whnf
 refine SWp.weak (Weak.virt 6 5 1 rfl) ?_
 refine loop_rule ttOk mixed (by kernel_rfl) (ι := { i : Nat // i ≤ P.length }) (fun i => [(0, .sl 0 0 P.length 32 f), (1, .sl 1 0 P.length 32 g), (6, .sl 2 0 (allB P i.1).length 1 false), (7, .i (i.1 : Int))]) (fun i => [some (.ro ((secs P).map .u8)), some (.ro ((pubs P).map .u8)), some (.row 5 ((allB P i.1).map .u8))]) (fun _ => 3) (fun i => P.length - i.1) ⟨0, by omega⟩ ?_ ?_
 ·
  have h0 : allB P 0 = [] := by unfold allB; simp
  dsimp only
  rw [h0]
  refine Weak.sel [0, 1, 2] rfl rfl ?_ ?_ rfl rfl
  ·
   (repeat' (first | exact trivial | refine And.intro ?_ ?_ | fail)) <;> first | rfl | fail
  ·
   (repeat' (first | exact trivial | refine And.intro ?_ ?_ | fail)) <;> first | rfl | exact ren_eq (by first | (simp; done) | fail) (by rfl) | fail
 ·
  rintro ⟨i, hi⟩
  dsimp only
  by_cases hi2 : i < P.length
  ·
   have hlt : decide ((i : Int) < (P.length : Int)) = true := by simp; omega
   obtain ⟨a, b, hab⟩ : ∃ a b, P[i] = (a, b) := ⟨_, _, rfl⟩
   obtain ⟨ha, hb⟩ : a.length = 32 ∧ b.length = 32 := by have := hP _ (List.getElem_mem hi2); rw [hab] at this; exact this
   have hs1 := secs_at hP hi2 hab
   have hs2 := pubs_at hP hi2 hab
   dsimp only at hs1 hs2
   have hle1 : 0 + i * 32 + 32 ≤ (secs P).length := by omega
   have hle2 : 0 + i * 32 + 32 ≤ (pubs P).length := by omega
   have q := r36 a b ha hb
   have hne := hok i hi2 hi2
   have hs := allB_s hi2
   rw [hab] at hne hs
   dsimp only at hne hs
   have hll := allB_len (P := P) (i := i) (by omega)
   rw [decide_eq_false hne] at q
   have hwl := shN_len a b
   obtain ⟨W, hW⟩ : ∃ W, W = shN a b := ⟨_, rfl⟩
   rw [← hW] at q hs hne hwl
   obtain ⟨C, hC⟩ : ∃ C, C = allB P i := ⟨_, rfl⟩
   rw [← hC] at hll hs ⊢
   have q2 := f108 W hwl
   conv => whnf
   first | refine brT (by exact hlt) ?_ | fail
   conv => whnf
   repeat (first | (refine Exists.intro _ (And.intro (idx_i (m := i) (by rfl)) ?_); conv => whnf) | (refine Exists.intro _ (And.intro (sload_cut hs1 hle1) ?_); conv => whnf) | (refine Exists.intro _ (And.intro (sload_cut hs2 hle2) ?_); conv => whnf) | (refine And.intro (by omega) ?_; conv => whnf) | fail)
   refine ok1_callF [] [] true (q) rfl rfl ⟨⟨rfl, by first | ((repeat' (first | exact wk_nil | exact ren_m8 rfl | (refine wk_agg ?_) | (refine wk_cons ?_ ?_))); done) | fail⟩, trivial, by rfl, by first | simp [plainRf, plainR, plainT, plainW], ?_⟩
   conv => whnf
   repeat (first | (refine brF rfl ?_; conv => whnf) | (refine Exists.intro _ (And.intro (sload_all rfl (by first | rfl | (simp [hwl]; done) | fail)) ?_); conv => whnf) | (refine Exists.intro _ (And.intro (sput_all rfl (by first | rfl | (simp [hwl]; done) | fail)) ?_); conv => whnf) | (refine And.intro (by first | omega | (simp; omega) | fail) ?_; conv => whnf) | (refine And.intro (by kernel_rfl) ?_; conv => whnf) | fail)
   refine ok1_callF [] [true] false (q2) rfl rfl ⟨⟨rfl, by first | ((repeat' (first | exact wk_nil | exact ren_m8 rfl | (refine wk_agg ?_) | (refine wk_cons ?_ ?_))); done) | fail⟩, trivial, by first | simp [plainHf, plainB], by rfl, ?_⟩
   conv => whnf
   repeat (first | (refine And.intro (by first | omega | (simp [ti5]; omega)) ?_; conv => whnf) | fail)
   have hp1 := wp30 i (by omega)
   have hcl : (C ++ W).length = C.length + 32 := by rw [List.length_append, hwl]
   have hap : (C ++ W).map SV.u8 = List.take (C.length * 1) (List.drop 0 (C.map SV.u8)) ++ List.take (32 * 1) (List.drop 0 (W.map SV.u8)) := by
    rw [List.drop_zero, List.drop_zero, Nat.mul_one, List.take_of_length_le (by simp), List.take_of_length_le (by simp; omega), List.map_append]
   refine ⟨⟨i + 1, by omega⟩, by simp only; omega, ?_⟩
   dsimp only
   rw [hs]
   refine Weak.sel [0, 1, 5] rfl rfl ?_ ?_ rfl rfl
   ·
    (repeat' (first | exact trivial | refine And.intro ?_ ?_ | fail)) <;> first | exact wk_i (by first | exact hp1 | exact hp1.symm | fail) | rfl | exact wk_sl rfl (by rfl) (by exact hcl) | fail
   ·
    (repeat' (first | exact trivial | exact ren_eq (plainL_u8 _) hap | refine And.intro ?_ ?_ | fail)) <;> first | rfl | exact ren_eq (by first | (simp; done) | fail) (by rfl) | fail
  ·
   obtain rfl : i = P.length := by omega
   have hlt : decide ((P.length : Int) < (P.length : Int)) = false := by simp
   conv => whnf
   repeat (first | (refine gdF (by first | (simp; done) | fail) ?_; conv => whnf) | fail)
   refine ⟨[0, 1, 2], ?_, rfl, rfl, ?_, rfl⟩
   ·
    (repeat' (first | (refine wk_tup ?_) | (refine wk_cons ?_ ?_))) <;> first | rfl | fail
   ·
    (repeat' (first | exact trivial | refine And.intro ?_ ?_ | fail)) <;> first | rfl | exact ren_eq (by first | (simp; done) | fail) (by rfl) | fail
theorem r17_x (P : Prs) (hP : PrOk P) (hn : P.length < 1000000) (m : Nat) (hm : m < P.length) (hok : OkA P m) (hz : shN P[m].1 P[m].2 = zer) (f g : Bool) : SCall Tryz.prog 17 [.sl 0 0 P.length 32 f, .sl 1 0 P.length 32 g] [some (.ro ((secs P).map .u8)), some (.ro ((pubs P).map .u8))] (.tup [.slnil, .b false]) [some (.ro ((secs P).map .u8)), some (.ro ((pubs P).map .u8))] := by
 have hsl := secs_len hP
 have hpl := pubs_len hP
 refine scall_of ttOk (by kernel_rfl : Tryz.prog.funcs[17]? = some Tryz.f17) rfl rfl rfl ?_
 try simp only [List.length_cons, List.length_nil, Nat.zero_add, Nat.reduceAdd]
 refine sw_ok ttOk mixed (by kernel_rfl) ?_
 conv => whnf
 refine SWp.weak (Weak.virt 6 5 1 rfl) ?_
 refine loop_rule ttOk mixed (by kernel_rfl) (ι := { i : Nat // i ≤ m }) (fun i => [(0, .sl 0 0 P.length 32 f), (1, .sl 1 0 P.length 32 g), (6, .sl 2 0 (allB P i.1).length 1 false), (7, .i (i.1 : Int))]) (fun i => [some (.ro ((secs P).map .u8)), some (.ro ((pubs P).map .u8)), some (.row 5 ((allB P i.1).map .u8))]) (fun _ => 3) (fun i => P.length - i.1) ⟨0, by omega⟩ ?_ ?_
 ·
  have h0 : allB P 0 = [] := by unfold allB; simp
  dsimp only
  rw [h0]
  refine Weak.sel [0, 1, 2] rfl rfl ?_ ?_ rfl rfl
  ·
   (repeat' (first | exact trivial | refine And.intro ?_ ?_ | fail)) <;> first | rfl | fail
  ·
   (repeat' (first | exact trivial | refine And.intro ?_ ?_ | fail)) <;> first | rfl | exact ren_eq (by first | (simp; done) | fail) (by rfl) | fail
 ·
  rintro ⟨i, hi⟩
  dsimp only
  have hi2 : i < P.length := by omega
  have hlt : decide ((i : Int) < (P.length : Int)) = true := by simp; omega
  obtain ⟨a, b, hab⟩ : ∃ a b, P[i] = (a, b) := ⟨_, _, rfl⟩
  obtain ⟨ha, hb⟩ : a.length = 32 ∧ b.length = 32 := by have := hP _ (List.getElem_mem hi2); rw [hab] at this; exact this
  have hs1 := secs_at hP hi2 hab
  have hs2 := pubs_at hP hi2 hab
  dsimp only at hs1 hs2
  have hle1 : 0 + i * 32 + 32 ≤ (secs P).length := by omega
  have hle2 : 0 + i * 32 + 32 ≤ (pubs P).length := by omega
  have q := r36 a b ha hb
  have hne : i ≠ m → shN P[i].1 P[i].2 ≠ zer := fun h => hok i hi2 (by omega)
  have hze : i = m → shN P[i].1 P[i].2 = zer := fun h => by subst h; exact hz
  have hs := allB_s hi2
  rw [hab] at hne hs hze
  dsimp only at hne hs hze
  have hll := allB_len (P := P) (i := i) (by omega)
  have hwl := shN_len a b
  obtain ⟨W, hW⟩ : ∃ W, W = shN a b := ⟨_, rfl⟩
  rw [← hW] at q hs hne hwl hze
  obtain ⟨C, hC⟩ : ∃ C, C = allB P i := ⟨_, rfl⟩
  rw [← hC] at hll hs ⊢
  have q2 := f108 W hwl
  by_cases him : i = m
  ·
   rw [decide_eq_true (hze him)] at q
   conv => whnf
   first | refine brT (by exact hlt) ?_ | fail
   conv => whnf
   repeat (first | (refine Exists.intro _ (And.intro (idx_i (m := i) (by rfl)) ?_); conv => whnf) | (refine Exists.intro _ (And.intro (sload_cut hs1 hle1) ?_); conv => whnf) | (refine Exists.intro _ (And.intro (sload_cut hs2 hle2) ?_); conv => whnf) | (refine And.intro (by omega) ?_; conv => whnf) | fail)
   refine ok1_callF [] [] true (q) rfl rfl ⟨⟨rfl, by first | ((repeat' (first | exact wk_nil | exact ren_m8 rfl | (refine wk_agg ?_) | (refine wk_cons ?_ ?_))); done) | fail⟩, trivial, by rfl, by first | simp [plainRf, plainR, plainT, plainW], ?_⟩
   conv => whnf
   repeat (first | (refine brT rfl ?_; conv => whnf) | (refine Exists.intro _ (And.intro (sput_all rfl (by first | rfl | (simp [hwl]; done) | fail)) ?_); conv => whnf) | (refine And.intro (by first | omega | (simp; omega) | fail) ?_; conv => whnf) | (refine And.intro (by kernel_rfl) ?_; conv => whnf) | fail)
   refine ⟨[0, 1], ?_, rfl, rfl, ?_, rfl⟩
   ·
    (repeat' (first | (refine wk_tup ?_) | (refine wk_cons ?_ ?_))) <;> first | rfl | fail
   ·
    (repeat' (first | exact trivial | refine And.intro ?_ ?_ | fail)) <;> first | exact ren_eq (by first | (simp; done) | fail) (by rfl) | fail
  ·
   rw [decide_eq_false (hne him)] at q
   conv => whnf
   first | refine brT (by exact hlt) ?_ | fail
   conv => whnf
   repeat (first | (refine Exists.intro _ (And.intro (idx_i (m := i) (by rfl)) ?_); conv => whnf) | (refine Exists.intro _ (And.intro (sload_cut hs1 hle1) ?_); conv => whnf) | (refine Exists.intro _ (And.intro (sload_cut hs2 hle2) ?_); conv => whnf) | (refine And.intro (by omega) ?_; conv => whnf) | fail)
   refine ok1_callF [] [] true (q) rfl rfl ⟨⟨rfl, by first | ((repeat' (first | exact wk_nil | exact ren_m8 rfl | (refine wk_agg ?_) | (refine wk_cons ?_ ?_))); done) | fail⟩, trivial, by rfl, by first | simp [plainRf, plainR, plainT, plainW], ?_⟩
   conv => whnf
   repeat (first | (refine brF rfl ?_; conv => whnf) | (refine Exists.intro _ (And.intro (sload_all rfl (by first | rfl | (simp [hwl]; done) | fail)) ?_); conv => whnf) | (refine Exists.intro _ (And.intro (sput_all rfl (by first | rfl | (simp [hwl]; done) | fail)) ?_); conv => whnf) | (refine And.intro (by first | omega | (simp; omega) | fail) ?_; conv => whnf) | (refine And.intro (by kernel_rfl) ?_; conv => whnf) | fail)
   refine ok1_callF [] [true] false (q2) rfl rfl ⟨⟨rfl, by first | ((repeat' (first | exact wk_nil | exact ren_m8 rfl | (refine wk_agg ?_) | (refine wk_cons ?_ ?_))); done) | fail⟩, trivial, by first | simp [plainHf, plainB], by rfl, ?_⟩
   conv => whnf
   repeat (first | (refine And.intro (by first | omega | (simp [ti5]; omega)) ?_; conv => whnf) | fail)
   have hp1 := wp30 i (by omega)
   have hcl : (C ++ W).length = C.length + 32 := by rw [List.length_append, hwl]
   have hap : (C ++ W).map SV.u8 = List.take (C.length * 1) (List.drop 0 (C.map SV.u8)) ++ List.take (32 * 1) (List.drop 0 (W.map SV.u8)) := by
    rw [List.drop_zero, List.drop_zero, Nat.mul_one, List.take_of_length_le (by simp), List.take_of_length_le (by simp; omega), List.map_append]
   refine ⟨⟨i + 1, by omega⟩, by simp only; omega, ?_⟩
   dsimp only
   rw [hs]
   refine Weak.sel [0, 1, 5] rfl rfl ?_ ?_ rfl rfl
   ·
    (repeat' (first | exact trivial | refine And.intro ?_ ?_ | fail)) <;> first | exact wk_i (by first | exact hp1 | exact hp1.symm | fail) | rfl | exact wk_sl rfl (by rfl) (by exact hcl) | fail
   ·
    (repeat' (first | exact trivial | exact ren_eq (plainL_u8 _) hap | refine And.intro ?_ ?_ | fail)) <;> first | rfl | exact ren_eq (by first | (simp; done) | fail) (by rfl) | fail
theorem r17_z (P : Prs) (hP : PrOk P) (hn : P.length < 1000000) (hz : okP P = false) (f g : Bool) : SCall Tryz.prog 17 [.sl 0 0 P.length 32 f, .sl 1 0 P.length 32 g] [some (.ro ((secs P).map .u8)), some (.ro ((pubs P).map .u8))] (.tup [.slnil, .b false]) [some (.ro ((secs P).map .u8)), some (.ro ((pubs P).map .u8))] := by
 obtain ⟨m, hm, h1, h2⟩ := okP_x hz
 exact r17_x P hP hn m hm h1 h2 f g
theorem r18 (C A B : List UInt8) (hA : A.length = 32) (hB : B.length = 32) (hC : C.length < 1000000) (f : Bool) : SCall Tryz.prog 18 [.sl 0 0 C.length 1 f, .agg (A.map .u8), .agg (B.map .u8)] [some (.ro (C.map .u8))] (.tup [.agg (((fstO A B C).take 32).map .u8), .agg (((fstO A B C).drop 32).map .u8)]) [some (.ro (C.map .u8))] := by
 have p1 := f108 A hA
 have p2 := f108 B hB
 have q1 := f48_n setS C (by decide) (by omega) true f
 rw [show setS.length = 12 from rfl] at q1
 have l1 := mac_len_n setS C
 have q3 := f52_n (mac_n setS C) (A ++ B) (by omega) (by rw [List.length_append, hA, hB]; decide) 64 (by decide) (by decide) false false
 have l3 := fstO_len A B C
 rw [show exO_n (mac_n setS C) (A ++ B) ((64 + (32 - 1)) / 32) = fstO A B C by unfold fstO; rfl, l1, show (A ++ B).length = 64 by rw [List.length_append, hA, hB]] at q3
 obtain ⟨M, hM⟩ : ∃ M, M = mac_n setS C := ⟨_, rfl⟩
 obtain ⟨X, hX⟩ : ∃ X, X = fstO A B C := ⟨_, rfl⟩
 rw [← hM] at q1 q3 l1
 rw [← hX] at q3 l3 ⊢
 have k1 := f107 X 0 (by omega) (by omega) false (X.take 32) (by rw [List.drop_zero])
 have k2 := f107 X 32 (by omega) (by omega) false (X.drop 32) (by rw [List.take_of_length_le (by simp; omega)])
 rw [l3] at k1 k2
 have m1 : (X.take 32).length = 32 := by rw [List.length_take]; omega
 have m2 : (X.drop 32).length = 32 := by rw [List.length_drop]; omega
 obtain ⟨X1, eX1⟩ : ∃ Z, Z = X.take 32 := ⟨_, rfl⟩
 obtain ⟨X2, eX2⟩ : ∃ Z, Z = X.drop 32 := ⟨_, rfl⟩
 rw [← eX1] at k1 m1 ⊢
 rw [← eX2] at k2 m2 ⊢
 refine scall_of ttOk (by kernel_rfl : Tryz.prog.funcs[18]? = some Tryz.f18) rfl rfl rfl ?_
 try simp only [List.length_cons, List.length_nil, Nat.zero_add, Nat.reduceAdd]
 refine sw_ok ttOk mixed (by kernel_rfl) ?_
 conv => whnf
 repeat (first | (refine Exists.intro _ (And.intro (sload_all rfl (by first | rfl | (simp [hA, hB]; done) | fail)) ?_); conv => whnf) | fail)
 refine ok1_callF [] [true] false (p1) rfl rfl ⟨⟨rfl, by first | ((repeat' (first | exact wk_nil | exact ren_m8 rfl | (refine wk_agg ?_) | (refine wk_cons ?_ ?_))); done) | fail⟩, trivial, by first | simp [plainHf, plainB], by rfl, ?_⟩
 conv => whnf
 repeat (first | (refine Exists.intro _ (And.intro (sload_all rfl (by first | rfl | (simp [hA, hB]; done) | fail)) ?_); conv => whnf) | fail)
 refine ok1_callF [] [true] false (p2) rfl rfl ⟨⟨rfl, by first | ((repeat' (first | exact wk_nil | exact ren_m8 rfl | (refine wk_agg ?_) | (refine wk_cons ?_ ?_))); done) | fail⟩, trivial, by first | simp [plainHf, plainB], by rfl, ?_⟩
 conv => whnf
 repeat (first | (refine Exists.intro _ (And.intro rfl ?_); conv => whnf) | (refine And.intro (by first | omega | (simp [ti5]; omega)) ?_; conv => whnf) | (refine And.intro (by kernel_rfl) ?_; conv => whnf) | fail)
 refine ok1_callF [8, 0] [false, false, true] false (q1) rfl rfl ⟨⟨rfl, by rfl⟩, by (repeat' (first | exact trivial | refine And.intro ?_ ?_)) <;> first | rfl | exact ren_eq (by first | (simp; done) | fail) (by rfl) | fail, by first | simp [plainHf, plainB], by rfl, ?_⟩
 conv => whnf
 refine ok1_callF [9, 7] [false, false, true] false (q3) rfl rfl ⟨⟨rfl, by rfl⟩, by (repeat' (first | exact trivial | refine And.intro ?_ ?_)) <;> first | exact ren_eq (plainL_u8 _) (cat2 hA hB).symm | exact ren_eq (by first | (simp; done) | fail) (by rfl) | fail, by first | simp [plainHf, plainB], by rfl, ?_⟩
 conv => whnf
 refine ok1_callF [10] [false] true (k1) rfl rfl ⟨⟨rfl, by rfl⟩, by (repeat' (first | exact trivial | refine And.intro ?_ ?_)) <;> first | exact ren_eq (by first | (simp; done) | fail) (by rfl) | fail, by rfl, by first | simp [plainRf, plainR, plainT, plainW], ?_⟩
 conv => whnf
 refine ok1_callF [10] [false] true (k2) rfl rfl ⟨⟨rfl, by rfl⟩, by (repeat' (first | exact trivial | refine And.intro ?_ ?_)) <;> first | exact ren_eq (by first | (simp; done) | fail) (by rfl) | fail, by rfl, by first | simp [plainRf, plainR, plainT, plainW], ?_⟩
 conv => whnf
 repeat (first | (refine Exists.intro _ (And.intro (sload_all rfl (by first | rfl | (simp [m1, m2]; done) | fail)) ?_); conv => whnf) | (refine Exists.intro _ (And.intro (sput_all rfl (by first | rfl | (simp [m1, m2]; done) | fail)) ?_); conv => whnf) | (refine And.intro (by first | omega | (simp; omega) | fail) ?_; conv => whnf) | fail)
 refine ⟨[0], ?_, rfl, rfl, ?_, rfl⟩
 ·
  (repeat' (first | (refine wk_tup ?_) | (refine wk_agg ?_) | (refine wk_cons ?_ ?_))) <;> first | rfl | exact ren_eq (by first | (simp; done) | fail) (by rfl) | fail
 ·
  (repeat' (first | exact trivial | refine And.intro ?_ ?_ | fail)) <;> first | exact ren_eq (by first | (simp; done) | fail) (by rfl) | fail
end Go.Sh
namespace Go.Sh
open Go.Proofs
set_option maxHeartbeats 4000000
theorem sload_oci {K : List (UInt32 × List UInt8)} (h : OcOk K) {i : Nat} (hi : i < K.length) {x : UInt32} {k : List UInt8} (hx : K[i] = (x, k)) : sload false 1 (ocs K) (0 + i * 33 + 0) = some (.u32 x) := by
 have h1 := ocs_at h hi
 rw [hx] at h1
 have h2 := congrArg (fun l : List SV => l[0]?) h1
 simp only [sload, Bool.false_eq_true, if_false, Nat.add_zero]
 rw [List.getElem?_take_of_lt (by decide), List.getElem?_drop, Nat.add_zero] at h2
 rw [h2]; rfl
theorem fillK3 {a b c : List UInt8} (ha : a.length = 32) (hb : b.length = 32) (hc : c.length = 32) : sfill (fun i => some (i * 32, 32)) (reps 3 (z8 32)) [(0, .agg (a.map .u8)), (1, .agg (b.map .u8)), (2, .agg (c.map .u8))] = some ((a ++ (b ++ c)).map .u8) := by
 have h0 : reps 3 (z8 32) = z8 32 ++ (z8 32 ++ (z8 32 ++ [])) := rfl
 rw [h0]
 have mx := mlen ha
 have my := mlen hb
 have mz := mlen hc
 refine sfill_c rfl rfl mx (by simp) ?_
 rw [sput_fst (mx.trans (z8_len 32).symm)]
 refine sfill_c rfl rfl my (by simp [ha]) ?_
 rw [sput_skip (o := 0) mx rfl (sput_fst (my.trans (z8_len 32).symm))]
 refine sfill_c rfl rfl mz (by simp [ha, hb]) ?_
 rw [sput_skip (o := 32) mx rfl (sput_skip (o := 0) my rfl (sput_fst (mz.trans (z8_len 32).symm)))]
 rw [List.append_nil, List.map_append, List.map_append]; rfl
theorem fillK1 {x : List UInt8} (hx : x.length = 32) : sfill (fun i => some (i * 32, 32)) (reps 1 (z8 32)) [(0, .agg (x.map .u8))] = some (x.map .u8) := by
 have h0 : reps 1 (z8 32) = z8 32 ++ [] := rfl
 rw [h0]
 have mx := mlen hx
 refine sfill_c rfl rfl mx (by simp) ?_
 rw [sput_fst (mx.trans (z8_len 32).symm), List.append_nil]; rfl
theorem fillKs {a b c : List UInt8} (ha : a.length = 32) (hb : b.length = 32) (hc : c.length = 32) (x y z : List UInt8) : sfill (fun i => some (i * 32, 32)) (reps 3 (z8 32)) [(0, .agg (a.map .u8)), (1, .agg (b.map .u8)), (2, .agg (c.map .u8))] = some ((secs [(a, x), (b, y), (c, z)]).map .u8) := by
 rw [fillK3 ha hb hc]; congr 2; simp [secs]
theorem fillKp {a b c : List UInt8} (ha : a.length = 32) (hb : b.length = 32) (hc : c.length = 32) (x y z : List UInt8) : sfill (fun i => some (i * 32, 32)) (reps 3 (z8 32)) [(0, .agg (a.map .u8)), (1, .agg (b.map .u8)), (2, .agg (c.map .u8))] = some ((pubs [(x, a), (y, b), (z, c)]).map .u8) := by
 rw [fillK3 ha hb hc]; congr 2; simp [pubs]
theorem catKs {a b c d : List UInt8} (ha : a.length = 32) (hb : b.length = 32) (hc : c.length = 32) (hd : d.length = 32) (x y z w : List UInt8) : List.take (3 * 32) (List.drop 0 ((secs [(a, x), (b, y), (c, z)]).map SV.u8)) ++ List.take (1 * 32) (List.drop 0 (d.map SV.u8)) = (secs [(a, x), (b, y), (c, z), (d, w)]).map .u8 := by
 rw [List.drop_zero, List.drop_zero, List.take_of_length_le (by simp [secs, ha, hb, hc]), List.take_of_length_le (by simp [hd]), ← List.map_append]
 congr 1
 simp [secs]
theorem catKp {a b c d : List UInt8} (ha : a.length = 32) (hb : b.length = 32) (hc : c.length = 32) (hd : d.length = 32) (x y z w : List UInt8) : List.take (3 * 32) (List.drop 0 ((pubs [(x, a), (y, b), (z, c)]).map SV.u8)) ++ List.take (1 * 32) (List.drop 0 (d.map SV.u8)) = (pubs [(x, a), (y, b), (z, c), (w, d)]).map .u8 := by
 rw [List.drop_zero, List.drop_zero, List.take_of_length_le (by simp [pubs, ha, hb, hc]), List.take_of_length_le (by simp [hd]), ← List.map_append]
 congr 1
 simp [pubs]
def rbegR (A e I S O : List UInt8) (h : Bool) (i : UInt32) : SV :=
 if okP (begP A e I S O h) then .tup [.agg (((fstO (pubN A) I (allB (begP A e I S O h) (begP A e I S O h).length)).take 32).map .u8), .agg (((fstO (pubN A) I (allB (begP A e I S O h) (begP A e I S O h).length)).drop 32).map .u8), .agg (sc (pubN A) (pubN e) h (if h then i else 0)), .b true]
 else .tup [.agg (z8 32), .agg (z8 32), .agg sc0, .b false]
attribute [local irreducible] mac_n exO_n shN pubN fstO allB pbs bc kb sc okP secs pubs
theorem r8 (D A S : List UInt8) (hD : D.length = 2) (hA : A.length = 32) (hS : S.length = 32) (n : Nat) (f : Bool) (K : List (UInt32 × List UInt8)) (D2 I2 S2 O e : List UInt8) (hD2 : D2.length = 2) (hI : I2.length = 32) (hS2 : S2.length = 32) (hO : O.length = 32) (he : e.length = 32) (h : Bool) (i : UInt32) : SCall Tryz.prog 8 [.agg ((kb D A S).map .u8 ++ [.sl 0 0 n 33 f]), .agg (bc D2 I2 S2 h i O), .agg (e.map .u8)] [some (.ro (ocs K))] (rbegR A e I2 S2 O h i) [some (.ro (ocs K))] := by
 have q1 := r12 A hA
 have l1 := pubN_len A
 have q2 := r12 e he
 have l2 := pubN_len e
 have hM := kb_len hD hA hS
 have ha := kb_a (S := S) hD hA
 obtain ⟨M, eM⟩ : ∃ M, M = kb D A S := ⟨_, rfl⟩
 rw [← eM] at hM ha ⊢
 have ba : 2 + 32 ≤ M.length := by omega
 unfold rbegR
 obtain ⟨X, hX⟩ : ∃ X, X = pubN A := ⟨_, rfl⟩
 rw [← hX] at q1 l1 ⊢
 obtain ⟨Y, hY⟩ : ∃ X, X = pubN e := ⟨_, rfl⟩
 rw [← hY] at q2 l2 ⊢
 have hB := bc_len (h := h) (i := i) hD2 hI hS2 hO
 have hsc := sc_len (h := false) (i := 0) l1 l2
 have hsc1 := sc_len (h := true) (i := 0) l1 l2
 have hsc2 := sc_len (h := true) (i := i) l1 l2
 have hP3 : PrOk [(A, S2), (e, I2), (e, S2)] := by
  intro p hp
  simp only [List.mem_cons, List.not_mem_nil, or_false] at hp
  rcases hp with rfl | rfl | rfl <;> simp [hA, hS2, he, hI]
 have hP4 : PrOk [(A, S2), (e, I2), (e, S2), (e, O)] := by
  intro p hp
  simp only [List.mem_cons, List.not_mem_nil, or_false] at hp
  rcases hp with rfl | rfl | rfl | rfl <;> simp [hA, hS2, he, hI, hO]
 refine scall_of ttOk (by kernel_rfl : Tryz.prog.funcs[8]? = some Tryz.f8) rfl rfl rfl ?_
 try simp only [List.length_cons, List.length_nil, Nat.zero_add, Nat.reduceAdd]
 refine sw_ok ttOk mixed (by kernel_rfl) ?_
 conv => whnf
 repeat (first | (refine Exists.intro _ (And.intro (sload_all rfl (by first | rfl | (simp [hM, hB, he]; done) | fail)) ?_); conv => whnf) | (refine Exists.intro _ (And.intro (sload_mapc ha ba) ?_); conv => whnf) | (refine Exists.intro _ (And.intro (bc_a hD2 hI) ?_); conv => whnf) | (refine Exists.intro _ (And.intro (bc_s hD2 hI hS2) ?_); conv => whnf) | (refine Exists.intro _ (And.intro (fillKs hA he he S2 I2 S2) ?_); conv => whnf) | (refine Exists.intro _ (And.intro (fillKp hS2 hI hS2 A e e) ?_); conv => whnf) | fail)
 refine ok1_callF [] [] true (q1) rfl rfl ⟨⟨rfl, by first | ((repeat' (first | exact wk_nil | exact ren_m8 rfl | (refine wk_agg ?_) | (refine wk_cons ?_ ?_))); done) | fail⟩, trivial, by rfl, by first | simp [plainRf, plainR, plainT, plainW], ?_⟩
 conv => whnf
 repeat (first | (refine Exists.intro _ (And.intro (sload_all rfl (by first | rfl | (simp [he]; done) | fail)) ?_); conv => whnf) | fail)
 refine ok1_callF [] [] true (q2) rfl rfl ⟨⟨rfl, by first | ((repeat' (first | exact wk_nil | exact ren_m8 rfl | (refine wk_agg ?_) | (refine wk_cons ?_ ?_))); done) | fail⟩, trivial, by rfl, by first | simp [plainRf, plainR, plainT, plainW], ?_⟩
 conv => whnf
 repeat (first | (refine Exists.intro _ (And.intro (sput_all rfl (by first | rfl | (simp [hsc]; done) | fail)) ?_); conv => whnf) | (refine Exists.intro _ (And.intro (fillS l1 l2) ?_); conv => whnf) | (refine Exists.intro _ (And.intro (bc_h hD2 hI hS2) ?_); conv => whnf) | (refine And.intro (by first | (simp; omega) | fail) ?_; conv => whnf) | (refine And.intro (by kernel_rfl) ?_; conv => whnf) | fail)
 have hl3 : ((secs [(A, S2), (e, I2), (e, S2)]).map SV.u8).length = 96 := by rw [List.length_map, secs_len hP3]; rfl
 have hl4 : ((pubs [(A, S2), (e, I2), (e, S2)]).map SV.u8).length = 96 := by rw [List.length_map, pubs_len hP3]; rfl
 cases h with
 | true =>
  have hc1 := catKs hA he he he S2 I2 S2 O
  have hc2 := catKp hS2 hI hS2 hO A e e e
  have hl1 : (O.map SV.u8).length = 32 := mlen hO
  have hl2 : (e.map SV.u8).length = 32 := mlen he
  first | refine brT (by rfl) ?_ | fail
  conv => whnf
  repeat (first | (refine Exists.intro _ (And.intro (sload_all rfl (by first | rfl | (simp [he, hl3, hl4, hl1, hl2, hsc, hsc1, hsc2]; done) | fail)) ?_); conv => whnf) | (refine Exists.intro _ (And.intro (bc_o hD2 hI hS2 hO) ?_); conv => whnf) | (refine Exists.intro _ (And.intro (fillK1 he) ?_); conv => whnf) | (refine Exists.intro _ (And.intro (fillK1 hO) ?_); conv => whnf) | (refine Exists.intro _ (And.intro (bc_i hD2 hI hS2) ?_); conv => whnf) | (refine Exists.intro _ (And.intro (psc_h l1 l2 true) ?_); conv => whnf) | (refine Exists.intro _ (And.intro (psc_n l1 l2 i) ?_); conv => whnf) | (refine And.intro (by first | omega | (simp; omega) | fail) ?_; conv => whnf) | (refine And.intro ⟨by first | exact @rfl Nat _ | (simp [he, hl3, hl4, hl1, hl2, hsc, hsc1, hsc2]; done) | fail, by first | (simp [he, hl3, hl4, hl1, hl2, hsc, hsc1, hsc2]; done) | fail⟩ ?_; conv => whnf) | (refine And.intro ⟨by first | (simp [he, hl3, hl4, hl1, hl2, hsc, hsc1, hsc2]; done) | fail, by first | (simp [he, hl3, hl4, hl1, hl2, hsc, hsc1, hsc2]; done) | fail, by decide⟩ ?_; conv => whnf) | fail)
  by_cases hok : okP [(A, S2), (e, I2), (e, S2), (e, O)] = true
  ·
   have q3 := r17_y [(A, S2), (e, I2), (e, S2), (e, O)] hP4 (by simp) (okP_y hok) false false
   have l3 := allB_len (P := [(A, S2), (e, I2), (e, S2), (e, O)]) (i := 4) (by simp)
   have q4 := r18 (allB [(A, S2), (e, I2), (e, S2), (e, O)] 4) X I2 l1 hI (by omega) false
   have l4 := fstO_len X I2 (allB [(A, S2), (e, I2), (e, S2), (e, O)] 4)
   rw [show begP A e I2 S2 O true = [(A, S2), (e, I2), (e, S2), (e, O)] from rfl, if_pos hok, if_pos rfl]
   simp only [List.length_cons, List.length_nil, Nat.zero_add, Nat.reduceAdd] at q3 ⊢
   obtain ⟨Z, hZ⟩ : ∃ Z, Z = fstO X I2 (allB [(A, S2), (e, I2), (e, S2), (e, O)] 4) := ⟨_, rfl⟩
   rw [← hZ] at q4 l4 ⊢
   obtain ⟨C, hC⟩ : ∃ Z, Z = allB [(A, S2), (e, I2), (e, S2), (e, O)] 4 := ⟨_, rfl⟩
   rw [← hC] at q3 q4 l3
   have m1 : (Z.take 32).length = 32 := by rw [List.length_take]; omega
   have m2 : (Z.drop 32).length = 32 := by rw [List.length_drop]; omega
   obtain ⟨Z1, eZ1⟩ : ∃ W, W = Z.take 32 := ⟨_, rfl⟩
   obtain ⟨Z2, eZ2⟩ : ∃ W, W = Z.drop 32 := ⟨_, rfl⟩
   rw [← eZ1] at q4 m1 ⊢
   rw [← eZ2] at q4 m2 ⊢
   refine ok1_callF [11, 13] [true, true, true] false (q3) rfl rfl ⟨⟨rfl, by rfl⟩, by (repeat' (first | exact trivial | refine And.intro ?_ ?_)) <;> first | exact ren_eq (plainL_u8 _) (by first | exact hc1.symm | exact hc2.symm) | fail, by first | simp [plainHf, plainB], by rfl, ?_⟩
   conv => whnf
   repeat (first | (refine brF rfl ?_; conv => whnf) | (refine Exists.intro _ (And.intro (sc_i l1) ?_); conv => whnf) | (refine Exists.intro _ (And.intro (bc_a hD2 hI) ?_); conv => whnf) | fail)
   refine ok1_callF [14] [true] true (q4) rfl rfl ⟨⟨rfl, by first | ((repeat' (first | exact wk_nil | exact ren_m8 rfl | exact rfl | (refine wk_agg ?_) | (refine wk_cons ?_ ?_))); done) | fail⟩, by (repeat' (first | exact trivial | refine And.intro ?_ ?_)) <;> first | exact ren_eq (by first | (simp; done) | fail) (by rfl) | fail, by first | simp [plainHf, plainB], by first | simp [plainRf, plainR, plainT, plainW], ?_⟩
   conv => whnf
   repeat (first | (refine Exists.intro _ (And.intro (sload_all rfl (by first | rfl | (simp [m1, m2, hsc2]; done) | fail)) ?_); conv => whnf) | (refine Exists.intro _ (And.intro (sput_all rfl (by first | rfl | (simp [m1, m2, hsc2]; done) | fail)) ?_); conv => whnf) | (refine And.intro (by first | omega | (simp; omega) | fail) ?_; conv => whnf) | (refine And.intro (by kernel_rfl) ?_; conv => whnf) | fail)
   refine ⟨[0], ?_, rfl, rfl, ?_, rfl⟩
   ·
    (repeat' (first | (refine wk_tup ?_) | (refine wk_agg ?_) | (refine wk_cons ?_ ?_))) <;> first | rfl | exact ren_eq (by first | (simp; done) | fail) (by rfl) | fail
   ·
    (repeat' (first | exact trivial | refine And.intro ?_ ?_ | fail)) <;> first | exact ren_eq (by first | (simp; done) | fail) (by rfl) | fail
  ·
   rw [Bool.not_eq_true] at hok
   have q3 := r17_z [(A, S2), (e, I2), (e, S2), (e, O)] hP4 (by simp) hok false false
   rw [show begP A e I2 S2 O true = [(A, S2), (e, I2), (e, S2), (e, O)] from rfl, if_neg (by rw [hok]; decide)]
   simp only [List.length_cons, List.length_nil, Nat.zero_add, Nat.reduceAdd] at q3
   refine ok1_callF [11, 13] [true, true] true (q3) rfl rfl ⟨⟨rfl, by rfl⟩, by (repeat' (first | exact trivial | refine And.intro ?_ ?_)) <;> first | exact ren_eq (plainL_u8 _) (by first | exact hc1.symm | exact hc2.symm) | fail, by first | simp [plainHf, plainB], by rfl, ?_⟩
   conv => whnf
   repeat (first | (refine brT rfl ?_; conv => whnf) | (refine Exists.intro _ (And.intro (sload_all rfl (by rfl)) ?_); conv => whnf) | (refine Exists.intro _ (And.intro (sput_all rfl (by rfl)) ?_); conv => whnf) | (refine Exists.intro _ (And.intro rfl ?_); conv => whnf) | (refine And.intro (by first | omega | (simp; done) | fail) ?_; conv => whnf) | fail)
   refine ⟨[0], ?_, rfl, rfl, ?_, rfl⟩
   ·
    (repeat' (first | (refine wk_tup ?_) | (refine wk_agg ?_) | (refine wk_cons ?_ ?_))) <;> first | rfl | fail
   ·
    (repeat' (first | exact trivial | refine And.intro ?_ ?_ | fail)) <;> first | exact ren_eq (by first | (simp; done) | fail) (by rfl) | fail
 | false =>
  first | refine brF (by rfl) ?_ | fail
  conv => whnf
  by_cases hok : okP [(A, S2), (e, I2), (e, S2)] = true
  ·
   have q3 := r17_y [(A, S2), (e, I2), (e, S2)] hP3 (by simp) (okP_y hok) true true
   have l3 := allB_len (P := [(A, S2), (e, I2), (e, S2)]) (i := 3) (by simp)
   have q4 := r18 (allB [(A, S2), (e, I2), (e, S2)] 3) X I2 l1 hI (by omega) false
   have l4 := fstO_len X I2 (allB [(A, S2), (e, I2), (e, S2)] 3)
   rw [show begP A e I2 S2 O false = [(A, S2), (e, I2), (e, S2)] from rfl, if_pos hok, if_neg (by decide)]
   simp only [List.length_cons, List.length_nil, Nat.zero_add, Nat.reduceAdd] at q3 ⊢
   obtain ⟨Z, hZ⟩ : ∃ Z, Z = fstO X I2 (allB [(A, S2), (e, I2), (e, S2)] 3) := ⟨_, rfl⟩
   rw [← hZ] at q4 l4 ⊢
   obtain ⟨C, hC⟩ : ∃ Z, Z = allB [(A, S2), (e, I2), (e, S2)] 3 := ⟨_, rfl⟩
   rw [← hC] at q3 q4 l3
   have m1 : (Z.take 32).length = 32 := by rw [List.length_take]; omega
   have m2 : (Z.drop 32).length = 32 := by rw [List.length_drop]; omega
   obtain ⟨Z1, eZ1⟩ : ∃ W, W = Z.take 32 := ⟨_, rfl⟩
   obtain ⟨Z2, eZ2⟩ : ∃ W, W = Z.drop 32 := ⟨_, rfl⟩
   rw [← eZ1] at q4 m1 ⊢
   rw [← eZ2] at q4 m2 ⊢
   refine ok1_callF [7, 8] [true, true, true] false (q3) rfl rfl ⟨⟨rfl, by rfl⟩, by (repeat' (first | exact trivial | refine And.intro ?_ ?_)) <;> first | exact ren_eq (by first | (simp; done) | fail) (by rfl) | fail, by first | simp [plainHf, plainB], by rfl, ?_⟩
   conv => whnf
   repeat (first | (refine brF rfl ?_; conv => whnf) | (refine Exists.intro _ (And.intro (sc_i l1) ?_); conv => whnf) | (refine Exists.intro _ (And.intro (bc_a hD2 hI) ?_); conv => whnf) | fail)
   refine ok1_callF [10] [true] true (q4) rfl rfl ⟨⟨rfl, by first | ((repeat' (first | exact wk_nil | exact ren_m8 rfl | exact rfl | (refine wk_agg ?_) | (refine wk_cons ?_ ?_))); done) | fail⟩, by (repeat' (first | exact trivial | refine And.intro ?_ ?_)) <;> first | exact ren_eq (by first | (simp; done) | fail) (by rfl) | fail, by first | simp [plainHf, plainB], by first | simp [plainRf, plainR, plainT, plainW], ?_⟩
   conv => whnf
   repeat (first | (refine Exists.intro _ (And.intro (sload_all rfl (by first | rfl | (simp [m1, m2, hsc]; done) | fail)) ?_); conv => whnf) | (refine Exists.intro _ (And.intro (sput_all rfl (by first | rfl | (simp [m1, m2, hsc]; done) | fail)) ?_); conv => whnf) | (refine And.intro (by first | omega | (simp; omega) | fail) ?_; conv => whnf) | (refine And.intro (by kernel_rfl) ?_; conv => whnf) | fail)
   refine ⟨[0], ?_, rfl, rfl, ?_, rfl⟩
   ·
    (repeat' (first | (refine wk_tup ?_) | (refine wk_agg ?_) | (refine wk_cons ?_ ?_))) <;> first | rfl | exact ren_eq (by first | (simp; done) | fail) (by rfl) | fail
   ·
    (repeat' (first | exact trivial | refine And.intro ?_ ?_ | fail)) <;> first | exact ren_eq (by first | (simp; done) | fail) (by rfl) | fail
  ·
   rw [Bool.not_eq_true] at hok
   have q3 := r17_z [(A, S2), (e, I2), (e, S2)] hP3 (by simp) hok true true
   rw [show begP A e I2 S2 O false = [(A, S2), (e, I2), (e, S2)] from rfl, if_neg (by rw [hok]; decide)]
   simp only [List.length_cons, List.length_nil, Nat.zero_add, Nat.reduceAdd] at q3
   refine ok1_callF [7, 8] [true, true] true (q3) rfl rfl ⟨⟨rfl, by rfl⟩, by (repeat' (first | exact trivial | refine And.intro ?_ ?_)) <;> first | exact ren_eq (by first | (simp; done) | fail) (by rfl) | fail, by first | simp [plainHf, plainB], by rfl, ?_⟩
   conv => whnf
   repeat (first | (refine brT rfl ?_; conv => whnf) | (refine Exists.intro _ (And.intro (sload_all rfl (by rfl)) ?_); conv => whnf) | (refine Exists.intro _ (And.intro (sput_all rfl (by rfl)) ?_); conv => whnf) | (refine Exists.intro _ (And.intro rfl ?_); conv => whnf) | (refine And.intro (by first | omega | (simp; done) | fail) ?_; conv => whnf) | fail)
   refine ⟨[0], ?_, rfl, rfl, ?_, rfl⟩
   ·
    (repeat' (first | (refine wk_tup ?_) | (refine wk_agg ?_) | (refine wk_cons ?_ ?_))) <;> first | rfl | fail
   ·
    (repeat' (first | exact trivial | refine And.intro ?_ ?_ | fail)) <;> first | exact ren_eq (by first | (simp; done) | fail) (by rfl) | fail
end Go.Sh
namespace Go.Sh
open Go.Proofs
set_option maxHeartbeats 4000000
theorem fillO {t0 t1 t2 t3 : Nat} {D A S : List UInt8} (hD : D.length = 2) (hA : A.length = 32) (hS : S.length = 32) : sfill (fun i => (List.map (fun f : Nat × Nat × Nat => (f.fst, f.snd.snd)) [(0, t0, 2), (2, t1, 32), (34, t2, 32), (66, t3, 1)])[i]?) (SV.agg (List.replicate 66 (SV.u8 0) ++ [SV.slnil])).cells [(0, .agg (D.map .u8)), (1, .agg (A.map .u8)), (2, .agg (S.map .u8))] = some ((kb D A S).map .u8 ++ [.slnil]) := by
 have h0 : (SV.agg (List.replicate 66 (SV.u8 0) ++ [SV.slnil])).cells = z8 2 ++ (z8 32 ++ (z8 32 ++ [.slnil])) := rfl
 rw [h0]
 have mD := mlen hD
 have mX := mlen hA
 have mY := mlen hS
 refine sfill_c rfl rfl mD (by simp) ?_
 rw [sput_fst (mD.trans (z8_len 2).symm)]
 refine sfill_c rfl rfl mX (by simp [hD]) ?_
 rw [sput_skip (o := 0) mD rfl (sput_fst (mX.trans (z8_len 32).symm))]
 refine sfill_c rfl rfl mY (by simp [hD, hA]) ?_
 rw [sput_skip (o := 32) mD rfl (sput_skip (o := 0) mX rfl (sput_fst (mY.trans (z8_len 32).symm)))]
 unfold kb
 rw [List.map_append, List.map_append, List.append_assoc, List.append_assoc]; rfl
theorem fillO1 {x : UInt32} {k : List UInt8} (hk : k.length = 32) : sfill (fun i => some (i * 33, 33)) (reps 1 (SV.agg ([SV.u32 0] ++ List.replicate 32 (SV.u8 0))).cells) [(0, .agg (.u32 x :: k.map .u8))] = some (.u32 x :: k.map .u8) := by
 have h0 : reps 1 (SV.agg ([SV.u32 0] ++ List.replicate 32 (SV.u8 0))).cells = (.u32 0 :: z8 32) ++ [] := rfl
 rw [h0]
 have mx : (SV.u32 x :: k.map SV.u8).length = 33 := by simp [hk]
 refine sfill_c rfl rfl mx (by simp) ?_
 rw [sput_fst (by rw [mx]; simp), List.append_nil]; rfl
theorem catO {K : List (UInt32 × List UInt8)} (hK : OcOk K) {i : Nat} (hi : i < K.length) {x : UInt32} {k : List UInt8} (hx : K[i] = (x, k)) (hk : k.length = 32) : List.take (i * 33) (List.drop 0 (ocs (K.take i))) ++ List.take (1 * 33) (List.drop 0 (.u32 x :: k.map SV.u8)) = ocs (K.take (i + 1)) := by
 have hKt : OcOk (K.take i) := fun x hx => hK x (List.mem_of_mem_take hx)
 have l2 := ocs_len hKt
 rw [List.length_take, Nat.min_eq_left (by omega)] at l2
 rw [List.drop_zero, List.drop_zero, List.take_of_length_le (l := ocs (K.take i)) (by omega), List.take_of_length_le (l := SV.u32 x :: k.map SV.u8) (by simp [hk]), List.take_succ_eq_append_getElem hi, ocs_app, hx]
 simp [ocs, oc]
theorem cell66 {M : List UInt8} (hM : M.length = 66) (x : SV) : (M.map SV.u8 ++ [x])[66]? = some x := by
 rw [List.getElem?_append_right (by simp [hM])]; simp [hM]
theorem set66 {M : List UInt8} (hM : M.length = 66) (x y : SV) : (M.map SV.u8 ++ [x]).set 66 y = M.map .u8 ++ [y] := by
 rw [List.set_append_right _ _ (by simp [hM])]; simp [hM]
attribute [local irreducible] mac_n exO_n shN pubN fstO allB pbs bc kb sc okP secs pubs
theorem r6 (D A S : List UInt8) (hD : D.length = 2) (hA : A.length = 32) (hS : S.length = 32) (K : List (UInt32 × List UInt8)) (hK : OcOk K) (hn : K.length < 1000000) (f : Bool) : SCall Tryz.prog 6 [.agg ((kb D A S).map .u8 ++ [.sl 0 0 K.length 33 f])] [some (.ro (ocs K))] (.agg ((kb D A S).map .u8 ++ [.sl 1 0 K.length 33 false])) [some (.ro (ocs K)), some (.row 60 (ocs K))] := by
 have hM := kb_len hD hA hS
 have ha := kb_a (S := S) hD hA
 have hd := kb_d (A := A) (S := S) hD
 have hs := kb_s hD hA hS
 have hf := fun t0 t1 t2 t3 : Nat => fillO (t0 := t0) (t1 := t1) (t2 := t2) (t3 := t3) hD hA hS
 obtain ⟨M, eM⟩ : ∃ M, M = kb D A S := ⟨_, rfl⟩
 simp only [← eM] at hf
 rw [← eM] at hM ha hs hd ⊢
 have bd : (0 + 0) + 2 ≤ M.length := by omega
 have ba : (0 + 2) + 32 ≤ M.length := by omega
 have bs : (0 + 34) + 32 ≤ M.length := by omega
 have hol := ocs_len hK
 refine scall_of ttOk (by kernel_rfl : Tryz.prog.funcs[6]? = some Tryz.f6) rfl rfl rfl ?_
 try simp only [List.length_cons, List.length_nil, Nat.zero_add, Nat.reduceAdd]
 refine sw_ok ttOk mixed (by kernel_rfl) ?_
 conv => whnf
 repeat (first | (refine Exists.intro _ (And.intro (sload_mapc hd bd) ?_); conv => whnf) | (refine Exists.intro _ (And.intro (sload_mapc ha ba) ?_); conv => whnf) | (refine Exists.intro _ (And.intro (sload_mapc hs bs) ?_); conv => whnf) | fail)
 refine ⟨_, hf _ _ _ _, ?_⟩
 conv => whnf
 repeat (first | (refine Exists.intro _ (And.intro (sput_all rfl (by first | rfl | (simp [hM]; done) | fail)) ?_); conv => whnf) | (refine Exists.intro _ (And.intro (sload_end (by first | rfl | (simp [hM]; done) | fail)) ?_); conv => whnf) | (refine And.intro (by first | omega | (simp; omega) | fail) ?_; conv => whnf) | fail)
 refine SWp.weak (Weak.virtB 3 66 60 33 rfl rfl rfl rfl (cell66 hM _)) ?_
 rw [set66 hM]
 refine loop_rule ttOk mixed (by kernel_rfl) (ι := { i : Nat // i ≤ K.length }) (fun i => [(2, .p 2 0), (3, .p 3 0), (14, .sl 0 0 K.length 33 f), (15, .i (K.length : Int)), (16, .i (i.1 : Int))]) (fun i => [some (.ro (ocs K)), some (.box (M.map .u8 ++ [.sl 0 0 K.length 33 f])), some (.box (List.replicate 66 (.u8 0) ++ [.slnil])), some (.box (M.map .u8 ++ [.sl 4 0 i.1 33 false])), some (.row 60 (ocs (K.take i.1)))]) (fun _ => 5) (fun i => K.length - i.1) ⟨0, by omega⟩ ?_ ?_
 ·
  dsimp only
  refine Weak.sel [0, 1, 2, 3, 4] rfl rfl ?_ ?_ rfl rfl
  ·
   (repeat' (first | exact trivial | refine And.intro ?_ ?_ | fail)) <;> first | rfl | fail
  ·
   (repeat' (first | exact trivial | refine And.intro ?_ ?_ | (refine wk_cons ?_ ?_))) <;> first | rfl | exact ren_eq (by first | (simp; done) | fail) (by rfl) | exact ren_app2 (by first | (simp; done) | fail) (by rfl) rfl | fail
 ·
  rintro ⟨i, hi⟩
  dsimp only
  by_cases hi2 : i < K.length
  ·
   have hlt : decide ((i : Int) < (K.length : Int)) = true := by simp; omega
   obtain ⟨x, k, hxk⟩ : ∃ x k, K[i] = (x, k) := ⟨_, _, rfl⟩
   have hk : k.length = 32 := by have := hK.get hi2; rw [hxk] at this; exact this
   have hcat := catO hK hi2 hxk hk
   have hKt : OcOk (K.take i) := fun x hx => hK x (List.mem_of_mem_take hx)
   have l2 := ocs_len hKt
   rw [List.length_take, Nat.min_eq_left (by omega)] at l2
   have l3 : (SV.u32 x :: k.map SV.u8).length = 33 := by simp [hk]
   have hp1 := wp30 i (by omega)
   have hst := fun (a : Nat) (b : Nat) (g h : Bool) => (sput_snd (xs := M.map SV.u8) (ys := []) (y := .sl 4 0 i 33 g) (z := .sl a 0 b 33 h) (mlen hM) rfl)
   conv => whnf
   first | refine brT (by exact hlt) ?_ | fail
   conv => whnf
   repeat (first | (refine Exists.intro _ (And.intro (sload_all rfl (by first | rfl | (simp [hk, hM, l2, l3]; done) | fail)) ?_); conv => whnf) | (refine Exists.intro _ (And.intro (sput_all rfl (by first | rfl | (simp [hk, hM, l2, l3]; done) | fail)) ?_); conv => whnf) | (refine Exists.intro _ (And.intro (sload_end (by first | rfl | (simp [hk, hM, l2, l3]; done) | fail)) ?_); conv => whnf) | (refine Exists.intro _ (And.intro (sload_oc hK hi2 hxk) ?_); conv => whnf) | (refine Exists.intro _ (And.intro (fillO1 hk) ?_); conv => whnf) | (refine Exists.intro _ (And.intro rfl ?_); conv => whnf) | (refine And.intro (by first | omega | (simp; omega) | fail) ?_; conv => whnf) | fail)
   refine And.intro (by exact ⟨by omega, by show 0 + 1 * 33 ≤ (SV.u32 x :: k.map SV.u8).length; omega, by show (i + 1) * 36 ≤ _; omega⟩) ?_
   conv => whnf
   repeat (first | (refine Exists.intro _ (And.intro (sput_end (by first | rfl | (simp [hM]; done) | fail) rfl) ?_); conv => whnf) | (refine And.intro ⟨by exact @rfl Nat _, by first | (simp [hM]; done) | fail⟩ ?_; conv => whnf) | fail)
   refine ⟨⟨i + 1, by omega⟩, by simp only; omega, ?_⟩
   dsimp only
   refine Weak.sel [0, 1, 2, 3, 7] rfl rfl ?_ ?_ rfl rfl
   ·
    (repeat' (first | exact trivial | refine And.intro ?_ ?_ | fail)) <;> first | exact wk_i (by first | exact hp1 | exact hp1.symm | fail) | rfl | fail
   ·
    (repeat' (first | exact trivial | exact ren_eq (plainL_ocs _) hcat.symm | refine And.intro ?_ ?_ | (refine wk_cons ?_ ?_))) <;> first | rfl | exact ren_eq (by first | (simp; done) | fail) (by rfl) | exact ren_app2 (by first | (simp; done) | fail) (by rfl) rfl | fail
  ·
   obtain rfl : i = K.length := by omega
   have hlt : decide ((K.length : Int) < (K.length : Int)) = false := by simp
   have hal : K.take K.length = K := List.take_length
   rw [hal]
   conv => whnf
   first | refine brF (by exact hlt) ?_ | fail
   conv => whnf
   repeat (first | (refine Exists.intro _ (And.intro (sload_all rfl (by first | rfl | (simp [hM]; done) | fail)) ?_); conv => whnf) | (refine Exists.intro _ (And.intro (sput_all rfl (by first | rfl | (simp [hM]; done) | fail)) ?_); conv => whnf) | (refine And.intro (by first | omega | (simp; omega) | fail) ?_; conv => whnf) | fail)
   refine ⟨[0, 4], ?_, rfl, rfl, ?_, rfl⟩
   ·
    (repeat' (first | (refine wk_agg ?_) | fail)) <;> first | exact ren_app2 (by first | (simp; done) | fail) (by rfl) rfl | fail
   ·
    (repeat' (first | exact trivial | refine And.intro ?_ ?_ | fail)) <;> first | rfl | exact ren_eq (by first | (simp; done) | fail) (by rfl) | fail
end Go.Sh
namespace Go.Sh
open Go.Proofs
set_option maxHeartbeats 4000000
theorem beg_map (A e B S : List UInt8) (O : List UInt8) (k : Option (List UInt8)) (h : Bool) (hA : A.length = 32) (he : e.length = 32) (hB : B.length = 32) (hS : S.length = 32)
  (hk : (k = none ∧ h = false) ∨ ∃ k', k = some k' ∧ k'.length = 32 ∧ O = pubN k' ∧ h = true) :
  (begP A e (pubN B) (pubN S) O h).map (fun p => shN p.1 p.2) = (accP B S (pubN A) (pubN e) k).map (fun p => shN p.1 p.2) := by
 rcases hk with ⟨rfl, rfl⟩ | ⟨k', rfl, hk, rfl, rfl⟩
 ·
  show [shN A (pubN S), shN e (pubN B), shN e (pubN S)] = [shN S (pubN A), shN B (pubN e), shN S (pubN e)]
  rw [shN_comm hA hS, shN_comm he hB, shN_comm he hS]
 ·
  show [shN A (pubN S), shN e (pubN B), shN e (pubN S), shN e (pubN k')] = [shN S (pubN A), shN B (pubN e), shN S (pubN e), shN k' (pubN e)]
  rw [shN_comm hA hS, shN_comm he hB, shN_comm he hS, shN_comm he hk]
theorem meets_eq (A e B S : List UInt8) (O : List UInt8) (k : Option (List UInt8)) (h : Bool) (i : UInt32) (hA : A.length = 32) (he : e.length = 32) (hB : B.length = 32) (hS : S.length = 32)
  (hk : (k = none ∧ h = false) ∨ ∃ k', k = some k' ∧ k'.length = 32 ∧ O = pubN k' ∧ h = true) (hi : h = false → i = 0) :
  (∃ X : List UInt8, X.length = 64 ∧ begR A e (pubN B) (pubN S) O h i = .tup [.agg (X.map .u8), .agg (sc (pubN A) (pubN e) h i), .i 0] ∧
   rbegR A e (pubN B) (pubN S) O h i = .tup [.agg ((X.take 32).map .u8), .agg ((X.drop 32).map .u8), .agg (sc (pubN A) (pubN e) h i), .b true] ∧
   accR B S (pubN A) (pubN e) k = .tup [.agg (X.map .u8), .i 0]) ∨
  (begR A e (pubN B) (pubN S) O h i = .tup [.agg (z8 64), .agg sc0, .i 70] ∧ rbegR A e (pubN B) (pubN S) O h i = .tup [.agg (z8 32), .agg (z8 32), .agg sc0, .b false]) := by
 have hm := beg_map A e B S O k h hA he hB hS hk
 have h1 : okP (begP A e (pubN B) (pubN S) O h) = okP (accP B S (pubN A) (pubN e) k) := by rw [okP_map, okP_map, hm]
 have h2 : allB (begP A e (pubN B) (pubN S) O h) (begP A e (pubN B) (pubN S) O h).length = allB (accP B S (pubN A) (pubN e) k) (accP B S (pubN A) (pubN e) k).length := by rw [allB_map, allB_map, hm]
 have hii : (if h = true then i else 0) = i := by
  cases h with
  | true => rfl
  | false => rw [hi rfl]; rfl
 by_cases hok : okP (begP A e (pubN B) (pubN S) O h) = true
 ·
  left
  refine ⟨fstO (pubN A) (pubN B) (allB (begP A e (pubN B) (pubN S) O h) (begP A e (pubN B) (pubN S) O h).length), fstO_len _ _ _, ?_, ?_, ?_⟩
  ·
   unfold begR; rw [if_pos hok, hii]
  ·
   unfold rbegR; rw [if_pos hok, hii]
  ·
   unfold accR; rw [if_pos (h1 ▸ hok), h2]
 ·
  right
  constructor
  ·
   unfold begR; rw [if_neg hok]
  ·
   unfold rbegR; rw [if_neg hok]
theorem bundle_any (D B S : List UInt8) (hD : D.length = 2) (hB : B.length = 32) (hS : S.length = 32) (K : List (UInt32 × List UInt8)) (hK : OcOk K) (hn : K.length < 1000000) (ask : UInt32) (ha : plc K ask < K.length ∨ ask = 4294967295) :
  ∃ (h : Bool) (i : UInt32) (O : List UInt8) (k : Option (List UInt8)), O.length = 32 ∧ ((k = none ∧ h = false) ∨ ∃ k', k = some k' ∧ k'.length = 32 ∧ O = pubN k' ∧ h = true) ∧ (h = false → i = 0) ∧
  (∀ f, SCall Tryz.prog 11 [.p 0 0, .u32 ask] [some (.ro ((kb D B S).map .u8 ++ [.sl 1 0 K.length 33 f])), some (.ro (ocs K))] (.tup [.agg (bc D (pubN B) (pubN S) h i O), .i 0]) [some (.ro ((kb D B S).map .u8 ++ [.sl 1 0 K.length 33 f])), some (.ro (ocs K))]) ∧
  ∀ (I E : List UInt8), I.length = 32 → E.length = 32 → ∀ f, SCall Tryz.prog 9 [.p 0 0, .agg (sc I E h i)] [some (.ro ((kb D B S).map .u8 ++ [.sl 1 0 K.length 33 f])), some (.ro (ocs K))] (accR B S I E k) [some (.ro ((kb D B S).map .u8 ++ [.sl 1 0 K.length 33 f])), some (.ro (ocs K))] := by
 by_cases hp : plc K ask < K.length
 ·
  obtain ⟨k, hk⟩ := plc_at hp
  have hkl : k.length = 32 := by have := hK.get hp; rw [hk] at this; exact this
  exact ⟨true, ask, pubN k, some k, pubN_len k, .inr ⟨k, rfl, hkl, rfl, rfl⟩, fun h => (by cases h), fun f => s6_y D B S hD hB hS K hK hn ask k _ hp rfl hk f, fun I E hI hE f => s7_1 D B S hD hB hS K hK hn f I E hI hE ask _ hp rfl k hk⟩
 ·
  have hp2 : plc K ask = K.length := Nat.le_antisymm (plc_le K ask) (by omega)
  obtain rfl := ha.resolve_left hp
  exact ⟨false, 0, zer, none, rfl, .inl ⟨rfl, rfl⟩, fun _ => rfl, fun f => s6_n D B S hD hB hS K hK hn _ hp2 rfl f, fun I E hI hE f => s7_0 D B S hD hB hS K.length f K I E hI hE 0⟩
end Go.Sh
