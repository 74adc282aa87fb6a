/- Merged for a claim: V9x, Sh43, O1. -/
import Derived.SizedLaws
import Derived.Test.YthncciimpbgcoaaGreatSm6
set_option linter.unusedSimpArgs false
set_option linter.unusedVariables false
namespace Go.Sh
open Go.Proofs
set_option maxHeartbeats 8000000
theorem tmod_mod (a n : Nat) : (a : Int).tmod (n : Int) = ((a % n : Nat) : Int) := by
 rw [Int.tmod_eq_emod_of_nonneg (by omega)]; exact (Int.natCast_emod a n).symm
theorem plc_has {K : List (UInt32 × List UInt8)} {j : Nat} (hj : j < K.length) {x : UInt32} {k : List UInt8} (hx : K[j] = (x, k)) : plc K x < K.length := by
 unfold plc
 rw [List.findIdx_lt_length]
 exact ⟨_, List.getElem_mem hj, by rw [hx]; exact beq_self_eq_true x⟩
attribute [local irreducible] mac_n exO_n shN pubN fstO allB pbs bc kb sc okP secs pubs begR rbegR accR
theorem r4 (DA A SA : List UInt8) (hDA : DA.length = 2) (hA : A.length = 32) (hSA : SA.length = 32) (KA : List (UInt32 × List UInt8)) (hKA : OcOk KA) (DB B SB : List UInt8) (hDB : DB.length = 2) (hB : B.length = 32) (hSB : SB.length = 32) (KB : List (UInt32 × List UInt8)) (hKB : OcOk KB) (e : List UInt8) (he : e.length = 32) (id : UInt32) (once : Bool) :
  SCall Tryz.prog 4 [.agg ((kb DA A SA).map .u8 ++ [.sl 0 0 KA.length 33 false]), .agg ((kb DB B SB).map .u8 ++ [.sl 1 0 KB.length 33 false]), .agg (e.map .u8), .u32 id, .b once] [some (.ro (ocs KA)), some (.ro (ocs KB))] (.b true) [some (.ro (ocs KA)), some (.ro (ocs KB))] := by
 have hMA := kb_len hDA hA hSA
 have hMB := kb_len hDB hB hSB
 by_cases hnA : 4 < KA.length
 ·
  have gA : decide ((KA.length : Int) > 4) = true := by simp; omega
  refine scall_of ttOk (by kernel_rfl : Tryz.prog.funcs[4]? = some Tryz.f4) rfl rfl rfl ?_
  try simp only [List.length_cons, List.length_nil, Nat.zero_add, Nat.reduceAdd]
  refine sw_ok ttOk mixed (by kernel_rfl) ?_
  conv => whnf
  repeat (first | (refine brT rfl ?_; conv => whnf) | (refine Exists.intro _ (And.intro (sload_end (by first | rfl | (simp [hMA, hMB, he]; done) | fail)) ?_); conv => whnf) | (refine gdF gA ?_; conv => whnf) | (refine pkT gA ?_; conv => whnf) | fail)
  refine ok1_callF [] [] true (s4) rfl rfl ⟨⟨rfl, by rfl⟩, trivial, by rfl, by rfl, ?_⟩
  conv => whnf
  refine ⟨[0, 1], ?_, rfl, rfl, ?_, rfl⟩
  ·
   (repeat' (fail)) <;> first | rfl | fail
  ·
   (repeat' (first | exact trivial | refine And.intro ?_ ?_ | fail)) <;> first | exact ren_eq (by first | (simp; done) | fail) (by rfl) | fail
 have gA : decide ((KA.length : Int) > 4) = false := by simp; omega
 by_cases hnB : 4 < KB.length
 ·
  have gB : decide ((KB.length : Int) > 4) = true := by simp; omega
  refine scall_of ttOk (by kernel_rfl : Tryz.prog.funcs[4]? = some Tryz.f4) rfl rfl rfl ?_
  try simp only [List.length_cons, List.length_nil, Nat.zero_add, Nat.reduceAdd]
  refine sw_ok ttOk mixed (by kernel_rfl) ?_
  conv => whnf
  repeat (first | (refine Exists.intro _ (And.intro (sload_end (by first | rfl | (simp [hMA, hMB, he]; done) | fail)) ?_); conv => whnf) | (refine gdT gA ?_; conv => whnf) | (refine pkF gA ?_; conv => whnf) | (refine gdT gB ?_; conv => whnf) | fail)
  refine ok1_callF [] [] true (s4) rfl rfl ⟨⟨rfl, by rfl⟩, trivial, by rfl, by rfl, ?_⟩
  conv => whnf
  refine ⟨[0, 1], ?_, rfl, rfl, ?_, rfl⟩
  ·
   (repeat' (fail)) <;> first | rfl | fail
  ·
   (repeat' (first | exact trivial | refine And.intro ?_ ?_ | fail)) <;> first | exact ren_eq (by first | (simp; done) | fail) (by rfl) | fail
 have gB : decide ((KB.length : Int) > 4) = false := by simp; omega
 have ha := kb_a (S := SA) hDA hA
 have ba' : (0 + 2) + 32 ≤ (kb DA A SA).length := by omega
 cases once with
 | false =>
  have hask : plc KB 4294967295 < KB.length ∨ (4294967295 : UInt32) = 4294967295 := .inr rfl
  obtain ⟨h, i, O, k, lO, hk, hi, q1, qa⟩ := bundle_any DB B SB hDB hB hSB KB hKB (by omega) 4294967295 hask
  replace q1 := q1 false
  have q2 := s10_y DA A SA hDA hA hSA KA.length false KA DB (pubN B) (pubN SB) O e hDB (pubN_len B) (pubN_len SB) lO he h i
  have q3 := r6 DA A SA hDA hA hSA KA hKA (by omega) false
  have q4 := r8 DA A SA hDA hA hSA KA.length false KA DB (pubN B) (pubN SB) O e hDB (pubN_len B) (pubN_len SB) lO he h i
  have q5 := qa (pubN A) (pubN e) (pubN_len A) (pubN_len e) false
  have q6 := r12 A hA
  have lI := pubN_len A
  have lE := pubN_len e
  have hB2 := bc_len (h := h) (i := i) hDB (pubN_len B) (pubN_len SB) lO
  have hscl := sc_len (h := h) (i := i) lI lE
  have hsci := sc_i (h := h) (i := i) (E := pubN e) lI
  have hsch := sc_h (h := h) (i := i) lI lE
  have hscn := sc_n (h := h) (i := i) lI lE
  obtain ⟨MA, eMA⟩ : ∃ M, M = kb DA A SA := ⟨_, rfl⟩
  obtain ⟨MB, eMB⟩ : ∃ M, M = kb DB B SB := ⟨_, rfl⟩
  have ba := ba'
  rw [← eMA] at hMA q2 q3 q4 ha ba ⊢
  rw [← eMB] at hMB q1 q5 ⊢
  refine scall_of ttOk (by kernel_rfl : Tryz.prog.funcs[4]? = some Tryz.f4) rfl rfl rfl ?_
  try simp only [List.length_cons, List.length_nil, Nat.zero_add, Nat.reduceAdd]
  refine sw_ok ttOk mixed (by kernel_rfl) ?_
  conv => whnf
  repeat (first | (refine brF rfl ?_; conv => whnf) | (refine Exists.intro _ (And.intro (sload_end (by first | rfl | (simp [hMA, hMB, he]; done) | fail)) ?_); conv => whnf) | (refine gdT gA ?_; conv => whnf) | (refine pkF gA ?_; conv => whnf) | (refine gdF gB ?_; conv => whnf) | (refine Exists.intro _ (And.intro rfl ?_); conv => whnf) | fail)
  rcases meets_eq A e B SB O k h i hA he hB hSB hk hi with ⟨X, lX, g1, g2, g3⟩ | ⟨g1, g2⟩
  ·
   rw [g1] at q2
   rw [g2] at q4
   rw [g3] at q5
   refine ok1_callE [3, 1] [some (.ro (MB.map .u8 ++ [.sl 1 0 KB.length 33 false])), some (.ro (ocs KB))] (.tup [.agg (bc DB (pubN B) (pubN SB) h i O), .i 0]) (q1) rfl rfl ⟨⟨rfl, by rfl⟩, by (repeat' (first | exact trivial | refine And.intro ?_ ?_)) <;> first | exact ren_eq (by first | (simp; done) | fail) (by rfl) | exact ren_app2 (by first | (simp; done) | fail) (by rfl) (by rfl) | fail, by (repeat' (first | exact trivial | refine And.intro ?_ ?_)) <;> first | rfl, by first | exact renV_plainR _ (by first | (simp [plainR, plainT, plainW]; done) | fail) | fail, ?_⟩
   conv => whnf
   have m1 : (X.take 32).length = 32 := by rw [List.length_take]; omega
   have m2 : (X.drop 32).length = 32 := by rw [List.length_drop]; omega
   obtain ⟨X1, eX1⟩ : ∃ W, W = X.take 32 := ⟨_, rfl⟩
   obtain ⟨X2, eX2⟩ : ∃ W, W = X.drop 32 := ⟨_, rfl⟩
   rw [← eX1] at q4 m1
   rw [← eX2] at q4 m2
   obtain ⟨PA, ePA⟩ : ∃ W, W = pubN A := ⟨_, rfl⟩
   obtain ⟨PE, ePE⟩ : ∃ W, W = pubN e := ⟨_, rfl⟩
   rw [← ePA] at q2 q4 q5 q6 lI
   rw [← ePE] at q2 q4 q5 lE
   rw [← ePA, ← ePE] at hscl hsch hscn
   rw [← ePE] at hsci
   rw [← ePA] at hsci
   have qX : (!eqcs (X.map SV.u8) (X.map SV.u8)) = false := by rw [eqcs_refl]; rfl
   have qP : (!eqcs (PA.map SV.u8) (PA.map SV.u8)) = false := by rw [eqcs_refl]; rfl
   repeat (first | (refine brF rfl ?_; conv => whnf) | (refine Exists.intro _ (And.intro (sload_all rfl (by first | rfl | (simp [hB2, he, hMA]; done) | fail)) ?_); conv => whnf) | (refine Exists.intro _ (And.intro (sput_all rfl (by first | rfl | (simp [hB2, he, hMA]; done) | fail)) ?_); conv => whnf) | (refine And.intro (by first | omega | (simp; omega) | fail) ?_; conv => whnf) | fail)
   refine ok1_callE [2, 0] [some (.ro (MA.map .u8 ++ [.sl 0 0 KA.length 33 false])), some (.ro (ocs KA))] (.tup [.agg (X.map .u8), .agg (sc PA PE h i), .i 0]) (q2) rfl rfl ⟨⟨rfl, by first | ((repeat' (first | exact wk_nil | exact ren_m8 rfl | exact rfl | exact ren_eq (by first | (simp; done) | fail) rfl | (refine wk_agg ?_) | (refine wk_cons ?_ ?_))); done) | fail⟩, by (repeat' (first | exact trivial | refine And.intro ?_ ?_)) <;> first | exact ren_eq (by first | (simp; done) | fail) (by rfl) | exact ren_app2 (by first | (simp; done) | fail) (by rfl) (by rfl) | fail, by (repeat' (first | exact trivial | refine And.intro ?_ ?_)) <;> first | rfl, by first | exact renV_plainR _ (by first | (simp [plainR, plainT, plainW]; done) | fail) | fail, ?_⟩
   conv => whnf
   repeat (first | (refine Exists.intro _ (And.intro (sload_all rfl (by first | rfl | (simp [lX, hscl, hMA, hB2, he]; done) | fail)) ?_); conv => whnf) | (refine Exists.intro _ (And.intro (sput_all rfl (by first | rfl | (simp [lX, hscl, hMA, hB2, he]; done) | fail)) ?_); conv => whnf) | (refine And.intro (by first | omega | (simp; omega) | fail) ?_; conv => whnf) | fail)
   refine ok1_callE [0] [some (.ro (ocs KA)), some (.row 60 (ocs KA))] (.agg (MA.map .u8 ++ [.sl 8 0 KA.length 33 false])) (q3) rfl rfl ⟨⟨rfl, by first | ((repeat' (first | exact wk_nil | exact ren_app2 (by first | (simp; done) | fail) rfl rfl | (refine wk_agg ?_) | (refine wk_cons ?_ ?_))); done) | fail⟩, by (repeat' (first | exact trivial | refine And.intro ?_ ?_)) <;> first | exact ren_eq (by first | (simp; done) | fail) (by rfl) | fail, by (repeat' (first | exact trivial | refine And.intro ?_ ?_)) <;> first | exact renB_plain _ (by first | (simp; done) | fail) | rfl, by first | exact wk_agg (ren_app2 (by first | (simp; done) | fail) rfl rfl) | fail, ?_⟩
   conv => whnf
   repeat (first | (refine Exists.intro _ (And.intro (sload_all rfl (by first | rfl | (simp [hB2, he]; done) | fail)) ?_); conv => whnf) | fail)
   refine ok1_callE [8] [some (.ro (ocs KA))] (.tup [.agg (X1.map .u8), .agg (X2.map .u8), .agg (sc PA PE h i), .b true]) (q4) rfl rfl ⟨⟨rfl, by first | ((repeat' (first | exact wk_nil | exact ren_m8 rfl | exact ren_eq (by first | (simp; done) | fail) rfl | exact ren_app2 (by first | (simp; done) | fail) rfl rfl | (refine wk_agg ?_) | (refine wk_cons ?_ ?_))); done) | fail⟩, by (repeat' (first | exact trivial | refine And.intro ?_ ?_)) <;> first | exact ren_eq (by first | (simp; done) | fail) (by rfl) | fail, by (repeat' (first | exact trivial | refine And.intro ?_ ?_)) <;> first | rfl, by first | exact renV_plainR _ (by first | (simp [plainR, plainT, plainW]; done) | fail) | fail, ?_⟩
   conv => whnf
   repeat (first | (refine brF rfl ?_; conv => whnf) | (refine Exists.intro _ (And.intro (sload_all rfl (by first | rfl | (simp [m1, m2, hscl]; done) | fail)) ?_); conv => whnf) | (refine Exists.intro _ (And.intro (sput_all rfl (by first | rfl | (simp [m1, m2, hscl]; done) | fail)) ?_); conv => whnf) | (refine And.intro (by first | omega | (simp; omega) | fail) ?_; conv => whnf) | (refine And.intro (by kernel_rfl) ?_; conv => whnf) | fail)
   refine ok1_callE [3, 1] [some (.ro (MB.map .u8 ++ [.sl 1 0 KB.length 33 false])), some (.ro (ocs KB))] (.tup [.agg (X.map .u8), .i 0]) (q5) rfl rfl ⟨⟨rfl, by first | ((repeat' (first | exact wk_nil | exact rfl | exact ren_eq (by first | (simp; done) | fail) rfl | (refine wk_agg ?_) | (refine wk_cons ?_ ?_))); done) | fail⟩, by (repeat' (first | exact trivial | refine And.intro ?_ ?_)) <;> first | exact ren_eq (by first | (simp; done) | fail) (by rfl) | exact ren_app2 (by first | (simp; done) | fail) (by rfl) (by rfl) | fail, by (repeat' (first | exact trivial | refine And.intro ?_ ?_)) <;> first | rfl, by first | exact renV_plainR _ (by first | (simp [plainR, plainT, plainW]; done) | fail) | fail, ?_⟩
   conv => whnf
   repeat (first | (refine gdT rfl ?_; conv => whnf) | (refine Exists.intro _ (And.intro (sload_all rfl (by first | rfl | (simp [lX]; done) | fail)) ?_); conv => whnf) | (refine Exists.intro _ (And.intro (sput_all rfl (by first | rfl | (simp [lX]; done) | fail)) ?_); conv => whnf) | (refine Exists.intro _ (And.intro rfl ?_); conv => whnf) | (refine And.intro (by first | (simp; omega) | fail) ?_; conv => whnf) | fail)
   refine And.intro (by exact ⟨kd_u8n X lX, kd_u8n X lX⟩) ?_
   conv => whnf
   repeat (first | (refine gdT qX ?_; conv => whnf) | (refine Exists.intro _ (And.intro (hsci) ?_); conv => whnf) | (refine Exists.intro _ (And.intro (sload_mapc ha ba) ?_); conv => whnf) | (refine Exists.intro _ (And.intro rfl ?_); conv => whnf) | fail)
   refine ok1_callF [] [] true (q6) rfl rfl ⟨⟨rfl, by first | ((repeat' (first | exact wk_nil | exact ren_m8 rfl | (refine wk_agg ?_) | (refine wk_cons ?_ ?_))); done) | fail⟩, trivial, by rfl, by first | simp [plainRf, plainR, plainT, plainW], ?_⟩
   conv => whnf
   repeat (first | (refine gdT qX ?_; conv => whnf) | fail)
   refine And.intro (by exact ⟨kd_u8n PA lI, kd_u8n PA lI⟩) ?_
   conv => whnf
   repeat (first | (refine pkF qX ?_; conv => whnf) | (refine gdF qP ?_; conv => whnf) | (refine Exists.intro _ (And.intro (hsch) ?_); conv => whnf) | (refine And.intro (by kernel_rfl) ?_; conv => whnf) | fail)
   cases h with
   | false =>
    repeat (first | (refine brT rfl ?_; conv => whnf) | fail)
    refine ok1_callF [] [] true (s4) rfl rfl ⟨⟨rfl, by rfl⟩, trivial, by rfl, by rfl, ?_⟩
    conv => whnf
    refine ⟨[0, 1], ?_, rfl, rfl, ?_, rfl⟩
    ·
     (repeat' (fail)) <;> first | rfl | fail
    ·
     (repeat' (first | exact trivial | refine And.intro ?_ ?_ | fail)) <;> first | exact ren_eq (by first | (simp; done) | fail) (by rfl) | fail
   | true =>
    repeat (first | (refine brF rfl ?_; conv => whnf) | fail)
    refine loop_rule ttOk mixed (by kernel_rfl) (ι := { K : List (UInt32 × List UInt8) // OcOk K ∧ K.length ≤ KB.length }) (fun K => [(6, .p 2 0), (15, .p 3 0), (20, .p 4 0)]) (fun K => [some (.ro (ocs KA)), some (.ro (ocs KB)), some (.box (MB.map .u8 ++ [.sl 5 0 K.1.length 33 false])), some (.box (sc PA PE true i)), some (.box (X.map .u8)), some (.ro (ocs K.1))]) (fun _ => 6) (fun K => K.1.length) ⟨KB, hKB, Nat.le_refl _⟩ ?_ ?_
    ·
     dsimp only
     refine Weak.sel [0, 1, 3, 7, 12, 1] rfl rfl ?_ ?_ rfl rfl
     ·
      (repeat' (first | exact trivial | refine And.intro ?_ ?_ | fail)) <;> first | rfl | fail
     ·
      (repeat' (first | exact trivial | refine And.intro ?_ ?_ | fail)) <;> first | exact ren_eq (by first | (simp; done) | fail) (by rfl) | exact ren_app2 (by first | (simp; done) | fail) (by rfl) rfl | fail
    ·
     rintro ⟨K, hK, hKl⟩
     dsimp only
     by_cases hp : plc K i < K.length
     ·
      have q := s8_y MB hMB K hK (by omega) i _ hp rfl false
      have hKe : OcOk (K.eraseIdx (plc K i)) := fun x hx => hK x (List.mem_of_mem_eraseIdx hx)
      have hel : (K.eraseIdx (plc K i)).length = K.length - 1 := List.length_eraseIdx_of_lt hp
      conv => whnf
      repeat (first | (refine Exists.intro _ (And.intro (hscn) ?_); conv => whnf) | fail)
      refine ok1_callE [2, 5] [some (.box (MB.map .u8 ++ [.sl 6 0 (K.length - 1) 33 false])), some (.ro (ocs K)), some (.row 52 (ocs (K.eraseIdx (plc K i))))] (.b true) (q) rfl rfl ⟨⟨rfl, by rfl⟩, by (repeat' (first | exact trivial | refine And.intro ?_ ?_)) <;> first | exact ren_eq (by first | (simp; done) | fail) (by rfl) | exact ren_app2 (by first | (simp; done) | fail) (by rfl) (by rfl) | fail, by (repeat' (first | exact trivial | refine And.intro ?_ ?_)) <;> first | exact renB_plain _ (by first | (simp; done) | fail) | exact rb_boxa (by first | (simp; done) | fail) rfl | rfl, by first | exact renV_plainR _ (by first | (simp [plainR, plainT, plainW]; done) | fail) | fail, ?_⟩
      conv => whnf
      repeat (first | (refine brT rfl ?_; conv => whnf) | fail)
      refine ⟨⟨K.eraseIdx (plc K i), hKe, by omega⟩, by simp only; omega, ?_⟩
      dsimp only
      rw [hel]
      refine Weak.sel [0, 1, 2, 3, 4, 6] rfl rfl ?_ ?_ rfl rfl
      ·
       (repeat' (first | exact trivial | refine And.intro ?_ ?_ | fail)) <;> first | rfl | fail
      ·
       (repeat' (first | exact trivial | refine And.intro ?_ ?_ | fail)) <;> first | exact ren_eq (by first | (simp; done) | fail) (by rfl) | exact ren_app2 (by first | (simp; done) | fail) (by rfl) rfl | fail
     ·
      have hp2 : plc K i = K.length := Nat.le_antisymm (plc_le K i) (by omega)
      have q := s8_n MB hMB K hK (by omega) i hp2 false
      have q7 := s7_x DB B SB hDB hB hSB K hK (by omega) false PA PE lI lE i hp2
      rw [← eMB] at q7
      conv => whnf
      repeat (first | (refine Exists.intro _ (And.intro (hscn) ?_); conv => whnf) | fail)
      refine ok1_callE [2, 5] [some (.ro (MB.map .u8 ++ [.sl 5 0 K.length 33 false])), some (.ro (ocs K))] (.b false) (q) rfl rfl ⟨⟨rfl, by rfl⟩, by (repeat' (first | exact trivial | refine And.intro ?_ ?_)) <;> first | exact ren_eq (by first | (simp; done) | fail) (by rfl) | exact ren_app2 (by first | (simp; done) | fail) (by rfl) (by rfl) | fail, by (repeat' (first | exact trivial | refine And.intro ?_ ?_)) <;> first | rfl, by first | exact renV_plainR _ (by first | (simp [plainR, plainT, plainW]; done) | fail) | fail, ?_⟩
      conv => whnf
      repeat (first | (refine brF rfl ?_; conv => whnf) | (refine Exists.intro _ (And.intro (sload_all rfl (by first | rfl | (simp [hscl]; done) | fail)) ?_); conv => whnf) | fail)
      refine ok1_callE [2, 5] [some (.ro (MB.map .u8 ++ [.sl 5 0 K.length 33 false])), some (.ro (ocs K))] (.tup [.agg (z8 64), .i 4]) (q7) rfl rfl ⟨⟨rfl, by first | ((repeat' (first | exact wk_nil | exact rfl | exact ren_eq (by first | (simp; done) | fail) rfl | (refine wk_agg ?_) | (refine wk_cons ?_ ?_))); done) | fail⟩, by (repeat' (first | exact trivial | refine And.intro ?_ ?_)) <;> first | exact ren_eq (by first | (simp; done) | fail) (by rfl) | exact ren_app2 (by first | (simp; done) | fail) (by rfl) (by rfl) | fail, by (repeat' (first | exact trivial | refine And.intro ?_ ?_)) <;> first | rfl, by first | exact renV_plainR _ (by first | (simp [plainR, plainT, plainW]; done) | fail) | fail, ?_⟩
      conv => whnf
      repeat (first | (refine brT rfl ?_; conv => whnf) | (refine Exists.intro _ (And.intro (sload_all rfl (by rfl)) ?_); conv => whnf) | (refine Exists.intro _ (And.intro (sput_all rfl (by first | rfl | (simp [lX]; done) | fail)) ?_); conv => whnf) | (refine Exists.intro _ (And.intro rfl ?_); conv => whnf) | (refine And.intro ⟨rfl, rfl⟩ ?_; conv => whnf) | (refine And.intro (by first | omega | (simp; omega) | fail) ?_; conv => whnf) | fail)
      refine ok1_callF [] [] true (s4) rfl rfl ⟨⟨rfl, by rfl⟩, trivial, by rfl, by rfl, ?_⟩
      conv => whnf
      repeat (first | (refine Exists.intro _ (And.intro rfl ?_); conv => whnf) | fail)
      refine ⟨[0, 1], ?_, rfl, rfl, ?_, rfl⟩
      ·
       (repeat' (fail)) <;> first | rfl | fail
      ·
       (repeat' (first | exact trivial | refine And.intro ?_ ?_ | fail)) <;> first | exact ren_eq (by first | (simp; done) | fail) (by rfl) | fail
  ·
   rw [g1] at q2
   rw [g2] at q4
   refine ok1_callE [3, 1] [some (.ro (MB.map .u8 ++ [.sl 1 0 KB.length 33 false])), some (.ro (ocs KB))] (.tup [.agg (bc DB (pubN B) (pubN SB) h i O), .i 0]) (q1) rfl rfl ⟨⟨rfl, by rfl⟩, by (repeat' (first | exact trivial | refine And.intro ?_ ?_)) <;> first | exact ren_eq (by first | (simp; done) | fail) (by rfl) | exact ren_app2 (by first | (simp; done) | fail) (by rfl) (by rfl) | fail, by (repeat' (first | exact trivial | refine And.intro ?_ ?_)) <;> first | rfl, by first | exact renV_plainR _ (by first | (simp [plainR, plainT, plainW]; done) | fail) | fail, ?_⟩
   conv => whnf
   repeat (first | (refine brF rfl ?_; conv => whnf) | (refine Exists.intro _ (And.intro (sload_all rfl (by first | rfl | (simp [hB2, he, hMA]; done) | fail)) ?_); conv => whnf) | (refine Exists.intro _ (And.intro (sput_all rfl (by first | rfl | (simp [hB2, he, hMA]; done) | fail)) ?_); conv => whnf) | (refine And.intro (by first | omega | (simp; omega) | fail) ?_; conv => whnf) | fail)
   refine ok1_callE [2, 0] [some (.ro (MA.map .u8 ++ [.sl 0 0 KA.length 33 false])), some (.ro (ocs KA))] (.tup [.agg (z8 64), .agg sc0, .i 70]) (q2) rfl rfl ⟨⟨rfl, by first | ((repeat' (first | exact wk_nil | exact ren_m8 rfl | exact rfl | exact ren_eq (by first | (simp; done) | fail) rfl | (refine wk_agg ?_) | (refine wk_cons ?_ ?_))); done) | fail⟩, by (repeat' (first | exact trivial | refine And.intro ?_ ?_)) <;> first | exact ren_eq (by first | (simp; done) | fail) (by rfl) | exact ren_app2 (by first | (simp; done) | fail) (by rfl) (by rfl) | fail, by (repeat' (first | exact trivial | refine And.intro ?_ ?_)) <;> first | rfl, by rfl, ?_⟩
   conv => whnf
   repeat (first | (refine Exists.intro _ (And.intro (sload_all rfl (by first | rfl | (simp [hMA, hB2, he]; done) | fail)) ?_); conv => whnf) | (refine Exists.intro _ (And.intro (sput_all rfl (by rfl)) ?_); conv => whnf) | (refine And.intro (by first | omega | (simp; done) | fail) ?_; conv => whnf) | (refine And.intro ⟨rfl, Nat.le_of_ble_eq_true rfl⟩ ?_; conv => whnf) | fail)
   refine ok1_callE [0] [some (.ro (ocs KA)), some (.row 60 (ocs KA))] (.agg (MA.map .u8 ++ [.sl 8 0 KA.length 33 false])) (q3) rfl rfl ⟨⟨rfl, by first | ((repeat' (first | exact wk_nil | exact ren_app2 (by first | (simp; done) | fail) rfl rfl | (refine wk_agg ?_) | (refine wk_cons ?_ ?_))); done) | fail⟩, by (repeat' (first | exact trivial | refine And.intro ?_ ?_)) <;> first | exact ren_eq (by first | (simp; done) | fail) (by rfl) | fail, by (repeat' (first | exact trivial | refine And.intro ?_ ?_)) <;> first | exact renB_plain _ (by first | (simp; done) | fail) | rfl, by first | exact wk_agg (ren_app2 (by first | (simp; done) | fail) rfl rfl) | fail, ?_⟩
   conv => whnf
   repeat (first | (refine Exists.intro _ (And.intro (sload_all rfl (by first | rfl | (simp [hB2, he]; done) | fail)) ?_); conv => whnf) | fail)
   refine ok1_callE [8] [some (.ro (ocs KA))] (.tup [.agg (z8 32), .agg (z8 32), .agg sc0, .b false]) (q4) rfl rfl ⟨⟨rfl, by first | ((repeat' (first | exact wk_nil | exact ren_m8 rfl | exact ren_eq (by first | (simp; done) | fail) rfl | exact ren_app2 (by first | (simp; done) | fail) rfl rfl | (refine wk_agg ?_) | (refine wk_cons ?_ ?_))); done) | fail⟩, by (repeat' (first | exact trivial | refine And.intro ?_ ?_)) <;> first | exact ren_eq (by first | (simp; done) | fail) (by rfl) | fail, by (repeat' (first | exact trivial | refine And.intro ?_ ?_)) <;> first | rfl, by rfl, ?_⟩
   conv => whnf
   repeat (first | (refine brT rfl ?_; conv => whnf) | (refine Exists.intro _ (And.intro (sput_all rfl (by rfl)) ?_); conv => whnf) | (refine And.intro (by first | omega | (simp; done) | fail) ?_; conv => whnf) | (refine And.intro ⟨rfl, Nat.le_of_ble_eq_true rfl⟩ ?_; conv => whnf) | (refine And.intro (by kernel_rfl) ?_; conv => whnf) | fail)
   refine ok1_callF [] [] true (s4) rfl rfl ⟨⟨rfl, by rfl⟩, trivial, by rfl, by rfl, ?_⟩
   conv => whnf
   repeat (first | (refine Exists.intro _ (And.intro rfl ?_); conv => whnf) | fail)
   refine ⟨[0, 1], ?_, rfl, rfl, ?_, rfl⟩
   ·
    (repeat' (fail)) <;> first | rfl | fail
   ·
    (repeat' (first | exact trivial | refine And.intro ?_ ?_ | fail)) <;> first | exact ren_eq (by first | (simp; done) | fail) (by rfl) | fail
 | true =>
  by_cases h0 : KB.length = 0
  ·
   have e0 : decide ((KB.length : Int) > 0) = false := by rw [h0]; rfl
   have hask : plc KB 4294967295 < KB.length ∨ (4294967295 : UInt32) = 4294967295 := .inr rfl
   obtain ⟨h, i, O, k, lO, hk, hi, q1, qa⟩ := bundle_any DB B SB hDB hB hSB KB hKB (by omega) 4294967295 hask
   replace q1 := q1 false
   have q2 := s10_y DA A SA hDA hA hSA KA.length false KA DB (pubN B) (pubN SB) O e hDB (pubN_len B) (pubN_len SB) lO he h i
   have q3 := r6 DA A SA hDA hA hSA KA hKA (by omega) false
   have q4 := r8 DA A SA hDA hA hSA KA.length false KA DB (pubN B) (pubN SB) O e hDB (pubN_len B) (pubN_len SB) lO he h i
   have q5 := qa (pubN A) (pubN e) (pubN_len A) (pubN_len e) false
   have q6 := r12 A hA
   have lI := pubN_len A
   have lE := pubN_len e
   have hB2 := bc_len (h := h) (i := i) hDB (pubN_len B) (pubN_len SB) lO
   have hscl := sc_len (h := h) (i := i) lI lE
   have hsci := sc_i (h := h) (i := i) (E := pubN e) lI
   have hsch := sc_h (h := h) (i := i) lI lE
   have hscn := sc_n (h := h) (i := i) lI lE
   obtain ⟨MA, eMA⟩ : ∃ M, M = kb DA A SA := ⟨_, rfl⟩
   obtain ⟨MB, eMB⟩ : ∃ M, M = kb DB B SB := ⟨_, rfl⟩
   have ba := ba'
   rw [← eMA] at hMA q2 q3 q4 ha ba ⊢
   rw [← eMB] at hMB q1 q5 ⊢
   refine scall_of ttOk (by kernel_rfl : Tryz.prog.funcs[4]? = some Tryz.f4) rfl rfl rfl ?_
   try simp only [List.length_cons, List.length_nil, Nat.zero_add, Nat.reduceAdd]
   refine sw_ok ttOk mixed (by kernel_rfl) ?_
   conv => whnf
   repeat (first | (refine brT rfl ?_; conv => whnf) | (refine Exists.intro _ (And.intro (sload_end (by first | rfl | (simp [hMA, hMB, he]; done) | fail)) ?_); conv => whnf) | (refine gdT gA ?_; conv => whnf) | (refine pkF gA ?_; conv => whnf) | (refine gdF gB ?_; conv => whnf) | (refine gdF e0 ?_; conv => whnf) | (refine Exists.intro _ (And.intro rfl ?_); conv => whnf) | fail)
   rcases meets_eq A e B SB O k h i hA he hB hSB hk hi with ⟨X, lX, g1, g2, g3⟩ | ⟨g1, g2⟩
   ·
    rw [g1] at q2
    rw [g2] at q4
    rw [g3] at q5
    refine ok1_callE [3, 1] [some (.ro (MB.map .u8 ++ [.sl 1 0 KB.length 33 false])), some (.ro (ocs KB))] (.tup [.agg (bc DB (pubN B) (pubN SB) h i O), .i 0]) (q1) rfl rfl ⟨⟨rfl, by rfl⟩, by (repeat' (first | exact trivial | refine And.intro ?_ ?_)) <;> first | exact ren_eq (by first | (simp; done) | fail) (by rfl) | exact ren_app2 (by first | (simp; done) | fail) (by rfl) (by rfl) | fail, by (repeat' (first | exact trivial | refine And.intro ?_ ?_)) <;> first | rfl, by first | exact renV_plainR _ (by first | (simp [plainR, plainT, plainW]; done) | fail) | fail, ?_⟩
    conv => whnf
    have m1 : (X.take 32).length = 32 := by rw [List.length_take]; omega
    have m2 : (X.drop 32).length = 32 := by rw [List.length_drop]; omega
    obtain ⟨X1, eX1⟩ : ∃ W, W = X.take 32 := ⟨_, rfl⟩
    obtain ⟨X2, eX2⟩ : ∃ W, W = X.drop 32 := ⟨_, rfl⟩
    rw [← eX1] at q4 m1
    rw [← eX2] at q4 m2
    obtain ⟨PA, ePA⟩ : ∃ W, W = pubN A := ⟨_, rfl⟩
    obtain ⟨PE, ePE⟩ : ∃ W, W = pubN e := ⟨_, rfl⟩
    rw [← ePA] at q2 q4 q5 q6 lI
    rw [← ePE] at q2 q4 q5 lE
    rw [← ePA, ← ePE] at hscl hsch hscn
    rw [← ePE] at hsci
    rw [← ePA] at hsci
    have qX : (!eqcs (X.map SV.u8) (X.map SV.u8)) = false := by rw [eqcs_refl]; rfl
    have qP : (!eqcs (PA.map SV.u8) (PA.map SV.u8)) = false := by rw [eqcs_refl]; rfl
    repeat (first | (refine brF rfl ?_; conv => whnf) | (refine Exists.intro _ (And.intro (sload_all rfl (by first | rfl | (simp [hB2, he, hMA]; done) | fail)) ?_); conv => whnf) | (refine Exists.intro _ (And.intro (sput_all rfl (by first | rfl | (simp [hB2, he, hMA]; done) | fail)) ?_); conv => whnf) | (refine And.intro (by first | omega | (simp; omega) | fail) ?_; conv => whnf) | fail)
    refine ok1_callE [2, 0] [some (.ro (MA.map .u8 ++ [.sl 0 0 KA.length 33 false])), some (.ro (ocs KA))] (.tup [.agg (X.map .u8), .agg (sc PA PE h i), .i 0]) (q2) rfl rfl ⟨⟨rfl, by first | ((repeat' (first | exact wk_nil | exact ren_m8 rfl | exact rfl | exact ren_eq (by first | (simp; done) | fail) rfl | (refine wk_agg ?_) | (refine wk_cons ?_ ?_))); done) | fail⟩, by (repeat' (first | exact trivial | refine And.intro ?_ ?_)) <;> first | exact ren_eq (by first | (simp; done) | fail) (by rfl) | exact ren_app2 (by first | (simp; done) | fail) (by rfl) (by rfl) | fail, by (repeat' (first | exact trivial | refine And.intro ?_ ?_)) <;> first | rfl, by first | exact renV_plainR _ (by first | (simp [plainR, plainT, plainW]; done) | fail) | fail, ?_⟩
    conv => whnf
    repeat (first | (refine Exists.intro _ (And.intro (sload_all rfl (by first | rfl | (simp [lX, hscl, hMA, hB2, he]; done) | fail)) ?_); conv => whnf) | (refine Exists.intro _ (And.intro (sput_all rfl (by first | rfl | (simp [lX, hscl, hMA, hB2, he]; done) | fail)) ?_); conv => whnf) | (refine And.intro (by first | omega | (simp; omega) | fail) ?_; conv => whnf) | fail)
    refine ok1_callE [0] [some (.ro (ocs KA)), some (.row 60 (ocs KA))] (.agg (MA.map .u8 ++ [.sl 8 0 KA.length 33 false])) (q3) rfl rfl ⟨⟨rfl, by first | ((repeat' (first | exact wk_nil | exact ren_app2 (by first | (simp; done) | fail) rfl rfl | (refine wk_agg ?_) | (refine wk_cons ?_ ?_))); done) | fail⟩, by (repeat' (first | exact trivial | refine And.intro ?_ ?_)) <;> first | exact ren_eq (by first | (simp; done) | fail) (by rfl) | fail, by (repeat' (first | exact trivial | refine And.intro ?_ ?_)) <;> first | exact renB_plain _ (by first | (simp; done) | fail) | rfl, by first | exact wk_agg (ren_app2 (by first | (simp; done) | fail) rfl rfl) | fail, ?_⟩
    conv => whnf
    repeat (first | (refine Exists.intro _ (And.intro (sload_all rfl (by first | rfl | (simp [hB2, he]; done) | fail)) ?_); conv => whnf) | fail)
    refine ok1_callE [8] [some (.ro (ocs KA))] (.tup [.agg (X1.map .u8), .agg (X2.map .u8), .agg (sc PA PE h i), .b true]) (q4) rfl rfl ⟨⟨rfl, by first | ((repeat' (first | exact wk_nil | exact ren_m8 rfl | exact ren_eq (by first | (simp; done) | fail) rfl | exact ren_app2 (by first | (simp; done) | fail) rfl rfl | (refine wk_agg ?_) | (refine wk_cons ?_ ?_))); done) | fail⟩, by (repeat' (first | exact trivial | refine And.intro ?_ ?_)) <;> first | exact ren_eq (by first | (simp; done) | fail) (by rfl) | fail, by (repeat' (first | exact trivial | refine And.intro ?_ ?_)) <;> first | rfl, by first | exact renV_plainR _ (by first | (simp [plainR, plainT, plainW]; done) | fail) | fail, ?_⟩
    conv => whnf
    repeat (first | (refine brF rfl ?_; conv => whnf) | (refine Exists.intro _ (And.intro (sload_all rfl (by first | rfl | (simp [m1, m2, hscl]; done) | fail)) ?_); conv => whnf) | (refine Exists.intro _ (And.intro (sput_all rfl (by first | rfl | (simp [m1, m2, hscl]; done) | fail)) ?_); conv => whnf) | (refine And.intro (by first | omega | (simp; omega) | fail) ?_; conv => whnf) | (refine And.intro (by kernel_rfl) ?_; conv => whnf) | fail)
    refine ok1_callE [3, 1] [some (.ro (MB.map .u8 ++ [.sl 1 0 KB.length 33 false])), some (.ro (ocs KB))] (.tup [.agg (X.map .u8), .i 0]) (q5) rfl rfl ⟨⟨rfl, by first | ((repeat' (first | exact wk_nil | exact rfl | exact ren_eq (by first | (simp; done) | fail) rfl | (refine wk_agg ?_) | (refine wk_cons ?_ ?_))); done) | fail⟩, by (repeat' (first | exact trivial | refine And.intro ?_ ?_)) <;> first | exact ren_eq (by first | (simp; done) | fail) (by rfl) | exact ren_app2 (by first | (simp; done) | fail) (by rfl) (by rfl) | fail, by (repeat' (first | exact trivial | refine And.intro ?_ ?_)) <;> first | rfl, by first | exact renV_plainR _ (by first | (simp [plainR, plainT, plainW]; done) | fail) | fail, ?_⟩
    conv => whnf
    repeat (first | (refine gdT rfl ?_; conv => whnf) | (refine Exists.intro _ (And.intro (sload_all rfl (by first | rfl | (simp [lX]; done) | fail)) ?_); conv => whnf) | (refine Exists.intro _ (And.intro (sput_all rfl (by first | rfl | (simp [lX]; done) | fail)) ?_); conv => whnf) | (refine Exists.intro _ (And.intro rfl ?_); conv => whnf) | (refine And.intro (by first | (simp; omega) | fail) ?_; conv => whnf) | fail)
    refine And.intro (by exact ⟨kd_u8n X lX, kd_u8n X lX⟩) ?_
    conv => whnf
    repeat (first | (refine gdT qX ?_; conv => whnf) | (refine Exists.intro _ (And.intro (hsci) ?_); conv => whnf) | (refine Exists.intro _ (And.intro (sload_mapc ha ba) ?_); conv => whnf) | (refine Exists.intro _ (And.intro rfl ?_); conv => whnf) | fail)
    refine ok1_callF [] [] true (q6) rfl rfl ⟨⟨rfl, by first | ((repeat' (first | exact wk_nil | exact ren_m8 rfl | (refine wk_agg ?_) | (refine wk_cons ?_ ?_))); done) | fail⟩, trivial, by rfl, by first | simp [plainRf, plainR, plainT, plainW], ?_⟩
    conv => whnf
    repeat (first | (refine gdT qX ?_; conv => whnf) | fail)
    refine And.intro (by exact ⟨kd_u8n PA lI, kd_u8n PA lI⟩) ?_
    conv => whnf
    repeat (first | (refine pkF qX ?_; conv => whnf) | (refine gdF qP ?_; conv => whnf) | (refine Exists.intro _ (And.intro (hsch) ?_); conv => whnf) | (refine And.intro (by kernel_rfl) ?_; conv => whnf) | fail)
    cases h with
    | false =>
     repeat (first | (refine brT rfl ?_; conv => whnf) | fail)
     refine ok1_callF [] [] true (s4) rfl rfl ⟨⟨rfl, by rfl⟩, trivial, by rfl, by rfl, ?_⟩
     conv => whnf
     refine ⟨[0, 1], ?_, rfl, rfl, ?_, rfl⟩
     ·
      (repeat' (fail)) <;> first | rfl | fail
     ·
      (repeat' (first | exact trivial | refine And.intro ?_ ?_ | fail)) <;> first | exact ren_eq (by first | (simp; done) | fail) (by rfl) | fail
    | true =>
     repeat (first | (refine brF rfl ?_; conv => whnf) | fail)
     refine loop_rule ttOk mixed (by kernel_rfl) (ι := { K : List (UInt32 × List UInt8) // OcOk K ∧ K.length ≤ KB.length }) (fun K => [(6, .p 2 0), (15, .p 3 0), (20, .p 4 0)]) (fun K => [some (.ro (ocs KA)), some (.ro (ocs KB)), some (.box (MB.map .u8 ++ [.sl 5 0 K.1.length 33 false])), some (.box (sc PA PE true i)), some (.box (X.map .u8)), some (.ro (ocs K.1))]) (fun _ => 6) (fun K => K.1.length) ⟨KB, hKB, Nat.le_refl _⟩ ?_ ?_
     ·
      dsimp only
      refine Weak.sel [0, 1, 3, 7, 12, 1] rfl rfl ?_ ?_ rfl rfl
      ·
       (repeat' (first | exact trivial | refine And.intro ?_ ?_ | fail)) <;> first | rfl | fail
      ·
       (repeat' (first | exact trivial | refine And.intro ?_ ?_ | fail)) <;> first | exact ren_eq (by first | (simp; done) | fail) (by rfl) | exact ren_app2 (by first | (simp; done) | fail) (by rfl) rfl | fail
     ·
      rintro ⟨K, hK, hKl⟩
      dsimp only
      by_cases hp : plc K i < K.length
      ·
       have q := s8_y MB hMB K hK (by omega) i _ hp rfl false
       have hKe : OcOk (K.eraseIdx (plc K i)) := fun x hx => hK x (List.mem_of_mem_eraseIdx hx)
       have hel : (K.eraseIdx (plc K i)).length = K.length - 1 := List.length_eraseIdx_of_lt hp
       conv => whnf
       repeat (first | (refine Exists.intro _ (And.intro (hscn) ?_); conv => whnf) | fail)
       refine ok1_callE [2, 5] [some (.box (MB.map .u8 ++ [.sl 6 0 (K.length - 1) 33 false])), some (.ro (ocs K)), some (.row 52 (ocs (K.eraseIdx (plc K i))))] (.b true) (q) rfl rfl ⟨⟨rfl, by rfl⟩, by (repeat' (first | exact trivial | refine And.intro ?_ ?_)) <;> first | exact ren_eq (by first | (simp; done) | fail) (by rfl) | exact ren_app2 (by first | (simp; done) | fail) (by rfl) (by rfl) | fail, by (repeat' (first | exact trivial | refine And.intro ?_ ?_)) <;> first | exact renB_plain _ (by first | (simp; done) | fail) | exact rb_boxa (by first | (simp; done) | fail) rfl | rfl, by first | exact renV_plainR _ (by first | (simp [plainR, plainT, plainW]; done) | fail) | fail, ?_⟩
       conv => whnf
       repeat (first | (refine brT rfl ?_; conv => whnf) | fail)
       refine ⟨⟨K.eraseIdx (plc K i), hKe, by omega⟩, by simp only; omega, ?_⟩
       dsimp only
       rw [hel]
       refine Weak.sel [0, 1, 2, 3, 4, 6] rfl rfl ?_ ?_ rfl rfl
       ·
        (repeat' (first | exact trivial | refine And.intro ?_ ?_ | fail)) <;> first | rfl | fail
       ·
        (repeat' (first | exact trivial | refine And.intro ?_ ?_ | fail)) <;> first | exact ren_eq (by first | (simp; done) | fail) (by rfl) | exact ren_app2 (by first | (simp; done) | fail) (by rfl) rfl | fail
      ·
       have hp2 : plc K i = K.length := Nat.le_antisymm (plc_le K i) (by omega)
       have q := s8_n MB hMB K hK (by omega) i hp2 false
       have q7 := s7_x DB B SB hDB hB hSB K hK (by omega) false PA PE lI lE i hp2
       rw [← eMB] at q7
       conv => whnf
       repeat (first | (refine Exists.intro _ (And.intro (hscn) ?_); conv => whnf) | fail)
       refine ok1_callE [2, 5] [some (.ro (MB.map .u8 ++ [.sl 5 0 K.length 33 false])), some (.ro (ocs K))] (.b false) (q) rfl rfl ⟨⟨rfl, by rfl⟩, by (repeat' (first | exact trivial | refine And.intro ?_ ?_)) <;> first | exact ren_eq (by first | (simp; done) | fail) (by rfl) | exact ren_app2 (by first | (simp; done) | fail) (by rfl) (by rfl) | fail, by (repeat' (first | exact trivial | refine And.intro ?_ ?_)) <;> first | rfl, by first | exact renV_plainR _ (by first | (simp [plainR, plainT, plainW]; done) | fail) | fail, ?_⟩
       conv => whnf
       repeat (first | (refine brF rfl ?_; conv => whnf) | (refine Exists.intro _ (And.intro (sload_all rfl (by first | rfl | (simp [hscl]; done) | fail)) ?_); conv => whnf) | fail)
       refine ok1_callE [2, 5] [some (.ro (MB.map .u8 ++ [.sl 5 0 K.length 33 false])), some (.ro (ocs K))] (.tup [.agg (z8 64), .i 4]) (q7) rfl rfl ⟨⟨rfl, by first | ((repeat' (first | exact wk_nil | exact rfl | exact ren_eq (by first | (simp; done) | fail) rfl | (refine wk_agg ?_) | (refine wk_cons ?_ ?_))); done) | fail⟩, by (repeat' (first | exact trivial | refine And.intro ?_ ?_)) <;> first | exact ren_eq (by first | (simp; done) | fail) (by rfl) | exact ren_app2 (by first | (simp; done) | fail) (by rfl) (by rfl) | fail, by (repeat' (first | exact trivial | refine And.intro ?_ ?_)) <;> first | rfl, by first | exact renV_plainR _ (by first | (simp [plainR, plainT, plainW]; done) | fail) | fail, ?_⟩
       conv => whnf
       repeat (first | (refine brT rfl ?_; conv => whnf) | (refine Exists.intro _ (And.intro (sload_all rfl (by rfl)) ?_); conv => whnf) | (refine Exists.intro _ (And.intro (sput_all rfl (by first | rfl | (simp [lX]; done) | fail)) ?_); conv => whnf) | (refine Exists.intro _ (And.intro rfl ?_); conv => whnf) | (refine And.intro ⟨rfl, rfl⟩ ?_; conv => whnf) | (refine And.intro (by first | omega | (simp; omega) | fail) ?_; conv => whnf) | fail)
       refine ok1_callF [] [] true (s4) rfl rfl ⟨⟨rfl, by rfl⟩, trivial, by rfl, by rfl, ?_⟩
       conv => whnf
       repeat (first | (refine Exists.intro _ (And.intro rfl ?_); conv => whnf) | fail)
       refine ⟨[0, 1], ?_, rfl, rfl, ?_, rfl⟩
       ·
        (repeat' (fail)) <;> first | rfl | fail
       ·
        (repeat' (first | exact trivial | refine And.intro ?_ ?_ | fail)) <;> first | exact ren_eq (by first | (simp; done) | fail) (by rfl) | fail
   ·
    rw [g1] at q2
    rw [g2] at q4
    refine ok1_callE [3, 1] [some (.ro (MB.map .u8 ++ [.sl 1 0 KB.length 33 false])), some (.ro (ocs KB))] (.tup [.agg (bc DB (pubN B) (pubN SB) h i O), .i 0]) (q1) rfl rfl ⟨⟨rfl, by rfl⟩, by (repeat' (first | exact trivial | refine And.intro ?_ ?_)) <;> first | exact ren_eq (by first | (simp; done) | fail) (by rfl) | exact ren_app2 (by first | (simp; done) | fail) (by rfl) (by rfl) | fail, by (repeat' (first | exact trivial | refine And.intro ?_ ?_)) <;> first | rfl, by first | exact renV_plainR _ (by first | (simp [plainR, plainT, plainW]; done) | fail) | fail, ?_⟩
    conv => whnf
    repeat (first | (refine brF rfl ?_; conv => whnf) | (refine Exists.intro _ (And.intro (sload_all rfl (by first | rfl | (simp [hB2, he, hMA]; done) | fail)) ?_); conv => whnf) | (refine Exists.intro _ (And.intro (sput_all rfl (by first | rfl | (simp [hB2, he, hMA]; done) | fail)) ?_); conv => whnf) | (refine And.intro (by first | omega | (simp; omega) | fail) ?_; conv => whnf) | fail)
    refine ok1_callE [2, 0] [some (.ro (MA.map .u8 ++ [.sl 0 0 KA.length 33 false])), some (.ro (ocs KA))] (.tup [.agg (z8 64), .agg sc0, .i 70]) (q2) rfl rfl ⟨⟨rfl, by first | ((repeat' (first | exact wk_nil | exact ren_m8 rfl | exact rfl | exact ren_eq (by first | (simp; done) | fail) rfl | (refine wk_agg ?_) | (refine wk_cons ?_ ?_))); done) | fail⟩, by (repeat' (first | exact trivial | refine And.intro ?_ ?_)) <;> first | exact ren_eq (by first | (simp; done) | fail) (by rfl) | exact ren_app2 (by first | (simp; done) | fail) (by rfl) (by rfl) | fail, by (repeat' (first | exact trivial | refine And.intro ?_ ?_)) <;> first | rfl, by rfl, ?_⟩
    conv => whnf
    repeat (first | (refine Exists.intro _ (And.intro (sload_all rfl (by first | rfl | (simp [hMA, hB2, he]; done) | fail)) ?_); conv => whnf) | (refine Exists.intro _ (And.intro (sput_all rfl (by rfl)) ?_); conv => whnf) | (refine And.intro (by first | omega | (simp; done) | fail) ?_; conv => whnf) | (refine And.intro ⟨rfl, Nat.le_of_ble_eq_true rfl⟩ ?_; conv => whnf) | fail)
    refine ok1_callE [0] [some (.ro (ocs KA)), some (.row 60 (ocs KA))] (.agg (MA.map .u8 ++ [.sl 8 0 KA.length 33 false])) (q3) rfl rfl ⟨⟨rfl, by first | ((repeat' (first | exact wk_nil | exact ren_app2 (by first | (simp; done) | fail) rfl rfl | (refine wk_agg ?_) | (refine wk_cons ?_ ?_))); done) | fail⟩, by (repeat' (first | exact trivial | refine And.intro ?_ ?_)) <;> first | exact ren_eq (by first | (simp; done) | fail) (by rfl) | fail, by (repeat' (first | exact trivial | refine And.intro ?_ ?_)) <;> first | exact renB_plain _ (by first | (simp; done) | fail) | rfl, by first | exact wk_agg (ren_app2 (by first | (simp; done) | fail) rfl rfl) | fail, ?_⟩
    conv => whnf
    repeat (first | (refine Exists.intro _ (And.intro (sload_all rfl (by first | rfl | (simp [hB2, he]; done) | fail)) ?_); conv => whnf) | fail)
    refine ok1_callE [8] [some (.ro (ocs KA))] (.tup [.agg (z8 32), .agg (z8 32), .agg sc0, .b false]) (q4) rfl rfl ⟨⟨rfl, by first | ((repeat' (first | exact wk_nil | exact ren_m8 rfl | exact ren_eq (by first | (simp; done) | fail) rfl | exact ren_app2 (by first | (simp; done) | fail) rfl rfl | (refine wk_agg ?_) | (refine wk_cons ?_ ?_))); done) | fail⟩, by (repeat' (first | exact trivial | refine And.intro ?_ ?_)) <;> first | exact ren_eq (by first | (simp; done) | fail) (by rfl) | fail, by (repeat' (first | exact trivial | refine And.intro ?_ ?_)) <;> first | rfl, by rfl, ?_⟩
    conv => whnf
    repeat (first | (refine brT rfl ?_; conv => whnf) | (refine Exists.intro _ (And.intro (sput_all rfl (by rfl)) ?_); conv => whnf) | (refine And.intro (by first | omega | (simp; done) | fail) ?_; conv => whnf) | (refine And.intro ⟨rfl, Nat.le_of_ble_eq_true rfl⟩ ?_; conv => whnf) | (refine And.intro (by kernel_rfl) ?_; conv => whnf) | fail)
    refine ok1_callF [] [] true (s4) rfl rfl ⟨⟨rfl, by rfl⟩, trivial, by rfl, by rfl, ?_⟩
    conv => whnf
    repeat (first | (refine Exists.intro _ (And.intro rfl ?_); conv => whnf) | fail)
    refine ⟨[0, 1], ?_, rfl, rfl, ?_, rfl⟩
    ·
     (repeat' (fail)) <;> first | rfl | fail
    ·
     (repeat' (first | exact trivial | refine And.intro ?_ ?_ | fail)) <;> first | exact ren_eq (by first | (simp; done) | fail) (by rfl) | fail
  ·
   have e0 : decide ((KB.length : Int) > 0) = true := by simp; omega
   have hlt : id.toNat % KB.length < KB.length := Nat.mod_lt _ (Nat.pos_of_ne_zero h0)
   obtain ⟨ask, kx, hxk⟩ : ∃ x k, KB[id.toNat % KB.length] = (x, k) := ⟨_, _, rfl⟩
   have hask : plc KB ask < KB.length ∨ ask = 4294967295 := .inl (plc_has hlt hxk)
   have hld := sload_oci hKB hlt hxk
   have htm := tmod_mod id.toNat KB.length
   have hrem : sarith BinOp.rem (.i (id.toNat : Int)) (.i (KB.length : Int)) = some (.i ((id.toNat % KB.length : Nat) : Int)) := by
    simp only [sarith]
    rw [if_neg (by omega), htm]
   obtain ⟨h, i, O, k, lO, hk, hi, q1, qa⟩ := bundle_any DB B SB hDB hB hSB KB hKB (by omega) ask hask
   replace q1 := q1 false
   have q2 := s10_y DA A SA hDA hA hSA KA.length false KA DB (pubN B) (pubN SB) O e hDB (pubN_len B) (pubN_len SB) lO he h i
   have q3 := r6 DA A SA hDA hA hSA KA hKA (by omega) false
   have q4 := r8 DA A SA hDA hA hSA KA.length false KA DB (pubN B) (pubN SB) O e hDB (pubN_len B) (pubN_len SB) lO he h i
   have q5 := qa (pubN A) (pubN e) (pubN_len A) (pubN_len e) false
   have q6 := r12 A hA
   have lI := pubN_len A
   have lE := pubN_len e
   have hB2 := bc_len (h := h) (i := i) hDB (pubN_len B) (pubN_len SB) lO
   have hscl := sc_len (h := h) (i := i) lI lE
   have hsci := sc_i (h := h) (i := i) (E := pubN e) lI
   have hsch := sc_h (h := h) (i := i) lI lE
   have hscn := sc_n (h := h) (i := i) lI lE
   obtain ⟨MA, eMA⟩ : ∃ M, M = kb DA A SA := ⟨_, rfl⟩
   obtain ⟨MB, eMB⟩ : ∃ M, M = kb DB B SB := ⟨_, rfl⟩
   have ba := ba'
   rw [← eMA] at hMA q2 q3 q4 ha ba ⊢
   rw [← eMB] at hMB q1 q5 ⊢
   refine scall_of ttOk (by kernel_rfl : Tryz.prog.funcs[4]? = some Tryz.f4) rfl rfl rfl ?_
   try simp only [List.length_cons, List.length_nil, Nat.zero_add, Nat.reduceAdd]
   refine sw_ok ttOk mixed (by kernel_rfl) ?_
   conv => whnf
   repeat (first | (refine brT rfl ?_; conv => whnf) | (refine Exists.intro _ (And.intro (sload_end (by first | rfl | (simp [hMA, hMB, he]; done) | fail)) ?_); conv => whnf) | (refine Exists.intro _ (And.intro (idx_i (m := id.toNat % KB.length) (by rfl)) ?_); conv => whnf) | (refine gdT gA ?_; conv => whnf) | (refine pkF gA ?_; conv => whnf) | (refine gdF gB ?_; conv => whnf) | (refine gdT e0 ?_; conv => whnf) | (refine Exists.intro _ (And.intro (hrem) ?_); conv => whnf) | (refine Exists.intro _ (And.intro (hld) ?_); conv => whnf) | (refine Exists.intro _ (And.intro rfl ?_); conv => whnf) | (refine And.intro (by omega) ?_; conv => whnf) | (refine And.intro (by kernel_rfl) ?_; conv => whnf) | fail)
   rcases meets_eq A e B SB O k h i hA he hB hSB hk hi with ⟨X, lX, g1, g2, g3⟩ | ⟨g1, g2⟩
   ·
    rw [g1] at q2
    rw [g2] at q4
    rw [g3] at q5
    refine ok1_callE [3, 1] [some (.ro (MB.map .u8 ++ [.sl 1 0 KB.length 33 false])), some (.ro (ocs KB))] (.tup [.agg (bc DB (pubN B) (pubN SB) h i O), .i 0]) (q1) rfl rfl ⟨⟨rfl, by rfl⟩, by (repeat' (first | exact trivial | refine And.intro ?_ ?_)) <;> first | exact ren_eq (by first | (simp; done) | fail) (by rfl) | exact ren_app2 (by first | (simp; done) | fail) (by rfl) (by rfl) | fail, by (repeat' (first | exact trivial | refine And.intro ?_ ?_)) <;> first | rfl, by first | exact renV_plainR _ (by first | (simp [plainR, plainT, plainW]; done) | fail) | fail, ?_⟩
    conv => whnf
    have m1 : (X.take 32).length = 32 := by rw [List.length_take]; omega
    have m2 : (X.drop 32).length = 32 := by rw [List.length_drop]; omega
    obtain ⟨X1, eX1⟩ : ∃ W, W = X.take 32 := ⟨_, rfl⟩
    obtain ⟨X2, eX2⟩ : ∃ W, W = X.drop 32 := ⟨_, rfl⟩
    rw [← eX1] at q4 m1
    rw [← eX2] at q4 m2
    obtain ⟨PA, ePA⟩ : ∃ W, W = pubN A := ⟨_, rfl⟩
    obtain ⟨PE, ePE⟩ : ∃ W, W = pubN e := ⟨_, rfl⟩
    rw [← ePA] at q2 q4 q5 q6 lI
    rw [← ePE] at q2 q4 q5 lE
    rw [← ePA, ← ePE] at hscl hsch hscn
    rw [← ePE] at hsci
    rw [← ePA] at hsci
    have qX : (!eqcs (X.map SV.u8) (X.map SV.u8)) = false := by rw [eqcs_refl]; rfl
    have qP : (!eqcs (PA.map SV.u8) (PA.map SV.u8)) = false := by rw [eqcs_refl]; rfl
    repeat (first | (refine brF rfl ?_; conv => whnf) | (refine Exists.intro _ (And.intro (sload_all rfl (by first | rfl | (simp [hB2, he, hMA]; done) | fail)) ?_); conv => whnf) | (refine Exists.intro _ (And.intro (sput_all rfl (by first | rfl | (simp [hB2, he, hMA]; done) | fail)) ?_); conv => whnf) | (refine And.intro (by first | omega | (simp; omega) | fail) ?_; conv => whnf) | fail)
    refine ok1_callE [2, 0] [some (.ro (MA.map .u8 ++ [.sl 0 0 KA.length 33 false])), some (.ro (ocs KA))] (.tup [.agg (X.map .u8), .agg (sc PA PE h i), .i 0]) (q2) rfl rfl ⟨⟨rfl, by first | ((repeat' (first | exact wk_nil | exact ren_m8 rfl | exact rfl | exact ren_eq (by first | (simp; done) | fail) rfl | (refine wk_agg ?_) | (refine wk_cons ?_ ?_))); done) | fail⟩, by (repeat' (first | exact trivial | refine And.intro ?_ ?_)) <;> first | exact ren_eq (by first | (simp; done) | fail) (by rfl) | exact ren_app2 (by first | (simp; done) | fail) (by rfl) (by rfl) | fail, by (repeat' (first | exact trivial | refine And.intro ?_ ?_)) <;> first | rfl, by first | exact renV_plainR _ (by first | (simp [plainR, plainT, plainW]; done) | fail) | fail, ?_⟩
    conv => whnf
    repeat (first | (refine Exists.intro _ (And.intro (sload_all rfl (by first | rfl | (simp [lX, hscl, hMA, hB2, he]; done) | fail)) ?_); conv => whnf) | (refine Exists.intro _ (And.intro (sput_all rfl (by first | rfl | (simp [lX, hscl, hMA, hB2, he]; done) | fail)) ?_); conv => whnf) | (refine And.intro (by first | omega | (simp; omega) | fail) ?_; conv => whnf) | fail)
    refine ok1_callE [0] [some (.ro (ocs KA)), some (.row 60 (ocs KA))] (.agg (MA.map .u8 ++ [.sl 8 0 KA.length 33 false])) (q3) rfl rfl ⟨⟨rfl, by first | ((repeat' (first | exact wk_nil | exact ren_app2 (by first | (simp; done) | fail) rfl rfl | (refine wk_agg ?_) | (refine wk_cons ?_ ?_))); done) | fail⟩, by (repeat' (first | exact trivial | refine And.intro ?_ ?_)) <;> first | exact ren_eq (by first | (simp; done) | fail) (by rfl) | fail, by (repeat' (first | exact trivial | refine And.intro ?_ ?_)) <;> first | exact renB_plain _ (by first | (simp; done) | fail) | rfl, by first | exact wk_agg (ren_app2 (by first | (simp; done) | fail) rfl rfl) | fail, ?_⟩
    conv => whnf
    repeat (first | (refine Exists.intro _ (And.intro (sload_all rfl (by first | rfl | (simp [hB2, he]; done) | fail)) ?_); conv => whnf) | fail)
    refine ok1_callE [8] [some (.ro (ocs KA))] (.tup [.agg (X1.map .u8), .agg (X2.map .u8), .agg (sc PA PE h i), .b true]) (q4) rfl rfl ⟨⟨rfl, by first | ((repeat' (first | exact wk_nil | exact ren_m8 rfl | exact ren_eq (by first | (simp; done) | fail) rfl | exact ren_app2 (by first | (simp; done) | fail) rfl rfl | (refine wk_agg ?_) | (refine wk_cons ?_ ?_))); done) | fail⟩, by (repeat' (first | exact trivial | refine And.intro ?_ ?_)) <;> first | exact ren_eq (by first | (simp; done) | fail) (by rfl) | fail, by (repeat' (first | exact trivial | refine And.intro ?_ ?_)) <;> first | rfl, by first | exact renV_plainR _ (by first | (simp [plainR, plainT, plainW]; done) | fail) | fail, ?_⟩
    conv => whnf
    repeat (first | (refine brF rfl ?_; conv => whnf) | (refine Exists.intro _ (And.intro (sload_all rfl (by first | rfl | (simp [m1, m2, hscl]; done) | fail)) ?_); conv => whnf) | (refine Exists.intro _ (And.intro (sput_all rfl (by first | rfl | (simp [m1, m2, hscl]; done) | fail)) ?_); conv => whnf) | (refine And.intro (by first | omega | (simp; omega) | fail) ?_; conv => whnf) | (refine And.intro (by kernel_rfl) ?_; conv => whnf) | fail)
    refine ok1_callE [3, 1] [some (.ro (MB.map .u8 ++ [.sl 1 0 KB.length 33 false])), some (.ro (ocs KB))] (.tup [.agg (X.map .u8), .i 0]) (q5) rfl rfl ⟨⟨rfl, by first | ((repeat' (first | exact wk_nil | exact rfl | exact ren_eq (by first | (simp; done) | fail) rfl | (refine wk_agg ?_) | (refine wk_cons ?_ ?_))); done) | fail⟩, by (repeat' (first | exact trivial | refine And.intro ?_ ?_)) <;> first | exact ren_eq (by first | (simp; done) | fail) (by rfl) | exact ren_app2 (by first | (simp; done) | fail) (by rfl) (by rfl) | fail, by (repeat' (first | exact trivial | refine And.intro ?_ ?_)) <;> first | rfl, by first | exact renV_plainR _ (by first | (simp [plainR, plainT, plainW]; done) | fail) | fail, ?_⟩
    conv => whnf
    repeat (first | (refine gdT rfl ?_; conv => whnf) | (refine Exists.intro _ (And.intro (sload_all rfl (by first | rfl | (simp [lX]; done) | fail)) ?_); conv => whnf) | (refine Exists.intro _ (And.intro (sput_all rfl (by first | rfl | (simp [lX]; done) | fail)) ?_); conv => whnf) | (refine Exists.intro _ (And.intro rfl ?_); conv => whnf) | (refine And.intro (by first | (simp; omega) | fail) ?_; conv => whnf) | fail)
    refine And.intro (by exact ⟨kd_u8n X lX, kd_u8n X lX⟩) ?_
    conv => whnf
    repeat (first | (refine gdT qX ?_; conv => whnf) | (refine Exists.intro _ (And.intro (hsci) ?_); conv => whnf) | (refine Exists.intro _ (And.intro (sload_mapc ha ba) ?_); conv => whnf) | (refine Exists.intro _ (And.intro rfl ?_); conv => whnf) | fail)
    refine ok1_callF [] [] true (q6) rfl rfl ⟨⟨rfl, by first | ((repeat' (first | exact wk_nil | exact ren_m8 rfl | (refine wk_agg ?_) | (refine wk_cons ?_ ?_))); done) | fail⟩, trivial, by rfl, by first | simp [plainRf, plainR, plainT, plainW], ?_⟩
    conv => whnf
    repeat (first | (refine gdT qX ?_; conv => whnf) | fail)
    refine And.intro (by exact ⟨kd_u8n PA lI, kd_u8n PA lI⟩) ?_
    conv => whnf
    repeat (first | (refine pkF qX ?_; conv => whnf) | (refine gdF qP ?_; conv => whnf) | (refine Exists.intro _ (And.intro (hsch) ?_); conv => whnf) | (refine And.intro (by kernel_rfl) ?_; conv => whnf) | fail)
    cases h with
    | false =>
     repeat (first | (refine brT rfl ?_; conv => whnf) | fail)
     refine ok1_callF [] [] true (s4) rfl rfl ⟨⟨rfl, by rfl⟩, trivial, by rfl, by rfl, ?_⟩
     conv => whnf
     refine ⟨[0, 1], ?_, rfl, rfl, ?_, rfl⟩
     ·
      (repeat' (fail)) <;> first | rfl | fail
     ·
      (repeat' (first | exact trivial | refine And.intro ?_ ?_ | fail)) <;> first | exact ren_eq (by first | (simp; done) | fail) (by rfl) | fail
    | true =>
     repeat (first | (refine brF rfl ?_; conv => whnf) | fail)
     refine loop_rule ttOk mixed (by kernel_rfl) (ι := { K : List (UInt32 × List UInt8) // OcOk K ∧ K.length ≤ KB.length }) (fun K => [(6, .p 2 0), (15, .p 3 0), (20, .p 4 0)]) (fun K => [some (.ro (ocs KA)), some (.ro (ocs KB)), some (.box (MB.map .u8 ++ [.sl 5 0 K.1.length 33 false])), some (.box (sc PA PE true i)), some (.box (X.map .u8)), some (.ro (ocs K.1))]) (fun _ => 6) (fun K => K.1.length) ⟨KB, hKB, Nat.le_refl _⟩ ?_ ?_
     ·
      dsimp only
      refine Weak.sel [0, 1, 3, 7, 12, 1] rfl rfl ?_ ?_ rfl rfl
      ·
       (repeat' (first | exact trivial | refine And.intro ?_ ?_ | fail)) <;> first | rfl | fail
      ·
       (repeat' (first | exact trivial | refine And.intro ?_ ?_ | fail)) <;> first | exact ren_eq (by first | (simp; done) | fail) (by rfl) | exact ren_app2 (by first | (simp; done) | fail) (by rfl) rfl | fail
     ·
      rintro ⟨K, hK, hKl⟩
      dsimp only
      by_cases hp : plc K i < K.length
      ·
       have q := s8_y MB hMB K hK (by omega) i _ hp rfl false
       have hKe : OcOk (K.eraseIdx (plc K i)) := fun x hx => hK x (List.mem_of_mem_eraseIdx hx)
       have hel : (K.eraseIdx (plc K i)).length = K.length - 1 := List.length_eraseIdx_of_lt hp
       conv => whnf
       repeat (first | (refine Exists.intro _ (And.intro (hscn) ?_); conv => whnf) | fail)
       refine ok1_callE [2, 5] [some (.box (MB.map .u8 ++ [.sl 6 0 (K.length - 1) 33 false])), some (.ro (ocs K)), some (.row 52 (ocs (K.eraseIdx (plc K i))))] (.b true) (q) rfl rfl ⟨⟨rfl, by rfl⟩, by (repeat' (first | exact trivial | refine And.intro ?_ ?_)) <;> first | exact ren_eq (by first | (simp; done) | fail) (by rfl) | exact ren_app2 (by first | (simp; done) | fail) (by rfl) (by rfl) | fail, by (repeat' (first | exact trivial | refine And.intro ?_ ?_)) <;> first | exact renB_plain _ (by first | (simp; done) | fail) | exact rb_boxa (by first | (simp; done) | fail) rfl | rfl, by first | exact renV_plainR _ (by first | (simp [plainR, plainT, plainW]; done) | fail) | fail, ?_⟩
       conv => whnf
       repeat (first | (refine brT rfl ?_; conv => whnf) | fail)
       refine ⟨⟨K.eraseIdx (plc K i), hKe, by omega⟩, by simp only; omega, ?_⟩
       dsimp only
       rw [hel]
       refine Weak.sel [0, 1, 2, 3, 4, 6] rfl rfl ?_ ?_ rfl rfl
       ·
        (repeat' (first | exact trivial | refine And.intro ?_ ?_ | fail)) <;> first | rfl | fail
       ·
        (repeat' (first | exact trivial | refine And.intro ?_ ?_ | fail)) <;> first | exact ren_eq (by first | (simp; done) | fail) (by rfl) | exact ren_app2 (by first | (simp; done) | fail) (by rfl) rfl | fail
      ·
       have hp2 : plc K i = K.length := Nat.le_antisymm (plc_le K i) (by omega)
       have q := s8_n MB hMB K hK (by omega) i hp2 false
       have q7 := s7_x DB B SB hDB hB hSB K hK (by omega) false PA PE lI lE i hp2
       rw [← eMB] at q7
       conv => whnf
       repeat (first | (refine Exists.intro _ (And.intro (hscn) ?_); conv => whnf) | fail)
       refine ok1_callE [2, 5] [some (.ro (MB.map .u8 ++ [.sl 5 0 K.length 33 false])), some (.ro (ocs K))] (.b false) (q) rfl rfl ⟨⟨rfl, by rfl⟩, by (repeat' (first | exact trivial | refine And.intro ?_ ?_)) <;> first | exact ren_eq (by first | (simp; done) | fail) (by rfl) | exact ren_app2 (by first | (simp; done) | fail) (by rfl) (by rfl) | fail, by (repeat' (first | exact trivial | refine And.intro ?_ ?_)) <;> first | rfl, by first | exact renV_plainR _ (by first | (simp [plainR, plainT, plainW]; done) | fail) | fail, ?_⟩
       conv => whnf
       repeat (first | (refine brF rfl ?_; conv => whnf) | (refine Exists.intro _ (And.intro (sload_all rfl (by first | rfl | (simp [hscl]; done) | fail)) ?_); conv => whnf) | fail)
       refine ok1_callE [2, 5] [some (.ro (MB.map .u8 ++ [.sl 5 0 K.length 33 false])), some (.ro (ocs K))] (.tup [.agg (z8 64), .i 4]) (q7) rfl rfl ⟨⟨rfl, by first | ((repeat' (first | exact wk_nil | exact rfl | exact ren_eq (by first | (simp; done) | fail) rfl | (refine wk_agg ?_) | (refine wk_cons ?_ ?_))); done) | fail⟩, by (repeat' (first | exact trivial | refine And.intro ?_ ?_)) <;> first | exact ren_eq (by first | (simp; done) | fail) (by rfl) | exact ren_app2 (by first | (simp; done) | fail) (by rfl) (by rfl) | fail, by (repeat' (first | exact trivial | refine And.intro ?_ ?_)) <;> first | rfl, by first | exact renV_plainR _ (by first | (simp [plainR, plainT, plainW]; done) | fail) | fail, ?_⟩
       conv => whnf
       repeat (first | (refine brT rfl ?_; conv => whnf) | (refine Exists.intro _ (And.intro (sload_all rfl (by rfl)) ?_); conv => whnf) | (refine Exists.intro _ (And.intro (sput_all rfl (by first | rfl | (simp [lX]; done) | fail)) ?_); conv => whnf) | (refine Exists.intro _ (And.intro rfl ?_); conv => whnf) | (refine And.intro ⟨rfl, rfl⟩ ?_; conv => whnf) | (refine And.intro (by first | omega | (simp; omega) | fail) ?_; conv => whnf) | fail)
       refine ok1_callF [] [] true (s4) rfl rfl ⟨⟨rfl, by rfl⟩, trivial, by rfl, by rfl, ?_⟩
       conv => whnf
       repeat (first | (refine Exists.intro _ (And.intro rfl ?_); conv => whnf) | fail)
       refine ⟨[0, 1], ?_, rfl, rfl, ?_, rfl⟩
       ·
        (repeat' (fail)) <;> first | rfl | fail
       ·
        (repeat' (first | exact trivial | refine And.intro ?_ ?_ | fail)) <;> first | exact ren_eq (by first | (simp; done) | fail) (by rfl) | fail
   ·
    rw [g1] at q2
    rw [g2] at q4
    refine ok1_callE [3, 1] [some (.ro (MB.map .u8 ++ [.sl 1 0 KB.length 33 false])), some (.ro (ocs KB))] (.tup [.agg (bc DB (pubN B) (pubN SB) h i O), .i 0]) (q1) rfl rfl ⟨⟨rfl, by rfl⟩, by (repeat' (first | exact trivial | refine And.intro ?_ ?_)) <;> first | exact ren_eq (by first | (simp; done) | fail) (by rfl) | exact ren_app2 (by first | (simp; done) | fail) (by rfl) (by rfl) | fail, by (repeat' (first | exact trivial | refine And.intro ?_ ?_)) <;> first | rfl, by first | exact renV_plainR _ (by first | (simp [plainR, plainT, plainW]; done) | fail) | fail, ?_⟩
    conv => whnf
    repeat (first | (refine brF rfl ?_; conv => whnf) | (refine Exists.intro _ (And.intro (sload_all rfl (by first | rfl | (simp [hB2, he, hMA]; done) | fail)) ?_); conv => whnf) | (refine Exists.intro _ (And.intro (sput_all rfl (by first | rfl | (simp [hB2, he, hMA]; done) | fail)) ?_); conv => whnf) | (refine And.intro (by first | omega | (simp; omega) | fail) ?_; conv => whnf) | fail)
    refine ok1_callE [2, 0] [some (.ro (MA.map .u8 ++ [.sl 0 0 KA.length 33 false])), some (.ro (ocs KA))] (.tup [.agg (z8 64), .agg sc0, .i 70]) (q2) rfl rfl ⟨⟨rfl, by first | ((repeat' (first | exact wk_nil | exact ren_m8 rfl | exact rfl | exact ren_eq (by first | (simp; done) | fail) rfl | (refine wk_agg ?_) | (refine wk_cons ?_ ?_))); done) | fail⟩, by (repeat' (first | exact trivial | refine And.intro ?_ ?_)) <;> first | exact ren_eq (by first | (simp; done) | fail) (by rfl) | exact ren_app2 (by first | (simp; done) | fail) (by rfl) (by rfl) | fail, by (repeat' (first | exact trivial | refine And.intro ?_ ?_)) <;> first | rfl, by rfl, ?_⟩
    conv => whnf
    repeat (first | (refine Exists.intro _ (And.intro (sload_all rfl (by first | rfl | (simp [hMA, hB2, he]; done) | fail)) ?_); conv => whnf) | (refine Exists.intro _ (And.intro (sput_all rfl (by rfl)) ?_); conv => whnf) | (refine And.intro (by first | omega | (simp; done) | fail) ?_; conv => whnf) | (refine And.intro ⟨rfl, Nat.le_of_ble_eq_true rfl⟩ ?_; conv => whnf) | fail)
    refine ok1_callE [0] [some (.ro (ocs KA)), some (.row 60 (ocs KA))] (.agg (MA.map .u8 ++ [.sl 8 0 KA.length 33 false])) (q3) rfl rfl ⟨⟨rfl, by first | ((repeat' (first | exact wk_nil | exact ren_app2 (by first | (simp; done) | fail) rfl rfl | (refine wk_agg ?_) | (refine wk_cons ?_ ?_))); done) | fail⟩, by (repeat' (first | exact trivial | refine And.intro ?_ ?_)) <;> first | exact ren_eq (by first | (simp; done) | fail) (by rfl) | fail, by (repeat' (first | exact trivial | refine And.intro ?_ ?_)) <;> first | exact renB_plain _ (by first | (simp; done) | fail) | rfl, by first | exact wk_agg (ren_app2 (by first | (simp; done) | fail) rfl rfl) | fail, ?_⟩
    conv => whnf
    repeat (first | (refine Exists.intro _ (And.intro (sload_all rfl (by first | rfl | (simp [hB2, he]; done) | fail)) ?_); conv => whnf) | fail)
    refine ok1_callE [8] [some (.ro (ocs KA))] (.tup [.agg (z8 32), .agg (z8 32), .agg sc0, .b false]) (q4) rfl rfl ⟨⟨rfl, by first | ((repeat' (first | exact wk_nil | exact ren_m8 rfl | exact ren_eq (by first | (simp; done) | fail) rfl | exact ren_app2 (by first | (simp; done) | fail) rfl rfl | (refine wk_agg ?_) | (refine wk_cons ?_ ?_))); done) | fail⟩, by (repeat' (first | exact trivial | refine And.intro ?_ ?_)) <;> first | exact ren_eq (by first | (simp; done) | fail) (by rfl) | fail, by (repeat' (first | exact trivial | refine And.intro ?_ ?_)) <;> first | rfl, by rfl, ?_⟩
    conv => whnf
    repeat (first | (refine brT rfl ?_; conv => whnf) | (refine Exists.intro _ (And.intro (sput_all rfl (by rfl)) ?_); conv => whnf) | (refine And.intro (by first | omega | (simp; done) | fail) ?_; conv => whnf) | (refine And.intro ⟨rfl, Nat.le_of_ble_eq_true rfl⟩ ?_; conv => whnf) | (refine And.intro (by kernel_rfl) ?_; conv => whnf) | fail)
    refine ok1_callF [] [] true (s4) rfl rfl ⟨⟨rfl, by rfl⟩, trivial, by rfl, by rfl, ?_⟩
    conv => whnf
    repeat (first | (refine Exists.intro _ (And.intro rfl ?_); conv => whnf) | fail)
    refine ⟨[0, 1], ?_, rfl, rfl, ?_, rfl⟩
    ·
     (repeat' (fail)) <;> first | rfl | fail
    ·
     (repeat' (first | exact trivial | refine And.intro ?_ ?_ | fail)) <;> first | exact ren_eq (by first | (simp; done) | fail) (by rfl) | fail
end Go.Sh
namespace Go.Sh
open Go.ChangeShapes Go.WideShapes Go.ChangeAt Go.RowKit
structure Dr where
 k : UInt8
 n : Int
 v : Value
 rb : RB
 l : List UInt32
 x : UInt32
def drC (d : Dr) : List SV := [.u8 d.k, .i d.n, .lit d.v, .u32 d.x]
def drR (ds : List Dr) : List SV := (ds.map drC).flatten
@[simp] theorem drR_plain (ds : List Dr) : plainL (drR ds) = true := by
 induction ds with
 | nil => rfl
 | cons d ds ih => show plainL (drC d ++ drR ds) = true; rw [plainL_app, ih]; rfl
section
variable {H : Type} {enc : TypeId × Value → H} {P : Program} {w : World} {base : Nat} {held : Bool}
def structF (P : Program) (t : TypeId) : Option (List (TypeId × Nat)) := match P.underlying t with
 | some (.struct fs) => some (fs.toList.map fun f => (f.type, f.offset))
 | _ => none
theorem structF_get {t : TypeId} {l : List (TypeId × Nat)} (h : structF P t = some l) : ∃ fs : Array Field, P.underlying t = some (.struct fs) ∧ fs.toList.map (fun f => (f.type, f.offset)) = l := by
 unfold structF at h
 split at h
 ·
  rename_i fs hf; exact ⟨fs, hf, by simpa using h⟩
 ·
  cases h
end
end Go.Sh
namespace Go.Sh
open Go.ChangeShapes Go.WideShapes Go.ChangeAt Go.RowKit
theorem kd_ocs : ∀ (n : Nat) {ys : List SV}, ys.map kd = (List.replicate n (3 :: List.replicate 32 1)).flatten.map some → ∃ K : List (UInt32 × List UInt8), ys = ocs K ∧ OcOk K ∧ K.length = n
 | 0, ys, h => ⟨[], kd_nil h, fun x hx => (by cases hx), rfl⟩
 | n + 1, ys, h => by
  rw [List.replicate_succ, List.flatten_cons] at h
  obtain ⟨a, b, rfl, ha, hb⟩ := kd_append h
  obtain ⟨K, rfl, hK, hn⟩ := kd_ocs n hb
  obtain ⟨x, xs, rfl, hx, hxs⟩ := kd_cons ha
  obtain ⟨i, rfl⟩ := kd_3 hx
  obtain ⟨k, rfl, hk⟩ := kd_rep (f := SV.u8) (fun _ => kd_1) hxs
  refine ⟨(i, k) :: K, rfl, fun y hy => ?_, by rw [List.length_cons, hn]⟩
  rcases List.mem_cons.1 hy with rfl | hy
  ·
   exact hk
  ·
   exact hK y hy
section
variable {H : Type} {enc : TypeId × Value → H} {P : Program} {w : World} {base : Nat} {held : Bool}
theorem rels_one {ρ : Ren} {x : SV} {v : Value} (h : Rel ρ x v) : Rels ρ [x] [v] := Rels.cons h (Rels.nil_iff.2 rfl)
theorem cut4 {cs : List Value} (h : cs.length = 67) : cs = cs.take 2 ++ ((cs.drop 2).take 32 ++ ((cs.drop 34).take 32 ++ (cs.drop 66).take 1)) := by
 have e1 : (cs.drop 66).take 1 = cs.drop 66 := List.take_of_length_le (by rw [List.length_drop]; omega)
 have e2 : (cs.drop 34).take 32 ++ cs.drop 66 = cs.drop 34 := by
  have := List.take_append_drop 32 (cs.drop 34)
  rwa [List.drop_drop] at this
 have e3 : (cs.drop 2).take 32 ++ cs.drop 34 = cs.drop 2 := by
  have := List.take_append_drop 32 (cs.drop 2)
  rwa [List.drop_drop] at this
 rw [e1, e2, e3, List.take_append_drop]
theorem open_keys {r : Reach} {b0 d : Nat} {t tD tA tS tO e : TypeId} {v : Value} {y : DataW H} {pl : List MemPlace} (hS : structF P t = some [(tD, 0), (tA, 2), (tS, 34), (tO, 66)]) (hs : psz P t = some 67)
  (hD : kinds P d tD = some (List.replicate 2 1)) (hA : kinds P d tA = some (List.replicate 32 1)) (hSg : kinds P d tS = some (List.replicate 32 1)) (hO : P.underlying tO = some (.slice e)) (hO1 : psz P tO = some 1) (he : kinds P d e = some (3 :: List.replicate 32 1))
  (hval : Value.okWide P w r b0 t v) (hd : DataW.Trod enc P w base (fun _ => true) held t v y pl) :
  ∃ (D A S : List UInt8) (K : List (UInt32 × List UInt8)) (rb : RB), D.length = 2 ∧ A.length = 32 ∧ S.length = 32 ∧ OcOk K ∧
   (∀ ρ id, ρ id = some rb → Rel ρ (.agg ((kb D A S).map .u8 ++ [.sl id 0 K.length 33 false])) v) ∧ ∀ ρ, BRel ρ w rb (.ro (ocs K)) := by
 obtain ⟨fs, hu, hfs⟩ := structF_get hS
 have hv : ∃ cs, v = .agg cs := by
  unfold Value.okWide at hval
  rw [hu] at hval
  obtain ⟨cs, h, _⟩ := hval
  exact ⟨cs, h⟩
 obtain ⟨cs0, rfl⟩ := hv
 obtain ⟨fuel, hf⟩ := hd
 have hcs : (Value.agg cs0).cells.toList = cs0.toList := rfl
 rw [hcs] at hf
 obtain ⟨cs, hc0⟩ : ∃ cs, cs = cs0.toList := ⟨_, rfl⟩
 rw [← hc0] at hf
 obtain ⟨xs, n, hn, hx, hcl, hxl, hfi⟩ := DataW.trod_struct hu hf
 rw [psz_cells hs] at hcl
 have hfl : fs.size = 4 := by have := congrArg List.length hfs; simpa using this
 have get : ∀ (i : Nat) (t : TypeId) (o : Nat), [(tD, 0), (tA, 2), (tS, 34), (tO, 66)][i]? = some (t, o) → ∃ y, DataW.trod enc P w base (fun _ => true) held n t ((cs.drop o).take (P.cellsOf t)) = some y := by
  intro i t o hi
  rw [← hfs, List.getElem?_map, Array.getElem?_toList] at hi
  cases hfi2 : fs[i]? with
  | none => rw [hfi2] at hi; simp at hi
  | some f =>
   rw [hfi2] at hi
   simp only [Option.map_some, Option.some.injEq, Prod.mk.injEq] at hi
   have hlt : i < fs.size := (Array.getElem?_eq_some_iff.1 hfi2).1
   have h2 := hfi i f hfi2
   rw [List.getElem?_eq_getElem (by omega : i < xs.length)] at h2
   rw [hi.1, hi.2] at h2
   exact ⟨_, h2⟩
 obtain ⟨y0, r0⟩ := get 0 tD 0 rfl
 obtain ⟨y1, r1⟩ := get 1 tA 2 rfl
 obtain ⟨y2, r2⟩ := get 2 tS 34 rfl
 obtain ⟨y3, r3⟩ := get 3 tO 66 rfl
 rw [psz_cells (kinds_size hD)] at r0
 rw [psz_cells (kinds_size hA)] at r1
 rw [psz_cells (kinds_size hSg)] at r2
 rw [psz_cells hO1] at r3
 rw [List.length_replicate] at r0 r1 r2
 rw [List.drop_zero] at r0
 obtain ⟨a0, hx0, hr0⟩ := open_kinds hD ⟨_, _, r0⟩
 obtain ⟨a1, hx1, hr1⟩ := open_kinds hA ⟨_, _, r1⟩
 obtain ⟨a2, hx2, hr2⟩ := open_kinds hSg ⟨_, _, r2⟩
 obtain ⟨D, rfl, hDl⟩ := kd_rep (f := SV.u8) (fun _ => kd_1) hx0
 obtain ⟨A, rfl, hAl⟩ := kd_rep (f := SV.u8) (fun _ => kd_1) hx1
 obtain ⟨S, rfl, hSl⟩ := kd_rep (f := SV.u8) (fun _ => kd_1) hx2
 have hcut := cut4 hcl
 have hfin : ∀ (K : List (UInt32 × List UInt8)) (rb : RB) (sv : Value), (cs.drop 66).take 1 = [sv] → OcOk K → (∀ ρ id, ρ id = some rb → Rel ρ (.sl id 0 K.length 33 false) sv) → (∀ ρ, BRel ρ w rb (.ro (ocs K))) →
   ∃ (D A S : List UInt8) (K : List (UInt32 × List UInt8)) (rb : RB), D.length = 2 ∧ A.length = 32 ∧ S.length = 32 ∧ OcOk K ∧
   (∀ ρ id, ρ id = some rb → Rel ρ (.agg ((kb D A S).map .u8 ++ [.sl id 0 K.length 33 false])) (.agg cs0)) ∧ ∀ ρ, BRel ρ w rb (.ro (ocs K)) := by
  intro K rb sv hsv hK h1 h2
  refine ⟨D, A, S, K, rb, hDl, hAl, hSl, hK, fun ρ id hid => ?_, h2⟩
  simp only [Rel]
  refine ⟨cs, by rw [hc0], ?_, ?_⟩
  ·
   simp [atoms, SV.atom]
  ·
   rw [hcut, hsv]
   unfold kb
   rw [List.map_append, List.map_append, List.append_assoc, List.append_assoc]
   exact Rels.append (hr0 ρ) (Rels.append (hr1 ρ) (Rels.append (hr2 ρ) (rels_one (h1 ρ id hid))))
 rcases open_row hO (kinds_size he) (by simp) rfl ⟨_, _, r3⟩ with h | ⟨a', len', cap', vs, h, hrow⟩
 ·
  refine hfin [] ⟨0, 0, 0, true⟩ _ h (fun x hx => by cases hx) (fun ρ id hr => ?_) (fun ρ => .inl rfl)
  simp only [Rel]
  exact ⟨_, none, 0, hr, rfl, Nat.le_refl _, fun h => (by cases h), .inl rfl⟩
 ·
  have hle : len' * (3 :: List.replicate 32 1).length ≤ cap' * (3 :: List.replicate 32 1).length := Nat.mul_le_mul_right _ hrow.le
  obtain ⟨ys, hy, hyr⟩ := chunks (R := fun c => Rd enc P w base (fun _ => true) held e c) (fun c hc => open_kinds he hc) vs len' (by rw [hrow.len]; exact hle) (fun i hi => hrow.read i (Nat.lt_of_lt_of_le hi hrow.le))
  obtain ⟨K, rfl, hK, rfl⟩ := kd_ocs len' hy
  exact hfin K _ _ h hK (fun ρ id hid => (hrow.block (hyr ρ) (kd_atoms hy)).1 id hid) (fun ρ => (hrow.block (hyr ρ) (kd_atoms hy)).2)
end
end Go.Sh
