/- Merged for a claim: K28, K29, K30, K31, K32, K33, K34, K35, K36, K37, K38, K39, K40, K41, K42. -/
import Derived.Test.YtannakicfkjhbaaFt1
/- curve: one rung of the ladder, plainly; the reference's Step (f132), walked. -/
namespace Go.Sh
open Go.Proofs
set_option maxHeartbeats 8000000
set_option linter.unusedSimpArgs false
set_option linter.unusedVariables false

/-- One rung: what (x2, z2, x3, z3) turn to. -/
def lad (u x2 z2 x3 z3 : Nat) : Nat × Nat × Nat × Nat :=
  let A := (x2 + z2) % P25519
  let B := (x2 + (P25519 - z2)) % P25519
  let D := (x3 + (P25519 - z3)) % P25519
  let DA := D * A % P25519
  let C := (x3 + z3) % P25519
  let CB := C * B % P25519
  let AA := A * A % P25519
  let BB := B * B % P25519
  let E := (AA + (P25519 - BB)) % P25519
  let T := (DA + CB) % P25519
  let S := (DA + (P25519 - CB)) % P25519
  let EK := E * 121665 % P25519
  let F := (AA + EK) % P25519
  let SS := S * S % P25519
  (AA * BB % P25519, E * F % P25519, T * T % P25519, u * SS % P25519)
attribute [local irreducible] dg
theorem f132 {u x2 z2 x3 z3 : Nat} (hu : u < P25519) (h2 : x2 < P25519) (k2 : z2 < P25519) (h3 : x3 < P25519) (k3 : z3 < P25519) : SCall Try.prog 132 [.sl 0 0 16 1 true, .sl 1 0 4 1 true]
    [some (.ro ((dg u).map .u64)), some (.ro [.sl 2 0 16 1 true, .sl 3 0 16 1 true, .sl 4 0 16 1 true, .sl 5 0 16 1 true]), some (.ro ((dg x2).map .u64)), some (.ro ((dg z2).map .u64)), some (.ro ((dg x3).map .u64)), some (.ro ((dg z3).map .u64))]
    (.sl 6 0 4 1 true)
    [some (.ro ((dg u).map .u64)), some (.ro [.sl 2 0 16 1 true, .sl 3 0 16 1 true, .sl 4 0 16 1 true, .sl 5 0 16 1 true]), some (.ro ((dg x2).map .u64)), some (.ro ((dg z2).map .u64)), some (.ro ((dg x3).map .u64)), some (.ro ((dg z3).map .u64)), some (.row 32 [.sl 7 0 16 1 true, .sl 8 0 16 1 true, .sl 9 0 16 1 true, .sl 10 0 16 1 true]), some (.row 25 ((dg (lad u x2 z2 x3 z3).1).map .u64)), some (.row 25 ((dg (lad u x2 z2 x3 z3).2.1).map .u64)), some (.row 25 ((dg (lad u x2 z2 x3 z3).2.2.1).map .u64)), some (.row 25 ((dg (lad u x2 z2 x3 z3).2.2.2).map .u64))] := by
  have lK : 121665 < P25519 := by decide
  have qK := f24 121665
  have eK : (121665 : UInt32).toNat = 121665 := rfl
  rw [eK] at qK
  have qA := f30 h2 k2 true true
  obtain ⟨A, eA⟩ : ∃ A, A = (x2 + z2) % P25519 := ⟨_, rfl⟩
  rw [← eA] at qA
  have lA : A < P25519 := by rw [eA]; exact mod_lt_P _
  have qB := f31 h2 k2 true true
  obtain ⟨B, eB⟩ : ∃ B, B = (x2 + (P25519 - z2)) % P25519 := ⟨_, rfl⟩
  rw [← eB] at qB
  have lB : B < P25519 := by rw [eB]; exact mod_lt_P _
  have qD := f31 h3 k3 true true
  obtain ⟨D, eD⟩ : ∃ D, D = (x3 + (P25519 - z3)) % P25519 := ⟨_, rfl⟩
  rw [← eD] at qD
  have lD : D < P25519 := by rw [eD]; exact mod_lt_P _
  have qDA := f32 lD lA true true
  obtain ⟨DA, eDA⟩ : ∃ DA, DA = D * A % P25519 := ⟨_, rfl⟩
  rw [← eDA] at qDA
  have lDA : DA < P25519 := by rw [eDA]; exact mod_lt_P _
  have qC := f30 h3 k3 true true
  obtain ⟨C, eC⟩ : ∃ C, C = (x3 + z3) % P25519 := ⟨_, rfl⟩
  rw [← eC] at qC
  have lC : C < P25519 := by rw [eC]; exact mod_lt_P _
  have qCB := f32 lC lB true true
  obtain ⟨CB, eCB⟩ : ∃ CB, CB = C * B % P25519 := ⟨_, rfl⟩
  rw [← eCB] at qCB
  have lCB : CB < P25519 := by rw [eCB]; exact mod_lt_P _
  have qAA := f32 lA lA true true
  obtain ⟨AA, eAA⟩ : ∃ AA, AA = A * A % P25519 := ⟨_, rfl⟩
  rw [← eAA] at qAA
  have lAA : AA < P25519 := by rw [eAA]; exact mod_lt_P _
  have qBB := f32 lB lB true true
  obtain ⟨BB, eBB⟩ : ∃ BB, BB = B * B % P25519 := ⟨_, rfl⟩
  rw [← eBB] at qBB
  have lBB : BB < P25519 := by rw [eBB]; exact mod_lt_P _
  have qE := f31 lAA lBB true true
  obtain ⟨E, eE⟩ : ∃ E, E = (AA + (P25519 - BB)) % P25519 := ⟨_, rfl⟩
  rw [← eE] at qE
  have lE : E < P25519 := by rw [eE]; exact mod_lt_P _
  have qT := f30 lDA lCB true true
  obtain ⟨T, eT⟩ : ∃ T, T = (DA + CB) % P25519 := ⟨_, rfl⟩
  rw [← eT] at qT
  have lT : T < P25519 := by rw [eT]; exact mod_lt_P _
  have qS := f31 lDA lCB true true
  obtain ⟨S, eS⟩ : ∃ S, S = (DA + (P25519 - CB)) % P25519 := ⟨_, rfl⟩
  rw [← eS] at qS
  have lS : S < P25519 := by rw [eS]; exact mod_lt_P _
  have qEK := f32 lE lK true true
  obtain ⟨EK, eEK⟩ : ∃ EK, EK = E * 121665 % P25519 := ⟨_, rfl⟩
  rw [← eEK] at qEK
  have lEK : EK < P25519 := by rw [eEK]; exact mod_lt_P _
  have qF := f30 lAA lEK true true
  obtain ⟨F, eF⟩ : ∃ F, F = (AA + EK) % P25519 := ⟨_, rfl⟩
  rw [← eF] at qF
  have lF : F < P25519 := by rw [eF]; exact mod_lt_P _
  have qR1 := f32 lAA lBB true true
  obtain ⟨R1, eR1⟩ : ∃ R1, R1 = AA * BB % P25519 := ⟨_, rfl⟩
  rw [← eR1] at qR1
  have lR1 : R1 < P25519 := by rw [eR1]; exact mod_lt_P _
  have qR2 := f32 lE lF true true
  obtain ⟨R2, eR2⟩ : ∃ R2, R2 = E * F % P25519 := ⟨_, rfl⟩
  rw [← eR2] at qR2
  have lR2 : R2 < P25519 := by rw [eR2]; exact mod_lt_P _
  have qR3 := f32 lT lT true true
  obtain ⟨R3, eR3⟩ : ∃ R3, R3 = T * T % P25519 := ⟨_, rfl⟩
  rw [← eR3] at qR3
  have lR3 : R3 < P25519 := by rw [eR3]; exact mod_lt_P _
  have qSS := f32 lS lS true true
  obtain ⟨SS, eSS⟩ : ∃ SS, SS = S * S % P25519 := ⟨_, rfl⟩
  rw [← eSS] at qSS
  have lSS : SS < P25519 := by rw [eSS]; exact mod_lt_P _
  have qR4 := f32 hu lSS true true
  obtain ⟨R4, eR4⟩ : ∃ R4, R4 = u * SS % P25519 := ⟨_, rfl⟩
  rw [← eR4] at qR4
  have lR4 : R4 < P25519 := by rw [eR4]; exact mod_lt_P _
  have hl : lad u x2 z2 x3 z3 = (R1, R2, R3, R4) := by
    subst eR4
    subst eSS
    subst eR3
    subst eR2
    subst eR1
    subst eF
    subst eEK
    subst eS
    subst eT
    subst eE
    subst eBB
    subst eAA
    subst eCB
    subst eC
    subst eDA
    subst eD
    subst eB
    subst eA
    rfl
  rw [hl]
  dsimp only
  clear hl eR4 eSS eR3 eR2 eR1 eF eEK eK eS eT eE eBB eAA eCB eC eDA eD eB eA
  refine scall_of ttOk (by kernel_rfl : Try.prog.funcs[132]? = some Try.f132) rfl rfl rfl ?_
  try simp only [List.length_cons, List.length_nil, Nat.zero_add, Nat.reduceAdd]
  refine sw_ok ttOk mixed (by kernel_rfl) ?_
  conv => whnf
  repeat (first | (refine Exists.intro _ (And.intro rfl ?_); conv => whnf) | (refine And.intro (by first | omega | fail) ?_; conv => whnf) | fail)
  refine ok1_callF [2, 3] [false, false, true] false (qA) rfl rfl ⟨⟨rfl, by first | rfl | fail⟩, by (repeat' (first | exact trivial | refine And.intro ?_ ?_)) <;> first | exact ren_eq (by first | (simp; done) | fail) (by first | rfl | fail) | fail, by first | simp [plainHf, plainB], by first | rfl | fail, ?_⟩
  conv => whnf
  repeat (first | (refine Exists.intro _ (And.intro rfl ?_); conv => whnf) | (refine And.intro (by first | omega | fail) ?_; conv => whnf) | (refine And.intro (by kernel_rfl) ?_; conv => whnf) | fail)
  refine ok1_callF [2, 3] [false, false, true] false (qB) rfl rfl ⟨⟨rfl, by first | rfl | fail⟩, by (repeat' (first | exact trivial | refine And.intro ?_ ?_)) <;> first | exact ren_eq (by first | (simp; done) | fail) (by first | rfl | fail) | fail, by first | simp [plainHf, plainB], by first | rfl | fail, ?_⟩
  conv => whnf
  repeat (first | (refine Exists.intro _ (And.intro rfl ?_); conv => whnf) | (refine And.intro (by first | omega | fail) ?_; conv => whnf) | (refine And.intro (by kernel_rfl) ?_; conv => whnf) | fail)
  refine ok1_callF [4, 5] [false, false, true] false (qD) rfl rfl ⟨⟨rfl, by first | rfl | fail⟩, by (repeat' (first | exact trivial | refine And.intro ?_ ?_)) <;> first | exact ren_eq (by first | (simp; done) | fail) (by first | rfl | fail) | fail, by first | simp [plainHf, plainB], by first | rfl | fail, ?_⟩
  conv => whnf
  repeat (fail)
  refine ok1_callF [8, 6] [false, false, true] false (qDA) rfl rfl ⟨⟨rfl, by first | rfl | fail⟩, by (repeat' (first | exact trivial | refine And.intro ?_ ?_)) <;> first | exact ren_eq (by first | (simp; done) | fail) (by first | rfl | fail) | fail, by first | simp [plainHf, plainB], by first | rfl | fail, ?_⟩
  conv => whnf
  repeat (first | (refine Exists.intro _ (And.intro rfl ?_); conv => whnf) | (refine And.intro (by first | omega | fail) ?_; conv => whnf) | (refine And.intro (by kernel_rfl) ?_; conv => whnf) | fail)
  refine ok1_callF [4, 5] [false, false, true] false (qC) rfl rfl ⟨⟨rfl, by first | rfl | fail⟩, by (repeat' (first | exact trivial | refine And.intro ?_ ?_)) <;> first | exact ren_eq (by first | (simp; done) | fail) (by first | rfl | fail) | fail, by first | simp [plainHf, plainB], by first | rfl | fail, ?_⟩
  conv => whnf
  repeat (fail)
  refine ok1_callF [10, 7] [false, false, true] false (qCB) rfl rfl ⟨⟨rfl, by first | rfl | fail⟩, by (repeat' (first | exact trivial | refine And.intro ?_ ?_)) <;> first | exact ren_eq (by first | (simp; done) | fail) (by first | rfl | fail) | fail, by first | simp [plainHf, plainB], by first | rfl | fail, ?_⟩
  conv => whnf
  repeat (first | (refine And.intro (by kernel_rfl) ?_; conv => whnf) | fail)
  refine ok1_callF [6, 6] [false, false, true] false (qAA) rfl rfl ⟨⟨rfl, by first | rfl | fail⟩, by (repeat' (first | exact trivial | refine And.intro ?_ ?_)) <;> first | exact ren_eq (by first | (simp; done) | fail) (by first | rfl | fail) | fail, by first | simp [plainHf, plainB], by first | rfl | fail, ?_⟩
  conv => whnf
  repeat (fail)
  refine ok1_callF [7, 7] [false, false, true] false (qBB) rfl rfl ⟨⟨rfl, by first | rfl | fail⟩, by (repeat' (first | exact trivial | refine And.intro ?_ ?_)) <;> first | exact ren_eq (by first | (simp; done) | fail) (by first | rfl | fail) | fail, by first | simp [plainHf, plainB], by first | rfl | fail, ?_⟩
  conv => whnf
  repeat (fail)
  refine ok1_callF [12, 13] [false, false, true] false (qE) rfl rfl ⟨⟨rfl, by first | rfl | fail⟩, by (repeat' (first | exact trivial | refine And.intro ?_ ?_)) <;> first | exact ren_eq (by first | (simp; done) | fail) (by first | rfl | fail) | fail, by first | simp [plainHf, plainB], by first | rfl | fail, ?_⟩
  conv => whnf
  repeat (fail)
  refine ok1_callF [9, 11] [false, false, true] false (qT) rfl rfl ⟨⟨rfl, by first | rfl | fail⟩, by (repeat' (first | exact trivial | refine And.intro ?_ ?_)) <;> first | exact ren_eq (by first | (simp; done) | fail) (by first | rfl | fail) | fail, by first | simp [plainHf, plainB], by first | rfl | fail, ?_⟩
  conv => whnf
  repeat (fail)
  refine ok1_callF [9, 11] [false, false, true] false (qS) rfl rfl ⟨⟨rfl, by first | rfl | fail⟩, by (repeat' (first | exact trivial | refine And.intro ?_ ?_)) <;> first | exact ren_eq (by first | (simp; done) | fail) (by first | rfl | fail) | fail, by first | simp [plainHf, plainB], by first | rfl | fail, ?_⟩
  conv => whnf
  repeat (fail)
  refine ok1_callF [] [true] false (qK) rfl rfl ⟨⟨rfl, by first | rfl | fail⟩, trivial, by first | simp [plainHf, plainB], by first | rfl | fail, ?_⟩
  conv => whnf
  repeat (fail)
  refine ok1_callF [14, 17] [false, false, true] false (qEK) rfl rfl ⟨⟨rfl, by first | rfl | fail⟩, by (repeat' (first | exact trivial | refine And.intro ?_ ?_)) <;> first | exact ren_eq (by first | (simp; done) | fail) (by first | rfl | fail) | fail, by first | simp [plainHf, plainB], by first | rfl | fail, ?_⟩
  conv => whnf
  repeat (fail)
  refine ok1_callF [12, 18] [false, false, true] false (qF) rfl rfl ⟨⟨rfl, by first | rfl | fail⟩, by (repeat' (first | exact trivial | refine And.intro ?_ ?_)) <;> first | exact ren_eq (by first | (simp; done) | fail) (by first | rfl | fail) | fail, by first | simp [plainHf, plainB], by first | rfl | fail, ?_⟩
  conv => whnf
  repeat (fail)
  refine ok1_callF [12, 13] [false, false, true] false (qR1) rfl rfl ⟨⟨rfl, by first | rfl | fail⟩, by (repeat' (first | exact trivial | refine And.intro ?_ ?_)) <;> first | exact ren_eq (by first | (simp; done) | fail) (by first | rfl | fail) | fail, by first | simp [plainHf, plainB], by first | rfl | fail, ?_⟩
  conv => whnf
  repeat (fail)
  refine ok1_callF [14, 19] [false, false, true] false (qR2) rfl rfl ⟨⟨rfl, by first | rfl | fail⟩, by (repeat' (first | exact trivial | refine And.intro ?_ ?_)) <;> first | exact ren_eq (by first | (simp; done) | fail) (by first | rfl | fail) | fail, by first | simp [plainHf, plainB], by first | rfl | fail, ?_⟩
  conv => whnf
  repeat (fail)
  refine ok1_callF [15, 15] [false, false, true] false (qR3) rfl rfl ⟨⟨rfl, by first | rfl | fail⟩, by (repeat' (first | exact trivial | refine And.intro ?_ ?_)) <;> first | exact ren_eq (by first | (simp; done) | fail) (by first | rfl | fail) | fail, by first | simp [plainHf, plainB], by first | rfl | fail, ?_⟩
  conv => whnf
  repeat (fail)
  refine ok1_callF [16, 16] [false, false, true] false (qSS) rfl rfl ⟨⟨rfl, by first | rfl | fail⟩, by (repeat' (first | exact trivial | refine And.intro ?_ ?_)) <;> first | exact ren_eq (by first | (simp; done) | fail) (by first | rfl | fail) | fail, by first | simp [plainHf, plainB], by first | rfl | fail, ?_⟩
  conv => whnf
  repeat (fail)
  refine ok1_callF [0, 23] [false, false, true] false (qR4) rfl rfl ⟨⟨rfl, by first | rfl | fail⟩, by (repeat' (first | exact trivial | refine And.intro ?_ ?_)) <;> first | exact ren_eq (by first | (simp; done) | fail) (by first | rfl | fail) | fail, by first | simp [plainHf, plainB], by first | rfl | fail, ?_⟩
  conv => whnf
  repeat (first | (refine Exists.intro _ (And.intro rfl ?_); conv => whnf) | fail)
  refine ⟨[0, 1, 2, 3, 4, 5, 25, 20, 21, 22, 24], ?_, rfl, rfl, ?_, rfl⟩
  · (repeat' (fail)) <;> first | rfl | fail
  · (repeat' (first | exact trivial | refine And.intro ?_ ?_ | (refine wk_cons ?_ ?_))) <;> first | rfl | exact ren_eq (by first | (simp; done) | fail) (by first | rfl | fail) | fail
end Go.Sh
/- curve: one rung, as the program's lists: step (f130), walked. -/
namespace Go.Sh
open Go.Proofs
set_option maxHeartbeats 8000000
set_option linter.unusedSimpArgs false
set_option linter.unusedVariables false

def ladL (u x2 z2 x3 z3 : List UInt64) : List UInt64 × List UInt64 × List UInt64 × List UInt64 :=
  let A := addL x2 z2
  let B := subL x2 z2
  let C := addL x3 z3
  let D := subL x3 z3
  let AA := mulL A A
  let BB := mulL B B
  let DA := mulL D A
  let CB := mulL C B
  let E := subL AA BB
  let T := addL DA CB
  let S := subL DA CB
  let SS := mulL S S
  let K := smallL 121665
  let EK := mulL E K
  let F := addL AA EK
  (mulL AA BB, mulL E F, mulL T T, mulL u SS)
theorem ladL_ok {u x2 z2 x3 z3 : List UInt64} (hu : Nm u) (h2 : Nm x2) (k2 : Nm z2) (h3 : Nm x3) (k3 : Nm z3) : Nm (ladL u x2 z2 x3 z3).1 ∧ Nm (ladL u x2 z2 x3 z3).2.1 ∧ Nm (ladL u x2 z2 x3 z3).2.2.1 ∧ Nm (ladL u x2 z2 x3 z3).2.2.2 ∧
    lad (nr u) (nr x2) (nr z2) (nr x3) (nr z3) = (nr (ladL u x2 z2 x3 z3).1, nr (ladL u x2 z2 x3 z3).2.1, nr (ladL u x2 z2 x3 z3).2.2.1, nr (ladL u x2 z2 x3 z3).2.2.2) := by
  obtain ⟨nA, vA⟩ := addL_ok h2 k2
  obtain ⟨A, eA⟩ : ∃ A, A = addL x2 z2 := ⟨_, rfl⟩
  rw [← eA] at nA vA
  obtain ⟨nB, vB⟩ := subL_ok h2 k2
  obtain ⟨B, eB⟩ : ∃ B, B = subL x2 z2 := ⟨_, rfl⟩
  rw [← eB] at nB vB
  obtain ⟨nC, vC⟩ := addL_ok h3 k3
  obtain ⟨C, eC⟩ : ∃ C, C = addL x3 z3 := ⟨_, rfl⟩
  rw [← eC] at nC vC
  obtain ⟨nD, vD⟩ := subL_ok h3 k3
  obtain ⟨D, eD⟩ : ∃ D, D = subL x3 z3 := ⟨_, rfl⟩
  rw [← eD] at nD vD
  obtain ⟨nAA, vAA⟩ := mulL_ok nA nA
  obtain ⟨AA, eAA⟩ : ∃ AA, AA = mulL A A := ⟨_, rfl⟩
  rw [← eAA] at nAA vAA
  obtain ⟨nBB, vBB⟩ := mulL_ok nB nB
  obtain ⟨BB, eBB⟩ : ∃ BB, BB = mulL B B := ⟨_, rfl⟩
  rw [← eBB] at nBB vBB
  obtain ⟨nDA, vDA⟩ := mulL_ok nD nA
  obtain ⟨DA, eDA⟩ : ∃ DA, DA = mulL D A := ⟨_, rfl⟩
  rw [← eDA] at nDA vDA
  obtain ⟨nCB, vCB⟩ := mulL_ok nC nB
  obtain ⟨CB, eCB⟩ : ∃ CB, CB = mulL C B := ⟨_, rfl⟩
  rw [← eCB] at nCB vCB
  obtain ⟨nE, vE⟩ := subL_ok nAA nBB
  obtain ⟨E, eE⟩ : ∃ E, E = subL AA BB := ⟨_, rfl⟩
  rw [← eE] at nE vE
  obtain ⟨nT, vT⟩ := addL_ok nDA nCB
  obtain ⟨T, eT⟩ : ∃ T, T = addL DA CB := ⟨_, rfl⟩
  rw [← eT] at nT vT
  obtain ⟨nS, vS⟩ := subL_ok nDA nCB
  obtain ⟨S, eS⟩ : ∃ S, S = subL DA CB := ⟨_, rfl⟩
  rw [← eS] at nS vS
  obtain ⟨nR3, vR3⟩ := mulL_ok nT nT
  obtain ⟨R3, eR3⟩ : ∃ R3, R3 = mulL T T := ⟨_, rfl⟩
  rw [← eR3] at nR3 vR3
  obtain ⟨nSS, vSS⟩ := mulL_ok nS nS
  obtain ⟨SS, eSS⟩ : ∃ SS, SS = mulL S S := ⟨_, rfl⟩
  rw [← eSS] at nSS vSS
  obtain ⟨nR4, vR4⟩ := mulL_ok hu nSS
  obtain ⟨R4, eR4⟩ : ∃ R4, R4 = mulL u SS := ⟨_, rfl⟩
  rw [← eR4] at nR4 vR4
  obtain ⟨nR1, vR1⟩ := mulL_ok nAA nBB
  obtain ⟨R1, eR1⟩ : ∃ R1, R1 = mulL AA BB := ⟨_, rfl⟩
  rw [← eR1] at nR1 vR1
  obtain ⟨nK, vK⟩ := Nm_small 121665
  have eK : (121665 : UInt32).toNat = 121665 := rfl
  rw [eK] at vK
  obtain ⟨K, eK2⟩ : ∃ K, K = smallL 121665 := ⟨_, rfl⟩
  rw [← eK2] at nK vK
  obtain ⟨nEK, vEK⟩ := mulL_ok nE nK
  obtain ⟨EK, eEK⟩ : ∃ EK, EK = mulL E K := ⟨_, rfl⟩
  rw [← eEK] at nEK vEK
  obtain ⟨nF, vF⟩ := addL_ok nAA nEK
  obtain ⟨F, eF⟩ : ∃ F, F = addL AA EK := ⟨_, rfl⟩
  rw [← eF] at nF vF
  obtain ⟨nR2, vR2⟩ := mulL_ok nE nF
  obtain ⟨R2, eR2⟩ : ∃ R2, R2 = mulL E F := ⟨_, rfl⟩
  rw [← eR2] at nR2 vR2
  have hl : ladL u x2 z2 x3 z3 = (R1, R2, R3, R4) := by
    subst eR2
    subst eF
    subst eEK
    subst eK2
    subst eR1
    subst eR4
    subst eSS
    subst eR3
    subst eS
    subst eT
    subst eE
    subst eCB
    subst eDA
    subst eBB
    subst eAA
    subst eD
    subst eC
    subst eB
    subst eA
    rfl
  rw [hl]
  refine ⟨nR1, nR2, nR3, nR4, ?_⟩
  dsimp only
  rw [vR1, vR2, vR3, vR4, vSS, vF, vEK, vK, vS, vT, vE, vBB, vAA, vCB, vC, vDA, vD, vB, vA]
  rfl
theorem fill2 {X Y : List UInt64} (hX : X.length = 5) (hY : Y.length = 5) : sfill (fun i => (List.map (fun f => (f.fst, f.snd.snd)) [(0, 28, 5), (5, 28, 5)])[i]?) (SV.agg (List.replicate 10 (SV.u64 0))).cells [(0, SV.agg (X.map .u64)), (1, SV.agg (Y.map .u64))] = some (X.map .u64 ++ Y.map .u64) := by
  obtain ⟨a0, a1, a2, a3, a4, rfl⟩ := ex5 hX
  obtain ⟨b0, b1, b2, b3, b4, rfl⟩ := ex5 hY
  rfl
attribute [local irreducible] addL subL mulL smallL
theorem f130 {u x2 z2 x3 z3 : List UInt64} (hu : u.length = 5) (h2 : x2.length = 5) (k2 : z2.length = 5) (h3 : x3.length = 5) (k3 : z3.length = 5) : SCall Try.prog 130 [.agg (u.map .u64), .p 0 0, .p 1 0] [some (.box (x2.map .u64 ++ z2.map .u64)), some (.box (x3.map .u64 ++ z3.map .u64))] (.tup []) [some (.box ((ladL u x2 z2 x3 z3).1.map .u64 ++ (ladL u x2 z2 x3 z3).2.1.map .u64)), some (.box ((ladL u x2 z2 x3 z3).2.2.1.map .u64 ++ (ladL u x2 z2 x3 z3).2.2.2.map .u64))] := by
  have qA := f26 h2 k2
  have lA := addL_len x2 z2
  obtain ⟨A, eA⟩ : ∃ A, A = addL x2 z2 := ⟨_, rfl⟩
  rw [← eA] at qA lA
  have qB := f27 h2 k2
  have lB := subL_len x2 z2
  obtain ⟨B, eB⟩ : ∃ B, B = subL x2 z2 := ⟨_, rfl⟩
  rw [← eB] at qB lB
  have qC := f26 h3 k3
  have lC := addL_len x3 z3
  obtain ⟨C, eC⟩ : ∃ C, C = addL x3 z3 := ⟨_, rfl⟩
  rw [← eC] at qC lC
  have qD := f27 h3 k3
  have lD := subL_len x3 z3
  obtain ⟨D, eD⟩ : ∃ D, D = subL x3 z3 := ⟨_, rfl⟩
  rw [← eD] at qD lD
  have qAA := f28 lA lA
  have lAA := mulL_len A A
  obtain ⟨AA, eAA⟩ : ∃ AA, AA = mulL A A := ⟨_, rfl⟩
  rw [← eAA] at qAA lAA
  have qBB := f28 lB lB
  have lBB := mulL_len B B
  obtain ⟨BB, eBB⟩ : ∃ BB, BB = mulL B B := ⟨_, rfl⟩
  rw [← eBB] at qBB lBB
  have qDA := f28 lD lA
  have lDA := mulL_len D A
  obtain ⟨DA, eDA⟩ : ∃ DA, DA = mulL D A := ⟨_, rfl⟩
  rw [← eDA] at qDA lDA
  have qCB := f28 lC lB
  have lCB := mulL_len C B
  obtain ⟨CB, eCB⟩ : ∃ CB, CB = mulL C B := ⟨_, rfl⟩
  rw [← eCB] at qCB lCB
  have qE := f27 lAA lBB
  have lE := subL_len AA BB
  obtain ⟨E, eE⟩ : ∃ E, E = subL AA BB := ⟨_, rfl⟩
  rw [← eE] at qE lE
  have qT := f26 lDA lCB
  have lT := addL_len DA CB
  obtain ⟨T, eT⟩ : ∃ T, T = addL DA CB := ⟨_, rfl⟩
  rw [← eT] at qT lT
  have qS := f27 lDA lCB
  have lS := subL_len DA CB
  obtain ⟨S, eS⟩ : ∃ S, S = subL DA CB := ⟨_, rfl⟩
  rw [← eS] at qS lS
  have qR3 := f28 lT lT
  have lR3 := mulL_len T T
  obtain ⟨R3, eR3⟩ : ∃ R3, R3 = mulL T T := ⟨_, rfl⟩
  rw [← eR3] at qR3 lR3
  have qSS := f28 lS lS
  have lSS := mulL_len S S
  obtain ⟨SS, eSS⟩ : ∃ SS, SS = mulL S S := ⟨_, rfl⟩
  rw [← eSS] at qSS lSS
  have qR4 := f28 hu lSS
  have lR4 := mulL_len u SS
  obtain ⟨R4, eR4⟩ : ∃ R4, R4 = mulL u SS := ⟨_, rfl⟩
  rw [← eR4] at qR4 lR4
  have qR1 := f28 lAA lBB
  have lR1 := mulL_len AA BB
  obtain ⟨R1, eR1⟩ : ∃ R1, R1 = mulL AA BB := ⟨_, rfl⟩
  rw [← eR1] at qR1 lR1
  have qK := f22 121665
  have lK := smallL_len 121665
  obtain ⟨K, eK2⟩ : ∃ K, K = smallL 121665 := ⟨_, rfl⟩
  rw [← eK2] at qK lK
  have qEK := f28 lE lK
  have lEK := mulL_len E K
  obtain ⟨EK, eEK⟩ : ∃ EK, EK = mulL E K := ⟨_, rfl⟩
  rw [← eEK] at qEK lEK
  have qF := f26 lAA lEK
  have lF := addL_len AA EK
  obtain ⟨F, eF⟩ : ∃ F, F = addL AA EK := ⟨_, rfl⟩
  rw [← eF] at qF lF
  have qR2 := f28 lE lF
  have lR2 := mulL_len E F
  obtain ⟨R2, eR2⟩ : ∃ R2, R2 = mulL E F := ⟨_, rfl⟩
  rw [← eR2] at qR2 lR2
  have hl : ladL u x2 z2 x3 z3 = (R1, R2, R3, R4) := by
    subst eR2
    subst eF
    subst eEK
    subst eK2
    subst eR1
    subst eR4
    subst eSS
    subst eR3
    subst eS
    subst eT
    subst eE
    subst eCB
    subst eDA
    subst eBB
    subst eAA
    subst eD
    subst eC
    subst eB
    subst eA
    rfl
  rw [hl]
  dsimp only
  clear hl eR2 eF eEK eK2 eR1 eR4 eSS eR3 eS eT eE eCB eDA eBB eAA eD eC eB eA
  obtain ⟨a0, a1, a2, a3, a4, rfl⟩ := ex5 h2
  obtain ⟨b0, b1, b2, b3, b4, rfl⟩ := ex5 k2
  obtain ⟨c0, c1, c2, c3, c4, rfl⟩ := ex5 h3
  obtain ⟨d0, d1, d2, d3, d4, rfl⟩ := ex5 k3
  refine scall_of ttOk (by kernel_rfl : Try.prog.funcs[130]? = some Try.f130) rfl rfl rfl ?_
  try simp only [List.length_cons, List.length_nil, Nat.zero_add, Nat.reduceAdd]
  refine sw_ok ttOk mixed (by kernel_rfl) ?_
  conv => whnf
  repeat (first | (refine Exists.intro _ (And.intro rfl ?_); conv => whnf) | fail)
  refine ok1_callF [] [] true (qA) rfl rfl ⟨⟨rfl, by first | rfl | fail⟩, trivial, by first | rfl | fail, by first | simp [plainRf, plainR, plainT, plainW], ?_⟩
  conv => whnf
  repeat (first | (refine Exists.intro _ (And.intro rfl ?_); conv => whnf) | fail)
  refine ok1_callF [] [] true (qB) rfl rfl ⟨⟨rfl, by first | rfl | fail⟩, trivial, by first | rfl | fail, by first | simp [plainRf, plainR, plainT, plainW], ?_⟩
  conv => whnf
  repeat (first | (refine Exists.intro _ (And.intro rfl ?_); conv => whnf) | fail)
  refine ok1_callF [] [] true (qC) rfl rfl ⟨⟨rfl, by first | rfl | fail⟩, trivial, by first | rfl | fail, by first | simp [plainRf, plainR, plainT, plainW], ?_⟩
  conv => whnf
  repeat (first | (refine Exists.intro _ (And.intro rfl ?_); conv => whnf) | fail)
  refine ok1_callF [] [] true (qD) rfl rfl ⟨⟨rfl, by first | rfl | fail⟩, trivial, by first | rfl | fail, by first | simp [plainRf, plainR, plainT, plainW], ?_⟩
  conv => whnf
  repeat (first | (refine Exists.intro _ (And.intro (sload_all rfl (by first | rfl | (simp [hu, lA, lB, lC, lD]; done) | fail)) ?_); conv => whnf) | (refine Exists.intro _ (And.intro (sput_all rfl (by first | rfl | (simp [hu, lA, lB, lC, lD]; done) | fail)) ?_); conv => whnf) | (refine And.intro (by first | omega | (simp; omega) | fail) ?_; conv => whnf) | (refine And.intro (by kernel_rfl) ?_; conv => whnf) | fail)
  refine ok1_callF [] [] true (qAA) rfl rfl ⟨⟨rfl, by first | ((repeat' (first | exact wk_nil | exact ren_m64 rfl | (refine wk_agg ?_) | (refine wk_cons ?_ ?_))); done) | fail⟩, trivial, by first | rfl | fail, by first | simp [plainRf, plainR, plainT, plainW], ?_⟩
  conv => whnf
  repeat (first | (refine Exists.intro _ (And.intro (sload_all rfl (by first | rfl | (simp [hu, lA, lB, lC, lD, lAA]; done) | fail)) ?_); conv => whnf) | fail)
  refine ok1_callF [] [] true (qBB) rfl rfl ⟨⟨rfl, by first | ((repeat' (first | exact wk_nil | exact ren_m64 rfl | (refine wk_agg ?_) | (refine wk_cons ?_ ?_))); done) | fail⟩, trivial, by first | rfl | fail, by first | simp [plainRf, plainR, plainT, plainW], ?_⟩
  conv => whnf
  repeat (first | (refine Exists.intro _ (And.intro (sload_all rfl (by first | rfl | (simp [hu, lA, lB, lC, lD, lAA, lBB]; done) | fail)) ?_); conv => whnf) | fail)
  refine ok1_callF [] [] true (qDA) rfl rfl ⟨⟨rfl, by first | ((repeat' (first | exact wk_nil | exact ren_m64 rfl | (refine wk_agg ?_) | (refine wk_cons ?_ ?_))); done) | fail⟩, trivial, by first | rfl | fail, by first | simp [plainRf, plainR, plainT, plainW], ?_⟩
  conv => whnf
  repeat (first | (refine Exists.intro _ (And.intro (sload_all rfl (by first | rfl | (simp [hu, lA, lB, lC, lD, lAA, lBB, lDA]; done) | fail)) ?_); conv => whnf) | fail)
  refine ok1_callF [] [] true (qCB) rfl rfl ⟨⟨rfl, by first | ((repeat' (first | exact wk_nil | exact ren_m64 rfl | (refine wk_agg ?_) | (refine wk_cons ?_ ?_))); done) | fail⟩, trivial, by first | rfl | fail, by first | simp [plainRf, plainR, plainT, plainW], ?_⟩
  conv => whnf
  repeat (first | (refine Exists.intro _ (And.intro (sload_all rfl (by first | rfl | (simp [hu, lA, lB, lC, lD, lAA, lBB, lDA, lCB]; done) | fail)) ?_); conv => whnf) | (refine Exists.intro _ (And.intro (sput_all rfl (by first | rfl | (simp [hu, lA, lB, lC, lD, lAA, lBB, lDA, lCB]; done) | fail)) ?_); conv => whnf) | (refine And.intro (by first | omega | (simp; omega) | fail) ?_; conv => whnf) | (refine And.intro (by kernel_rfl) ?_; conv => whnf) | fail)
  refine ok1_callF [] [] true (qE) rfl rfl ⟨⟨rfl, by first | ((repeat' (first | exact wk_nil | exact ren_m64 rfl | (refine wk_agg ?_) | (refine wk_cons ?_ ?_))); done) | fail⟩, trivial, by first | rfl | fail, by first | simp [plainRf, plainR, plainT, plainW], ?_⟩
  conv => whnf
  repeat (first | (refine Exists.intro _ (And.intro (sload_all rfl (by first | rfl | (simp [hu, lA, lB, lC, lD, lAA, lBB, lDA, lCB, lE]; done) | fail)) ?_); conv => whnf) | (refine Exists.intro _ (And.intro (sput_all rfl (by first | rfl | (simp [hu, lA, lB, lC, lD, lAA, lBB, lDA, lCB, lE]; done) | fail)) ?_); conv => whnf) | (refine And.intro (by first | omega | (simp; omega) | fail) ?_; conv => whnf) | fail)
  refine ok1_callF [] [] true (qT) rfl rfl ⟨⟨rfl, by first | ((repeat' (first | exact wk_nil | exact ren_m64 rfl | (refine wk_agg ?_) | (refine wk_cons ?_ ?_))); done) | fail⟩, trivial, by first | rfl | fail, by first | simp [plainRf, plainR, plainT, plainW], ?_⟩
  conv => whnf
  repeat (first | (refine Exists.intro _ (And.intro (sload_all rfl (by first | rfl | (simp [hu, lA, lB, lC, lD, lAA, lBB, lDA, lCB, lE, lT]; done) | fail)) ?_); conv => whnf) | fail)
  refine ok1_callF [] [] true (qS) rfl rfl ⟨⟨rfl, by first | ((repeat' (first | exact wk_nil | exact ren_m64 rfl | (refine wk_agg ?_) | (refine wk_cons ?_ ?_))); done) | fail⟩, trivial, by first | rfl | fail, by first | simp [plainRf, plainR, plainT, plainW], ?_⟩
  conv => whnf
  repeat (first | (refine Exists.intro _ (And.intro (sload_all rfl (by first | rfl | (simp [hu, lA, lB, lC, lD, lAA, lBB, lDA, lCB, lE, lT, lS]; done) | fail)) ?_); conv => whnf) | (refine Exists.intro _ (And.intro (sput_all rfl (by first | rfl | (simp [hu, lA, lB, lC, lD, lAA, lBB, lDA, lCB, lE, lT, lS]; done) | fail)) ?_); conv => whnf) | (refine And.intro (by first | omega | (simp; omega) | fail) ?_; conv => whnf) | (refine And.intro (by kernel_rfl) ?_; conv => whnf) | fail)
  refine ok1_callF [] [] true (qR3) rfl rfl ⟨⟨rfl, by first | ((repeat' (first | exact wk_nil | exact ren_m64 rfl | (refine wk_agg ?_) | (refine wk_cons ?_ ?_))); done) | fail⟩, trivial, by first | rfl | fail, by first | simp [plainRf, plainR, plainT, plainW], ?_⟩
  conv => whnf
  repeat (first | (refine Exists.intro _ (And.intro (sload_all rfl (by first | rfl | (simp [hu, lA, lB, lC, lD, lAA, lBB, lDA, lCB, lE, lT, lS, lR3]; done) | fail)) ?_); conv => whnf) | fail)
  refine ok1_callF [] [] true (qSS) rfl rfl ⟨⟨rfl, by first | ((repeat' (first | exact wk_nil | exact ren_m64 rfl | (refine wk_agg ?_) | (refine wk_cons ?_ ?_))); done) | fail⟩, trivial, by first | rfl | fail, by first | simp [plainRf, plainR, plainT, plainW], ?_⟩
  conv => whnf
  repeat (fail)
  refine ok1_callF [] [] true (qR4) rfl rfl ⟨⟨rfl, by first | ((repeat' (first | exact wk_nil | exact ren_m64 rfl | (refine wk_agg ?_) | (refine wk_cons ?_ ?_))); done) | fail⟩, trivial, by first | rfl | fail, by first | simp [plainRf, plainR, plainT, plainW], ?_⟩
  conv => whnf
  repeat (fail)
  refine ⟨_, fill2 lR3 lR4, ?_⟩
  conv => whnf
  repeat (first | (refine Exists.intro _ (And.intro (sload_all rfl (by first | rfl | (simp [hu, lA, lB, lC, lD, lAA, lBB, lDA, lCB, lE, lT, lS, lR3, lSS, lR4]; done) | fail)) ?_); conv => whnf) | (refine Exists.intro _ (And.intro (sput_all rfl (by first | rfl | (simp [hu, lA, lB, lC, lD, lAA, lBB, lDA, lCB, lE, lT, lS, lR3, lSS, lR4]; done) | fail)) ?_); conv => whnf) | (refine And.intro (by first | omega | (simp; omega) | fail) ?_; conv => whnf) | (refine And.intro (by kernel_rfl) ?_; conv => whnf) | fail)
  refine ok1_callF [] [] true (qR1) rfl rfl ⟨⟨rfl, by first | ((repeat' (first | exact wk_nil | exact ren_m64 rfl | (refine wk_agg ?_) | (refine wk_cons ?_ ?_))); done) | fail⟩, trivial, by first | rfl | fail, by first | simp [plainRf, plainR, plainT, plainW], ?_⟩
  conv => whnf
  repeat (first | (refine Exists.intro _ (And.intro (sload_all rfl (by first | rfl | (simp [hu, lA, lB, lC, lD, lAA, lBB, lDA, lCB, lE, lT, lS, lR3, lSS, lR4, lR1]; done) | fail)) ?_); conv => whnf) | fail)
  refine ok1_callF [] [] true (qK) rfl rfl ⟨⟨rfl, by first | rfl | fail⟩, trivial, by first | rfl | fail, by first | simp [plainRf, plainR, plainT, plainW], ?_⟩
  conv => whnf
  repeat (fail)
  refine ok1_callF [] [] true (qEK) rfl rfl ⟨⟨rfl, by first | ((repeat' (first | exact wk_nil | exact ren_m64 rfl | (refine wk_agg ?_) | (refine wk_cons ?_ ?_))); done) | fail⟩, trivial, by first | rfl | fail, by first | simp [plainRf, plainR, plainT, plainW], ?_⟩
  conv => whnf
  repeat (fail)
  refine ok1_callF [] [] true (qF) rfl rfl ⟨⟨rfl, by first | ((repeat' (first | exact wk_nil | exact ren_m64 rfl | (refine wk_agg ?_) | (refine wk_cons ?_ ?_))); done) | fail⟩, trivial, by first | rfl | fail, by first | simp [plainRf, plainR, plainT, plainW], ?_⟩
  conv => whnf
  repeat (fail)
  refine ok1_callF [] [] true (qR2) rfl rfl ⟨⟨rfl, by first | ((repeat' (first | exact wk_nil | exact ren_m64 rfl | (refine wk_agg ?_) | (refine wk_cons ?_ ?_))); done) | fail⟩, trivial, by first | rfl | fail, by first | simp [plainRf, plainR, plainT, plainW], ?_⟩
  conv => whnf
  repeat (fail)
  refine ⟨_, fill2 lR1 lR2, ?_⟩
  conv => whnf
  repeat (first | (refine Exists.intro _ (And.intro (sput_all rfl (by first | rfl | (simp [hu, lA, lB, lC, lD, lAA, lBB, lDA, lCB, lE, lT, lS, lR3, lSS, lR4, lR1, lK, lEK, lF, lR2]; done) | fail)) ?_); conv => whnf) | (refine And.intro (by first | omega | (simp; omega) | fail) ?_; conv => whnf) | (refine And.intro (by kernel_rfl) ?_; conv => whnf) | fail)
  refine ⟨[0, 1], ?_, rfl, rfl, ?_, rfl⟩
  · (repeat' (first | (refine wk_tup ?_) | fail)) <;> first | rfl | fail
  · (repeat' (first | exact trivial | refine And.intro ?_ ?_ | fail)) <;> first | exact ren_eq (by first | (simp; done) | fail) (by first | rfl | fail) | fail
end Go.Sh
/- curve: the reference's bit (f131), walked. -/
namespace Go.Sh
open Go.Proofs
set_option maxHeartbeats 8000000
set_option linter.unusedSimpArgs false
set_option linter.unusedVariables false

/-- Bit i of so many bytes. -/
def bitN (b : List UInt8) (i : Nat) : Nat := (b.getD (i / 8) 0).toNat / 2 ^ (i % 8) % 2
theorem t8 (i : Nat) (h : i < 256) : (i : Int).tmod 8 = ((i % 8 : Nat) : Int) ∧ w64 ((i : Int).tdiv 8) = ((i / 8 : Nat) : Int) ∧ (i : Int).tmod 2 = ((i % 2 : Nat) : Int) ∧ w64 ((i : Int).tdiv 2) = ((i / 2 : Nat) : Int) := by
  have : ∀ i : Nat, i < 256 → (i : Int).tmod 8 = ((i % 8 : Nat) : Int) ∧ w64 ((i : Int).tdiv 8) = ((i / 8 : Nat) : Int) ∧ (i : Int).tmod 2 = ((i % 2 : Nat) : Int) ∧ w64 ((i : Int).tdiv 2) = ((i / 2 : Nat) : Int) := by decide +kernel
  exact this i h
theorem f131 (b : List UInt8) (hb : b.length = 32) (i : Nat) (hi : i < 256) (f : Bool) : SCall Try.prog 131 [.sl 0 0 32 1 f, .i (i : Int)] [some (.ro (b.map .u8))] (.i (bitN b i : Nat)) [some (.ro (b.map .u8))] := by
  obtain ⟨h1, h2, -, -⟩ := t8 i hi
  have hi8 : i / 8 < 32 := by omega
  obtain ⟨r0, hr0⟩ : ∃ r, r = (b.getD (i / 8) 0).toNat := ⟨_, rfl⟩
  have hr : r0 < 256 := by rw [hr0]; exact UInt8.toNat_lt _
  have hbit : bitN b i = r0 / 2 ^ (i % 8) % 2 := by rw [hr0]; rfl
  rw [hbit]
  refine scall_of ttOk (by kernel_rfl : Try.prog.funcs[131]? = some Try.f131) rfl rfl rfl ?_
  try simp only [List.length_cons, List.length_nil, Nat.zero_add, Nat.reduceAdd]
  refine sw_ok ttOk mixed (by kernel_rfl) ?_
  conv => whnf
  repeat (first | (refine Exists.intro _ (And.intro (sload_u8 (i := i / 8) (by first | rfl | omega | fail) (by first | omega | fail)) ?_); conv => whnf) | (refine Exists.intro _ (And.intro (idx_i (m := i / 8) (by first | rfl | omega | fail)) ?_); conv => whnf) | (refine Exists.intro _ (And.intro rfl ?_); conv => whnf) | (refine And.intro (by first | omega | fail) ?_; conv => whnf) | fail)
  refine loop_rule ttOk mixed (by kernel_rfl) (ι := { j : Nat // j ≤ i % 8 }) (fun j => [(1, .i (i : Int)), (5, .i ((r0 / 2 ^ j.1 : Nat) : Int)), (6, .i (j.1 : Int))]) (fun j => [some (.ro (b.map .u8))]) (fun _ => 1) (fun j => i % 8 - j.1) ⟨0, Nat.zero_le _⟩ ?_ ?_
  · have hz : r0 / 2 ^ 0 = r0 := by rw [Nat.pow_zero, Nat.div_one]
    dsimp only
    rw [hz, hr0]
    refine Weak.sel [0] rfl rfl ?_ ?_ rfl rfl
    · (repeat' (first | exact trivial | refine And.intro ?_ ?_ | fail)) <;> first | rfl | fail
    · (repeat' (first | exact trivial | refine And.intro ?_ ?_ | fail)) <;> first | exact ren_eq (by first | (simp; done) | fail) (by first | rfl | fail) | fail
  · rintro ⟨j, hj⟩
    dsimp only
    have hrj : r0 / 2 ^ j < 256 := Nat.lt_of_le_of_lt (Nat.div_le_self _ _) hr
    have hs : r0 / 2 ^ (j + 1) = r0 / 2 ^ j / 2 := by rw [Nat.pow_succ, Nat.div_div_eq_div_mul]
    have hp1 : w64 ((j : Int) + 1) = ((j + 1 : Nat) : Int) := by simp only [w64_eq]; omega
    by_cases hj2 : j < i % 8
    · have hlt : decide ((j : Int) < (i : Int).tmod 8) = true := by rw [h1]; simp; omega
      obtain ⟨r, er⟩ : ∃ r, r = r0 / 2 ^ j := ⟨_, rfl⟩
      rw [← er] at hs hrj ⊢
      obtain ⟨-, -, h3, h4⟩ := t8 r hrj
      repeat (first | (refine Exists.intro _ (And.intro rfl ?_); conv => whnf) | fail)
      first | refine brT (by exact hlt) ?_ | fail
      conv => whnf
      repeat (first | (refine Exists.intro _ (And.intro rfl ?_); conv => whnf) | fail)
      refine ⟨⟨j + 1, by omega⟩, by simp only; omega, ?_⟩
      dsimp only
      rw [hs]
      refine Weak.sel [0] rfl rfl ?_ ?_ rfl rfl
      · (repeat' (first | exact trivial | refine And.intro ?_ ?_ | fail)) <;> first | exact wk_i (by first | exact hp1.symm | exact h4.symm | fail) | rfl | fail
      · (repeat' (first | exact trivial | refine And.intro ?_ ?_ | fail)) <;> first | exact ren_eq (by first | (simp; done) | fail) (by first | rfl | fail) | fail
    · obtain rfl : j = i % 8 := by omega
      have hlt : decide (((i % 8 : Nat) : Int) < (i : Int).tmod 8) = false := by rw [h1]; simp
      obtain ⟨r, er⟩ : ∃ r, r = r0 / 2 ^ (i % 8) := ⟨_, rfl⟩
      rw [← er] at hrj ⊢
      obtain ⟨-, -, h3, h4⟩ := t8 r hrj
      rw [← h3]
      repeat (first | (refine Exists.intro _ (And.intro rfl ?_); conv => whnf) | (refine And.intro (by first | omega | (simp; omega) | fail) ?_; conv => whnf) | fail)
      first | intro _
      conv => whnf
      repeat (first | (refine Exists.intro _ (And.intro rfl ?_); conv => whnf) | fail)
      refine ⟨[0], ?_, rfl, rfl, ?_, rfl⟩
      · (repeat' (fail)) <;> first | rfl | fail
      · (repeat' (first | exact trivial | refine And.intro ?_ ?_ | fail)) <;> first | exact ren_eq (by first | (simp; done) | fail) (by first | rfl | fail) | fail
end Go.Sh
/- curve: Clamp, the program's (f39) and the reference's (f42), walked. -/
namespace Go.Sh
open Go.Proofs
set_option maxHeartbeats 8000000
set_option linter.unusedSimpArgs false
set_option linter.unusedVariables false

def clampL (b : List UInt8) : List UInt8 := (b.set 0 (b.getD 0 0 &&& 248)).set 31 ((b.getD 31 0 &&& 127) ||| 64)
theorem clamp_len (b : List UInt8) : (clampL b).length = b.length := by unfold clampL; simp
theorem cl_8 (x : UInt8) : x / 8 * 8 = x &&& 248 := by
  have : ∀ n : Fin 256, (UInt8.ofNat n.1) / 8 * 8 = UInt8.ofNat n.1 &&& 248 := by decide +kernel
  have h := this ⟨x.toNat, UInt8.toNat_lt x⟩
  simpa using h
theorem cl_64 (x : UInt8) : x % 64 + 64 = (x &&& 127) ||| 64 := by
  have : ∀ n : Fin 256, (UInt8.ofNat n.1) % 64 + 64 = (UInt8.ofNat n.1 &&& 127) ||| 64 := by decide +kernel
  have h := this ⟨x.toNat, UInt8.toNat_lt x⟩
  simpa using h
theorem clamp_p (b : List UInt8) : clampL b = (b.set 0 (b.getD 0 0 &&& 248)).set 31 ((b.set 0 (b.getD 0 0 &&& 248)).getD 31 0 &&& 127 ||| 64) := by
  have hg : (b.set 0 (b.getD 0 0 &&& 248)).getD 31 0 = b.getD 31 0 := by simp
  rw [hg]; rfl
theorem clamp_r (b : List UInt8) : clampL b = (b.set 0 (b.getD 0 0 / 8 * 8)).set 31 ((b.set 0 (b.getD 0 0 / 8 * 8)).getD 31 0 % 64 + 64) := by
  have hg : (b.set 0 (b.getD 0 0 / 8 * 8)).getD 31 0 = b.getD 31 0 := by simp
  rw [hg, cl_8, cl_64]; rfl
theorem f39 (b : List UInt8) (hb : b.length = 32) : SCall Try.prog 39 [.agg (b.map .u8)] [] (.agg ((clampL b).map .u8)) [] := by
  have hl : (b.set 0 (b.getD 0 0 &&& 248)).length = 32 := by simp [hb]
  rw [clamp_p]
  refine scall_of ttOk (by kernel_rfl : Try.prog.funcs[39]? = some Try.f39) rfl rfl rfl ?_
  try simp only [List.length_cons, List.length_nil, Nat.zero_add, Nat.reduceAdd]
  refine sw_ok ttOk mixed (by kernel_rfl) ?_
  conv => whnf
  repeat (first | (refine Exists.intro _ (And.intro (sload_all rfl (by first | rfl | (simp [hb, hl]; done) | fail)) ?_); conv => whnf) | (refine Exists.intro _ (And.intro (sput_all rfl (by first | rfl | (simp [hb, hl]; done) | fail)) ?_); conv => whnf) | (refine Exists.intro _ (And.intro (sput_m8 (i := 0) (by first | rfl | fail)) ?_); conv => whnf) | (refine Exists.intro _ (And.intro (sload_u8 (i := 0) (by first | rfl | fail) (by first | omega | fail)) ?_); conv => whnf) | (refine Exists.intro _ (And.intro (idx_i (m := 0) (by first | rfl | fail)) ?_); conv => whnf) | (refine Exists.intro _ (And.intro (sput_m8 (i := 31) (by first | rfl | fail)) ?_); conv => whnf) | (refine Exists.intro _ (And.intro (sload_u8 (i := 31) (by first | rfl | fail) (by first | (simp [hb, hl]; done) | fail)) ?_); conv => whnf) | (refine Exists.intro _ (And.intro (idx_i (m := 31) (by first | rfl | fail)) ?_); conv => whnf) | (refine And.intro (by first | omega | (simp; omega) | fail) ?_; conv => whnf) | fail)
  refine ⟨[], ?_, rfl, rfl, ?_, rfl⟩
  · (repeat' (first | (refine wk_agg ?_) | fail)) <;> first | exact ren_m8 (by first | rfl | fail) | fail
  · (repeat' (first | exact trivial | fail)) <;> fail
theorem idx_r {b : List UInt8} {e k : Nat} (h : k < b.length) : (SB.row e (b.map .u8)).cells[k]? = some (.u8 (b.getD k 0)) := by
  show (b.map SV.u8)[k]? = _
  rw [List.getElem?_map, List.getElem?_eq_getElem h, List.getD_eq_getElem?_getD, List.getElem?_eq_getElem h]; rfl
theorem f42 (b : List UInt8) (hb : b.length = 32) (f : Bool) : SCall Try.prog 42 [.sl 0 0 32 1 f] [some (.ro (b.map .u8))] (.sl 1 0 32 1 false) [some (.ro (b.map .u8)), some (.row 5 ((clampL b).map .u8))] := by
  have hl : (b.set 0 (b.getD 0 0 / 8 * 8)).length = 32 := by simp [hb]
  have hap : List.take (0 * ti5.sz) (List.drop 0 (reps 0 (SV.u8 0).cells)) ++ List.take (32 * ti5.sz) (List.drop 0 (SB.ro (List.map SV.u8 b)).cells) = b.map SV.u8 := by
    show ([] : List SV) ++ List.take 32 (b.map SV.u8) = _
    rw [List.take_of_length_le (by simp [hb])]; rfl
  rw [clamp_r]
  refine scall_of ttOk (by kernel_rfl : Try.prog.funcs[42]? = some Try.f42) rfl rfl rfl ?_
  try simp only [List.length_cons, List.length_nil, Nat.zero_add, Nat.reduceAdd]
  refine sw_ok ttOk mixed (by kernel_rfl) ?_
  conv => whnf
  repeat (first | (refine Exists.intro _ (And.intro (idx_i (m := 0) (by first | rfl | fail)) ?_); conv => whnf) | (refine Exists.intro _ (And.intro rfl ?_); conv => whnf) | (refine pkF rfl ?_; conv => whnf) | (refine And.intro (by first | omega | (simp [ti5]; omega)) ?_; conv => whnf) | fail)
  rw [hap]
  have hz0 : (SB.row 5 (List.map SV.u8 b)).cells[0 + 0 * ti5.sz]? = some (.u8 (b.getD 0 0)) := idx_r (k := 0) (by omega)
  rw [hz0]
  repeat (first | (refine Exists.intro _ (And.intro (sput_m8 (i := 0) (by first | rfl | fail)) ?_); conv => whnf) | (refine Exists.intro _ (And.intro (idx_i (m := 0) (by first | rfl | fail)) ?_); conv => whnf) | (refine Exists.intro _ (And.intro (sput_m8 (i := 31) (by first | rfl | fail)) ?_); conv => whnf) | (refine Exists.intro _ (And.intro (sload_u8 (i := 31) (by first | rfl | fail) (by first | (simp [hb, hl]; done) | fail)) ?_); conv => whnf) | (refine Exists.intro _ (And.intro (idx_i (m := 31) (by first | rfl | fail)) ?_); conv => whnf) | (refine Exists.intro _ (And.intro rfl ?_); conv => whnf) | (refine And.intro (by first | omega | (simp; omega) | fail) ?_; conv => whnf) | fail)
  refine ⟨[0, 2], ?_, rfl, rfl, ?_, rfl⟩
  · (repeat' (fail)) <;> first | rfl | fail
  · (repeat' (first | exact trivial | refine And.intro ?_ ?_ | fail)) <;> first | rfl | exact ren_eq (by first | (simp; done) | fail) (by first | rfl | fail) | exact ren_m8 (by first | rfl | fail) | fail
end Go.Sh
/- curve: the closure that swaps two pairs (f128), walked. -/
namespace Go.Sh
open Go.Proofs
set_option maxHeartbeats 8000000
set_option linter.unusedSimpArgs false
set_option linter.unusedVariables false

theorem f128_0 {x2 z2 x3 z3 : List UInt64} (h2 : x2.length = 5) (k2 : z2.length = 5) (h3 : x3.length = 5) (k3 : z3.length = 5) : SCall Try.prog 128 [.u64 0, .p 0 0, .p 1 0] [some (.box (x2.map .u64 ++ z2.map .u64)), some (.box (x3.map .u64 ++ z3.map .u64))] (.tup []) [some (.box (x2.map .u64 ++ z2.map .u64)), some (.box (x3.map .u64 ++ z3.map .u64))] := by
  obtain ⟨a0, a1, a2, a3, a4, rfl⟩ := ex5 h2
  obtain ⟨b0, b1, b2, b3, b4, rfl⟩ := ex5 k2
  obtain ⟨c0, c1, c2, c3, c4, rfl⟩ := ex5 h3
  obtain ⟨d0, d1, d2, d3, d4, rfl⟩ := ex5 k3
  have q1 := f37x 0 a0 a1 a2 a3 a4 c0 c1 c2 c3 c4 b0 b1 b2 b3 b4 d0 d1 d2 d3 d4
  have q2 := f37z 0 b0 b1 b2 b3 b4 d0 d1 d2 d3 d4 a0 a1 a2 a3 a4 c0 c1 c2 c3 c4
  simp only [swX_0, swY_0] at q1 q2
  refine scall_of ttOk (by kernel_rfl : Try.prog.funcs[128]? = some Try.f128) rfl rfl rfl ?_
  try simp only [List.length_cons, List.length_nil, Nat.zero_add, Nat.reduceAdd]
  refine sw_ok ttOk mixed (by kernel_rfl) ?_
  conv => whnf
  repeat (fail)
  refine ok1_callF [0, 1] [true, true] true (q1) rfl rfl ⟨⟨rfl, by first | rfl | fail⟩, by (repeat' (first | exact trivial | refine And.intro ?_ ?_)) <;> first | rfl | fail, by first | rfl | fail, by first | rfl | fail, ?_⟩
  conv => whnf
  repeat (fail)
  refine ok1_callF [0, 1] [true, true] true (q2) rfl rfl ⟨⟨rfl, by first | rfl | fail⟩, by (repeat' (first | exact trivial | refine And.intro ?_ ?_)) <;> first | rfl | fail, by first | rfl | fail, by first | rfl | fail, ?_⟩
  conv => whnf
  repeat (fail)
  refine ⟨[0, 1], ?_, rfl, rfl, ?_, rfl⟩
  · (repeat' (first | (refine wk_tup ?_) | fail)) <;> first | rfl | fail
  · (repeat' (first | exact trivial | refine And.intro ?_ ?_ | (refine wk_cons ?_ ?_))) <;> first | rfl | fail
theorem f128_1 {x2 z2 x3 z3 : List UInt64} (h2 : x2.length = 5) (k2 : z2.length = 5) (h3 : x3.length = 5) (k3 : z3.length = 5) : SCall Try.prog 128 [.u64 1, .p 0 0, .p 1 0] [some (.box (x2.map .u64 ++ z2.map .u64)), some (.box (x3.map .u64 ++ z3.map .u64))] (.tup []) [some (.box (x3.map .u64 ++ z3.map .u64)), some (.box (x2.map .u64 ++ z2.map .u64))] := by
  obtain ⟨a0, a1, a2, a3, a4, rfl⟩ := ex5 h2
  obtain ⟨b0, b1, b2, b3, b4, rfl⟩ := ex5 k2
  obtain ⟨c0, c1, c2, c3, c4, rfl⟩ := ex5 h3
  obtain ⟨d0, d1, d2, d3, d4, rfl⟩ := ex5 k3
  have q1 := f37x 1 a0 a1 a2 a3 a4 c0 c1 c2 c3 c4 b0 b1 b2 b3 b4 d0 d1 d2 d3 d4
  have q2 := f37z 1 b0 b1 b2 b3 b4 d0 d1 d2 d3 d4 c0 c1 c2 c3 c4 a0 a1 a2 a3 a4
  simp only [swX_1, swY_1] at q1 q2
  refine scall_of ttOk (by kernel_rfl : Try.prog.funcs[128]? = some Try.f128) rfl rfl rfl ?_
  try simp only [List.length_cons, List.length_nil, Nat.zero_add, Nat.reduceAdd]
  refine sw_ok ttOk mixed (by kernel_rfl) ?_
  conv => whnf
  repeat (fail)
  refine ok1_callF [0, 1] [true, true] true (q1) rfl rfl ⟨⟨rfl, by first | rfl | fail⟩, by (repeat' (first | exact trivial | refine And.intro ?_ ?_)) <;> first | rfl | fail, by first | rfl | fail, by first | rfl | fail, ?_⟩
  conv => whnf
  repeat (fail)
  refine ok1_callF [0, 1] [true, true] true (q2) rfl rfl ⟨⟨rfl, by first | rfl | fail⟩, by (repeat' (first | exact trivial | refine And.intro ?_ ?_)) <;> first | rfl | fail, by first | rfl | fail, by first | rfl | fail, ?_⟩
  conv => whnf
  repeat (fail)
  refine ⟨[0, 1], ?_, rfl, rfl, ?_, rfl⟩
  · (repeat' (first | (refine wk_tup ?_) | fail)) <;> first | rfl | fail
  · (repeat' (first | exact trivial | refine And.intro ?_ ?_ | (refine wk_cons ?_ ?_))) <;> first | rfl | fail
end Go.Sh
/- curve: the whole ladder, plainly: on numbers and on the program's lists. -/
namespace Go.Sh
open Go.Proofs
set_option maxHeartbeats 8000000
set_option linter.unusedSimpArgs false
set_option linter.unusedVariables false

/-- Both pairs, in turn where c is 1. -/
def sw4 {α : Type} (c : Nat) (s : α × α × α × α) : α × α × α × α := if c = 1 then (s.2.2.1, s.2.2.2, s.1, s.2.1) else s
theorem sw4_sw4 {α : Type} (c : Nat) (s : α × α × α × α) : sw4 c (sw4 c s) = s := by
  unfold sw4; by_cases h : c = 1 <;> simp [h]
def lad4 (u : Nat) (s : Nat × Nat × Nat × Nat) : Nat × Nat × Nat × Nat := lad u s.1 s.2.1 s.2.2.1 s.2.2.2
def lad4L (u : List UInt64) (s : List UInt64 × List UInt64 × List UInt64 × List UInt64) : List UInt64 × List UInt64 × List UInt64 × List UInt64 := ladL u s.1 s.2.1 s.2.2.1 s.2.2.2
/-- The ladder behind t bits, the highest first (bit 254 down). -/
def ldr (b : List UInt8) (u : Nat) : Nat → Nat × Nat × Nat × Nat
  | 0 => (1, 0, u, 1)
  | t + 1 => sw4 (bitN b (254 - t)) (lad4 u (sw4 (bitN b (254 - t)) (ldr b u t)))
def ldrL (b : List UInt8) (u : List UInt64) : Nat → List UInt64 × List UInt64 × List UInt64 × List UInt64
  | 0 => (smallL 1, smallL 0, u, smallL 1)
  | t + 1 => sw4 (bitN b (254 - t)) (lad4L u (sw4 (bitN b (254 - t)) (ldrL b u t)))
def Nm4 (s : List UInt64 × List UInt64 × List UInt64 × List UInt64) : Prop := Nm s.1 ∧ Nm s.2.1 ∧ Nm s.2.2.1 ∧ Nm s.2.2.2
def nr4 (s : List UInt64 × List UInt64 × List UInt64 × List UInt64) : Nat × Nat × Nat × Nat := (nr s.1, nr s.2.1, nr s.2.2.1, nr s.2.2.2)
theorem Nm4_sw {c : Nat} {s : List UInt64 × List UInt64 × List UInt64 × List UInt64} (h : Nm4 s) : Nm4 (sw4 c s) := by
  unfold sw4; split
  · exact ⟨h.2.2.1, h.2.2.2, h.1, h.2.1⟩
  · exact h
theorem nr4_sw (c : Nat) (s : List UInt64 × List UInt64 × List UInt64 × List UInt64) : nr4 (sw4 c s) = sw4 c (nr4 s) := by
  unfold sw4; split <;> rfl
theorem lad4L_ok {u : List UInt64} {s : List UInt64 × List UInt64 × List UInt64 × List UInt64} (hu : Nm u) (h : Nm4 s) : Nm4 (lad4L u s) ∧ nr4 (lad4L u s) = lad4 (nr u) (nr4 s) := by
  obtain ⟨g1, g2, g3, g4, g⟩ := ladL_ok hu h.1 h.2.1 h.2.2.1 h.2.2.2
  exact ⟨⟨g1, g2, g3, g4⟩, g.symm⟩
theorem ldrL_ok {b : List UInt8} {u : List UInt64} (hu : Nm u) : ∀ t, Nm4 (ldrL b u t) ∧ nr4 (ldrL b u t) = ldr b (nr u) t
  | 0 => by
    obtain ⟨n1, v1⟩ := Nm_small 1
    obtain ⟨n0, v0⟩ := Nm_small 0
    refine ⟨⟨n1, n0, hu, n1⟩, ?_⟩
    show (nr (smallL 1), nr (smallL 0), nr u, nr (smallL 1)) = (1, 0, nr u, 1)
    rw [v1, v0]; rfl
  | t + 1 => by
    obtain ⟨h, e⟩ := ldrL_ok (b := b) hu t
    obtain ⟨h2, e2⟩ := lad4L_ok hu (Nm4_sw (c := bitN b (254 - t)) h)
    refine ⟨Nm4_sw h2, ?_⟩
    show nr4 (sw4 _ (lad4L u (sw4 _ (ldrL b u t)))) = sw4 _ (lad4 (nr u) (sw4 _ (ldr b (nr u) t)))
    rw [nr4_sw, e2, nr4_sw, e]
/-- What times tells, on numbers: x over z. -/
def timesN (b : List UInt8) (u : Nat) : Nat := (ldr b u 255).1 * invN (ldr b u 255).2.1 % P25519
def timesL (b : List UInt8) (u : List UInt64) : List UInt64 := mulL (ldrL b u 255).1 (invL (ldrL b u 255).2.1)
theorem timesL_ok {b : List UInt8} {u : List UInt64} (hu : Nm u) : Nm (timesL b u) ∧ nr (timesL b u) = timesN b (nr u) := by
  obtain ⟨h, e⟩ := ldrL_ok (b := b) hu 255
  obtain ⟨n1, v1⟩ := invL_ok h.2.1
  obtain ⟨n2, v2⟩ := mulL_ok h.1 n1
  refine ⟨n2, ?_⟩
  unfold timesL timesN
  rw [v2, v1, ← e]; rfl
end Go.Sh
/- curve: plain laws of CurveSame: bits that Clamp and Of drop make no difference. -/
namespace Go.Sh
open Go.Proofs
set_option maxHeartbeats 8000000
set_option linter.unusedSimpArgs false
set_option linter.unusedVariables false

theorem u8_all {p : UInt8 → Prop} (h : ∀ n : Fin 256, p (UInt8.ofNat n.1)) (x : UInt8) : p x := by
  have := h ⟨x.toNat, UInt8.toNat_lt x⟩
  simpa using this
theorem and7_mem (x : UInt8) : x &&& 7 ∈ [(0 : UInt8), 1, 2, 3, 4, 5, 6, 7] := u8_all (p := fun x => x &&& 7 ∈ [(0 : UInt8), 1, 2, 3, 4, 5, 6, 7]) (by decide +kernel) x
theorem and192_mem (x : UInt8) : x &&& 192 ∈ [(0 : UInt8), 64, 128, 192] := u8_all (p := fun x => x &&& 192 ∈ [(0 : UInt8), 64, 128, 192]) (by decide +kernel) x
theorem and128_mem (x : UInt8) : x &&& 128 ∈ [(0 : UInt8), 128] := u8_all (p := fun x => x &&& 128 ∈ [(0 : UInt8), 128]) (by decide +kernel) x
theorem drop7 (a x : UInt8) : (a ^^^ (x &&& 7)) &&& 248 = a &&& 248 := by
  have h : ∀ z ∈ [(0 : UInt8), 1, 2, 3, 4, 5, 6, 7], (a ^^^ z) &&& 248 = a &&& 248 :=
    u8_all (p := fun a => ∀ z ∈ [(0 : UInt8), 1, 2, 3, 4, 5, 6, 7], (a ^^^ z) &&& 248 = a &&& 248) (by decide +kernel) a
  exact h _ (and7_mem x)
theorem drop192 (a x : UInt8) : ((a ^^^ (x &&& 192)) &&& 127) ||| 64 = (a &&& 127) ||| 64 := by
  have h : ∀ z ∈ [(0 : UInt8), 64, 128, 192], ((a ^^^ z) &&& 127) ||| 64 = (a &&& 127) ||| 64 :=
    u8_all (p := fun a => ∀ z ∈ [(0 : UInt8), 64, 128, 192], ((a ^^^ z) &&& 127) ||| 64 = (a &&& 127) ||| 64) (by decide +kernel) a
  exact h _ (and192_mem x)
theorem drop128 (a x : UInt8) : (a ^^^ (x &&& 128)).toNat % 128 = a.toNat % 128 := by
  have h : ∀ z ∈ [(0 : UInt8), 128], (a ^^^ z).toNat % 128 = a.toNat % 128 :=
    u8_all (p := fun a => ∀ z ∈ [(0 : UInt8), 128], (a ^^^ z).toNat % 128 = a.toNat % 128) (by decide +kernel) a
  exact h _ (and128_mem x)
theorem clamp_drop {b : List UInt8} (hb : b.length = 32) (x y : UInt8) : clampL ((b.set 0 (b.getD 0 0 ^^^ (x &&& 7))).set 31 (b.getD 31 0 ^^^ (y &&& 192))) = clampL b := by
  have h0 : ((b.set 0 (b.getD 0 0 ^^^ (x &&& 7))).set 31 (b.getD 31 0 ^^^ (y &&& 192))).getD 0 0 = b.getD 0 0 ^^^ (x &&& 7) := by
    rw [List.getD_eq_getElem?_getD, List.getElem?_set_ne (by decide), List.getElem?_set_self (by omega)]; rfl
  have h1 : ((b.set 0 (b.getD 0 0 ^^^ (x &&& 7))).set 31 (b.getD 31 0 ^^^ (y &&& 192))).getD 31 0 = b.getD 31 0 ^^^ (y &&& 192) := by
    rw [List.getD_eq_getElem?_getD, List.getElem?_set_self (by simp; omega)]; rfl
  unfold clampL
  rw [h0, h1, drop7, drop192, List.set_comm _ _ (by decide : (31 : Nat) ≠ 0), List.set_set, List.set_set]
theorem clamp_clamp {b : List UInt8} (hb : b.length = 32) : clampL (clampL b) = clampL b := by
  have i0 : ∀ a : UInt8, (a &&& 248) &&& 248 = a &&& 248 := u8_all (p := fun a => (a &&& 248) &&& 248 = a &&& 248) (by decide +kernel)
  have i1 : ∀ a : UInt8, (((a &&& 127) ||| 64) &&& 127) ||| 64 = (a &&& 127) ||| 64 := u8_all (p := fun a => (((a &&& 127) ||| 64) &&& 127) ||| 64 = (a &&& 127) ||| 64) (by decide +kernel)
  have h0 : (clampL b).getD 0 0 = b.getD 0 0 &&& 248 := by
    unfold clampL
    rw [List.getD_eq_getElem?_getD, List.getElem?_set_ne (by decide), List.getElem?_set_self (by omega)]; rfl
  have h1 : (clampL b).getD 31 0 = (b.getD 31 0 &&& 127) ||| 64 := by
    unfold clampL
    rw [List.getD_eq_getElem?_getD, List.getElem?_set_self (by simp; omega)]; rfl
  rw [show clampL (clampL b) = ((clampL b).set 0 ((clampL b).getD 0 0 &&& 248)).set 31 (((clampL b).getD 31 0 &&& 127) ||| 64) from rfl, h0, h1, i0, i1]
  unfold clampL
  rw [List.set_comm _ _ (by decide : (31 : Nat) ≠ 0), List.set_set, List.set_set]
theorem br_drop {b : List UInt8} (hb : b.length = 32) (y : UInt8) : br (b.set 31 (b.getD 31 0 ^^^ (y &&& 128))) = br b := by
  unfold br
  rw [bn_M, bn_M, pv_congr (m := byM b) 32 (fun i hi => ?_)]
  unfold byM byN
  by_cases h : i = 31
  · subst h
    rw [if_pos rfl, if_pos rfl, List.getD_eq_getElem?_getD, List.getElem?_set_self (by omega)]
    exact drop128 _ _
  · rw [if_neg h, if_neg h, List.getD_eq_getElem?_getD, List.getElem?_set_ne (by omega), ← List.getD_eq_getElem?_getD]
end Go.Sh
/- curve: bits (f129), as the program hands it on. -/
namespace Go.Sh
open Go.Proofs
set_option maxHeartbeats 8000000
set_option linter.unusedSimpArgs false
set_option linter.unusedVariables false

theorem f129 (b : List UInt8) (hb : b.length = 32) : SCall Try.prog 129 [.agg (b.map .u8)] [] (.fn 144 [.p 0 0]) [some (.box (b.map .u8))] := by
  refine scall_of ttOk (by kernel_rfl : Try.prog.funcs[129]? = some Try.f129) rfl rfl rfl ?_
  try simp only [List.length_cons, List.length_nil, Nat.zero_add, Nat.reduceAdd]
  refine sw_ok ttOk mixed (by kernel_rfl) ?_
  conv => whnf
  repeat (fail)
  refine ⟨[0], ?_, rfl, rfl, ?_, rfl⟩
  · (repeat' (fail)) <;> first | rfl | fail
  · (repeat' (first | exact trivial | refine And.intro ?_ ?_ | fail)) <;> first | exact ren_eq (by first | (simp; done) | fail) (by first | rfl | fail) | fail
end Go.Sh
/- curve: the known vector (f90). -/
namespace Go.Sh
open Go.Proofs
set_option maxHeartbeats 8000000
set_option linter.unusedSimpArgs false
set_option linter.unusedVariables false

def rowA : List UInt8 := [165, 70, 227, 107, 240, 82, 124, 157, 59, 22, 21, 75, 130, 70, 94, 221, 98, 20, 76, 10, 193, 252, 90, 24, 80, 106, 34, 68, 186, 68, 154, 196]
def rowB : List UInt8 := [230, 219, 104, 103, 88, 48, 48, 219, 53, 148, 193, 164, 36, 177, 95, 124, 114, 102, 36, 236, 38, 179, 53, 59, 16, 169, 3, 166, 208, 171, 28, 76]
def rowC : List UInt8 := [195, 218, 85, 55, 157, 233, 198, 144, 142, 148, 234, 77, 242, 141, 8, 79, 50, 236, 207, 3, 73, 28, 113, 247, 84, 180, 7, 85, 119, 162, 133, 82]
theorem f90 : SCall Try.prog 90 [] [] (.tup [.agg (rowA.map .u8), .agg (rowB.map .u8), .agg (rowC.map .u8)]) [] := by
  refine scall_of ttOk (by kernel_rfl : Try.prog.funcs[90]? = some Try.f90) rfl rfl rfl ?_
  try simp only [List.length_cons, List.length_nil, Nat.zero_add, Nat.reduceAdd]
  refine sw_ok ttOk mixed (by kernel_rfl) ?_
  conv => whnf
  repeat (first | (refine Exists.intro _ (And.intro (sload_all rfl (by first | rfl | fail)) ?_); conv => whnf) | (refine Exists.intro _ (And.intro (sput_all rfl (by first | rfl | fail)) ?_); conv => whnf) | (refine Exists.intro _ (And.intro rfl ?_); conv => whnf) | (refine And.intro (by first | (simp; done) | fail) ?_; conv => whnf) | fail)
  refine ⟨[], ?_, rfl, rfl, ?_, rfl⟩
  · (repeat' (first | (refine wk_tup ?_) | (refine wk_agg ?_) | (refine wk_cons ?_ ?_))) <;> first | rfl | fail
  · (repeat' (first | exact trivial | fail)) <;> fail
end Go.Sh
/- curve: the known vector's values, by the kernel (plainly). -/
namespace Go.Sh
open Go.Proofs
set_option maxHeartbeats 8000000

theorem known_1 : le32 (timesN (clampL rowA) (br rowB)) = rowC := by decide +kernel
theorem known_2 : timesN (clampL rowA) 0 = 0 := by decide +kernel
theorem known_3 : timesN (clampL rowA) 1 = 0 := by decide +kernel
theorem known_4 : br (List.replicate 32 0) = 0 ∧ br (1 :: List.replicate 31 0) = 1 := by decide +kernel
end Go.Sh
/- curve: what the program's loop keeps: the ladder's pairs, swapped by the last bit. -/
namespace Go.Sh
open Go.Proofs
set_option maxHeartbeats 8000000
set_option linter.unusedSimpArgs false
set_option linter.unusedVariables false

/-- The last bit that was seen behind t bits. -/
def lastB (b : List UInt8) : Nat → Nat
  | 0 => 0
  | t + 1 => bitN b (254 - t)
theorem bitN_lt (b : List UInt8) (i : Nat) : bitN b i < 2 := by unfold bitN; exact Nat.mod_lt _ (by decide)
theorem lastB_lt (b : List UInt8) : ∀ t, lastB b t < 2
  | 0 => by show 0 < 2; decide
  | t + 1 => bitN_lt b _
def ladS (b : List UInt8) (u : List UInt64) (t : Nat) : List UInt64 × List UInt64 × List UInt64 × List UInt64 := sw4 (lastB b t) (ldrL b u t)
def len4 (s : List UInt64 × List UInt64 × List UInt64 × List UInt64) : Prop := s.1.length = 5 ∧ s.2.1.length = 5 ∧ s.2.2.1.length = 5 ∧ s.2.2.2.length = 5
theorem len4_sw {c : Nat} {s : List UInt64 × List UInt64 × List UInt64 × List UInt64} (h : len4 s) : len4 (sw4 c s) := by
  unfold sw4; split
  · exact ⟨h.2.2.1, h.2.2.2, h.1, h.2.1⟩
  · exact h
theorem len4_lad (u : List UInt64) (s : List UInt64 × List UInt64 × List UInt64 × List UInt64) : len4 (lad4L u s) := ⟨rfl, rfl, rfl, rfl⟩
theorem len4_ldr (b : List UInt8) {u : List UInt64} (hu : u.length = 5) : ∀ t, len4 (ldrL b u t)
  | 0 => ⟨rfl, rfl, hu, rfl⟩
  | t + 1 => len4_sw (len4_lad _ _)
theorem len4_ladS (b : List UInt8) {u : List UInt64} (hu : u.length = 5) (t : Nat) : len4 (ladS b u t) := len4_sw (len4_ldr b hu t)
theorem ladS_z (b : List UInt8) (u : List UInt64) : ladS b u 0 = (smallL 1, smallL 0, u, smallL 1) := rfl
/-- One round of the program's loop. -/
theorem ladS_s (b : List UInt8) (u : List UInt64) (t : Nat) : ladS b u (t + 1) = lad4L u (sw4 (lastB b (t + 1)) (sw4 (lastB b t) (ladS b u t))) := by
  unfold ladS
  rw [sw4_sw4 (lastB b t)]
  show sw4 (bitN b (254 - t)) (sw4 (bitN b (254 - t)) _) = _
  rw [sw4_sw4]; rfl
theorem ladS_e (b : List UInt8) (u : List UInt64) : sw4 0 (sw4 (lastB b 255) (ladS b u 255)) = ldrL b u 255 := by
  unfold ladS; rw [sw4_sw4]; rfl
def bx (x z : List UInt64) : Option SB := some (.box (x.map .u64 ++ z.map .u64))
/-- The closure, of two bits: they are swapped where the bits are unlike. -/
theorem f128_c {c d : Nat} (hc : c < 2) (hd : d < 2) (s : List UInt64 × List UInt64 × List UInt64 × List UInt64) (hs : len4 s) : SCall Try.prog 128 [.u64 (UInt64.ofNat c ^^^ UInt64.ofNat d), .p 0 0, .p 1 0] [some (.box (s.1.map .u64 ++ s.2.1.map .u64)), some (.box (s.2.2.1.map .u64 ++ s.2.2.2.map .u64))] (.tup []) [some (.box ((sw4 d (sw4 c s)).1.map .u64 ++ (sw4 d (sw4 c s)).2.1.map .u64)), some (.box ((sw4 d (sw4 c s)).2.2.1.map .u64 ++ (sw4 d (sw4 c s)).2.2.2.map .u64))] := by
  obtain ⟨h1, h2, h3, h4⟩ := hs
  have g0 := f128_0 h1 h2 h3 h4
  have g1 := f128_1 h1 h2 h3 h4
  have hc' : c = 0 ∨ c = 1 := by omega
  have hd' : d = 0 ∨ d = 1 := by omega
  rcases hc' with rfl | rfl <;> rcases hd' with rfl | rfl
  · exact g0
  · exact g1
  · exact g1
  · exact g0
theorem f128_z {c : Nat} (hc : c < 2) (s : List UInt64 × List UInt64 × List UInt64 × List UInt64) (hs : len4 s) : SCall Try.prog 128 [.u64 (UInt64.ofNat c), .p 0 0, .p 1 0] [some (.box (s.1.map .u64 ++ s.2.1.map .u64)), some (.box (s.2.2.1.map .u64 ++ s.2.2.2.map .u64))] (.tup []) [some (.box ((sw4 0 (sw4 c s)).1.map .u64 ++ (sw4 0 (sw4 c s)).2.1.map .u64)), some (.box ((sw4 0 (sw4 c s)).2.2.1.map .u64 ++ (sw4 0 (sw4 c s)).2.2.2.map .u64))] := by
  have h := f128_c hc (d := 0) (by decide) s hs
  have e : UInt64.ofNat c ^^^ UInt64.ofNat 0 = UInt64.ofNat c := by
    have hc' : c = 0 ∨ c = 1 := by omega
    rcases hc' with rfl | rfl <;> rfl
  rwa [e] at h
end Go.Sh
/- curve: times (f91), walked. -/
namespace Go.Sh
open Go.Proofs
set_option maxHeartbeats 8000000
set_option linter.unusedSimpArgs false
set_option linter.unusedVariables false

theorem shr8_i64 {a : UInt8} {n : Int} {m : Nat} (h : n = (m : Int)) : snum .shr (.u8 a) (.i n) = some (.u8 (shr8 a m)) := by
  subst h; simp [snum, cnt, sshr]
theorem bit_p (x : UInt8) (n : Nat) (hn : n < 8) : (shr8 x n &&& 1).toUInt64 = UInt64.ofNat (x.toNat / 2 ^ n % 2) := by
  have : ∀ (m : Fin 256) (n : Fin 8), (shr8 (UInt8.ofNat m.1) n.1 &&& 1).toUInt64 = UInt64.ofNat ((UInt8.ofNat m.1).toNat / 2 ^ n.1 % 2) := by decide +kernel
  have h := this ⟨x.toNat, UInt8.toNat_lt x⟩ ⟨n, hn⟩
  simpa using h
attribute [local irreducible] mulL ladL invL smallL ldrL ladS lad4L
theorem f91 (b : List UInt8) (hb : b.length = 32) (u : List UInt64) (hu : u.length = 5) : SCall Try.prog 91 [.agg (b.map .u8), .agg (u.map .u64)] [] (.agg ((timesL b u).map .u64)) [] := by
  have q1 := f22 1
  have q0 := f22 0
  have h129 := f129 b hb
  have l1 : (smallL 1).length = 5 := by unfold smallL; rfl
  have l0 : (smallL 0).length = 5 := by unfold smallL; rfl
  refine scall_of ttOk (by kernel_rfl : Try.prog.funcs[91]? = some Try.f91) rfl rfl rfl ?_
  try simp only [List.length_cons, List.length_nil, Nat.zero_add, Nat.reduceAdd]
  refine sw_ok ttOk mixed (by kernel_rfl) ?_
  conv => whnf
  repeat (fail)
  refine ok1_callF [] [] true (q1) rfl rfl ⟨⟨rfl, by first | rfl | fail⟩, trivial, by first | rfl | fail, by first | simp [plainRf, plainR, plainT, plainW], ?_⟩
  conv => whnf
  repeat (fail)
  refine ok1_callF [] [] true (q0) rfl rfl ⟨⟨rfl, by first | rfl | fail⟩, trivial, by first | rfl | fail, by first | simp [plainRf, plainR, plainT, plainW], ?_⟩
  conv => whnf
  refine ⟨_, fill2 l1 l0, ?_⟩
  conv => whnf
  repeat (first | (refine Exists.intro _ (And.intro (sload_all rfl (by first | rfl | (simp [hb, hu, l1, l0]; done) | fail)) ?_); conv => whnf) | fail)
  refine ok1_callF [] [] true (q1) rfl rfl ⟨⟨rfl, by first | rfl | fail⟩, trivial, by first | rfl | fail, by first | simp [plainRf, plainR, plainT, plainW], ?_⟩
  conv => whnf
  refine ⟨_, fill2 hu l1, ?_⟩
  conv => whnf
  repeat (first | (refine Exists.intro _ (And.intro (sload_all rfl (by first | rfl | (simp [hb, hu, l1, l0]; done) | fail)) ?_); conv => whnf) | (refine Exists.intro _ (And.intro (sput_all rfl (by first | rfl | (simp [hb, hu, l1, l0]; done) | fail)) ?_); conv => whnf) | (refine Exists.intro _ (And.intro rfl ?_); conv => whnf) | (refine And.intro (by first | omega | (simp; done) | (simp; omega) | fail) ?_; conv => whnf) | (refine And.intro ⟨rfl, Nat.le_of_ble_eq_true rfl⟩ ?_; conv => whnf) | (refine And.intro (by kernel_rfl) ?_; conv => whnf) | fail)
  refine ok1_callF [] [true] false (h129) rfl rfl ⟨⟨rfl, by first | ((repeat' (first | exact wk_nil | exact ren_m8 rfl | (refine wk_agg ?_) | (refine wk_cons ?_ ?_))); done) | fail⟩, trivial, by first | simp [plainHf, plainB], by first | rfl | fail, ?_⟩
  conv => whnf
  repeat (fail)
  refine SWp.weak (R0 := [(3, .p 1 0), (4, .p 2 0), (5, .p 3 0), (6, .p 4 0), (7, .p 5 0), (8, .p 6 0), (18, .fn 144 [.p 7 0])]) (H0 := [some (.box (b.map .u8)), some (.box (u.map .u64)), some (.box (List.replicate 5 (.u64 0))), some (.box ((ladS b u 0).1.map .u64 ++ (ladS b u 0).2.1.map .u64)), some (.box ((ladS b u 0).2.2.1.map .u64 ++ (ladS b u 0).2.2.2.map .u64)), some (.box [.u64 (UInt64.ofNat (lastB b 0))]), some (.box [.fn 128 [.p 3 0, .p 4 0]]), some (.box (b.map .u8))]) (L0 := 8) ?_ ?_
  · have hz := ladS_z b u
    rw [hz]
    refine Weak.sel [0, 1, 2, 3, 4, 5, 6, 7] rfl rfl ?_ ?_ rfl rfl
    · (repeat' (first | exact trivial | refine And.intro ?_ ?_ | fail)) <;> first | rfl | fail
    · (repeat' (first | exact trivial | refine And.intro ?_ ?_ | (refine wk_cons ?_ ?_))) <;> first | rfl | exact ren_eq (by first | (simp; done) | fail) (by first | rfl | fail) | fail
  refine range_named rfl rfl rfl (by kernel_rfl : Try.prog.funcs[144]? = some Try.f144) rfl rfl rfl rfl ?_
  intro asq bdq hasq hbdq
  refine sw_ok ttOk mixed (by kernel_rfl) ?_
  conv => whnf
  repeat (fail)
  refine loop_rule ttOk mixed (by kernel_rfl) (ι := { m : Nat // m ≤ 255 }) (fun m => [(0, .yld 8), (1, .p 7 0), (3, .i ((m.1 : Int) - 1))]) (fun m => [some (.box (b.map .u8)), some (.box (u.map .u64)), some (.box (List.replicate 5 (.u64 0))), some (.box ((ladS b u (255 - m.1)).1.map .u64 ++ (ladS b u (255 - m.1)).2.1.map .u64)), some (.box ((ladS b u (255 - m.1)).2.2.1.map .u64 ++ (ladS b u (255 - m.1)).2.2.2.map .u64)), some (.box [.u64 (UInt64.ofNat (lastB b (255 - m.1)))]), some (.box [.fn 128 [.p 3 0, .p 4 0]]), some (.box (b.map .u8)), some (.obj (.loop [(3, .p 1 0), (4, .p 2 0), (5, .p 3 0), (6, .p 4 0), (7, .p 5 0), (8, .p 6 0)] Try.f91.ntmps [19] asq bdq))]) (fun _ => 9) (fun m => m.1) ⟨255, by omega⟩ ?_ ?_
  · refine Weak.sel [0, 1, 2, 3, 4, 5, 6, 7, 8] rfl rfl ?_ ?_ rfl rfl
    · (repeat' (first | exact trivial | refine And.intro ?_ ?_ | fail)) <;> first | rfl | fail
    · (repeat' (first | exact trivial | refine And.intro ?_ ?_ | (refine wk_cons ?_ ?_))) <;> first | rfl | exact ren_eq (by first | (simp; done) | fail) (by first | rfl | fail) | fail
  · rintro ⟨m, hm⟩
    dsimp only
    by_cases hm0 : 0 < m
    · obtain ⟨k, rfl⟩ : ∃ k, m = k + 1 := ⟨m - 1, by omega⟩
      have he : ((k + 1 : Nat) : Int) - 1 = (k : Int) := by omega
      rw [he]
      have hlt : decide ((k : Int) ≥ 0) = true := by simp
      obtain ⟨h1, h2, -, -⟩ := t8 k (by omega)
      have hs := ladS_s b u (255 - (k + 1))
      have hk8 : k / 8 < 32 := by omega
      have hbv : (shr8 (b.getD (k / 8) 0) ((k : Int).tmod 8).toNat &&& UInt8.ofNat (Int.toNat 1)).toUInt64 = UInt64.ofNat (bitN b k) := by
        rw [h1, Int.toNat_natCast]; exact bit_p _ _ (Nat.mod_lt _ (by decide))
      have hlb : lastB b (255 - (k + 1) + 1) = bitN b k := by
        show bitN b (254 - (255 - (k + 1))) = _
        rw [show 254 - (255 - (k + 1)) = k by omega]
      rw [hlb, show 255 - (k + 1) + 1 = 255 - k by omega] at hs
      have hlb2 : lastB b (255 - k) = bitN b k := by rw [show 255 - k = 255 - (k + 1) + 1 by omega]; exact hlb
      have hc := lastB_lt b (255 - (k + 1))
      have hd := bitN_lt b k
      have hS := len4_ladS b hu (255 - (k + 1))
      obtain ⟨S, eS⟩ : ∃ S, S = ladS b u (255 - (k + 1)) := ⟨_, rfl⟩
      obtain ⟨c, ec⟩ : ∃ c, c = lastB b (255 - (k + 1)) := ⟨_, rfl⟩
      obtain ⟨d, ed⟩ : ∃ d, d = bitN b k := ⟨_, rfl⟩
      rw [← eS, ← ec, ← ed] at hs
      rw [← ed] at hbv hlb2
      rw [← ec] at hc
      rw [← ed] at hd
      rw [← eS] at hS
      rw [← eS, ← ec]
      have q128 := f128_c hc hd S hS
      obtain ⟨T, eT⟩ : ∃ T, T = sw4 d (sw4 c S) := ⟨_, rfl⟩
      have hT : len4 T := by rw [eT]; exact len4_sw (len4_sw hS)
      rw [← eT] at q128 hs
      obtain ⟨hT1, hT2, hT3, hT4⟩ := hT
      have q130 := f130 hu hT1 hT2 hT3 hT4
      have hq : ladL u T.1 T.2.1 T.2.2.1 T.2.2.2 = ladS b u (255 - k) := by rw [hs]; unfold lad4L; rfl
      rw [hq] at q130
      conv => whnf
      first | refine brT (by exact hlt) ?_ | fail
      conv => whnf
      repeat (first | (refine Exists.intro _ (And.intro (sload_u8 (i := k / 8) (by first | rfl | (simp; done) | fail) (by first | omega | fail)) ?_); conv => whnf) | (refine Exists.intro _ (And.intro (idx_i (m := k / 8) (by first | rfl | omega | fail)) ?_); conv => whnf) | (refine Exists.intro _ (And.intro rfl ?_); conv => whnf) | (refine And.intro (by first | omega | fail) ?_; conv => whnf) | fail)
      rw [hbv]
      refine ok1_yield 8 [1, 2, 3, 4, 5, 6] [false, true, true, true, true, true, false] (syield_of (ps := [19]) (N := Try.f91.ntmps) (R0 := [(3, .p 1 0), (4, .p 2 0), (5, .p 3 0), (6, .p 4 0), (7, .p 5 0), (8, .p 6 0)]) (args0 := [.u64 (UInt64.ofNat d)]) (ex := .normal) (H0t := [some (.box (u.map .u64)), some (.box (List.replicate 5 (.u64 0))), some (.box (S.1.map .u64 ++ S.2.1.map .u64)), some (.box (S.2.2.1.map .u64 ++ S.2.2.2.map .u64)), some (.box [.u64 (UInt64.ofNat c)]), some (.box [.fn 128 [.p 3 0, .p 4 0]])]) (H1t := [some (.box (u.map .u64)), some (.box (List.replicate 5 (.u64 0))), some (.box ((ladS b u (255 - k)).1.map .u64 ++ (ladS b u (255 - k)).2.1.map .u64)), some (.box ((ladS b u (255 - k)).2.2.1.map .u64 ++ (ladS b u (255 - k)).2.2.2.map .u64)), some (.box [.u64 (UInt64.ofNat d)]), some (.box [.fn 128 [.p 3 0, .p 4 0]])]) (.inl rfl) rfl rfl rfl ?_) rfl rfl ⟨⟨rfl, by first | rfl | fail⟩, by (repeat' (first | exact trivial | refine And.intro ?_ ?_)) <;> first | rfl | exact ren_eq (by first | (simp; done) | fail) (by first | rfl | fail), by first | (simp [plainHf, plainB]; done) | fail, ?_⟩
      · subst hasq
        subst hbdq
        refine sw_ok ttOk mixed (by kernel_rfl) ?_
        conv => whnf
        repeat (first | (refine And.intro (by first | omega | (simp; done) | fail) ?_; conv => whnf) | (refine And.intro (by kernel_rfl) ?_; conv => whnf) | fail)
        refine sw_ok ttOk mixed (by kernel_rfl) ?_
        conv => whnf
        repeat (first | (refine Exists.intro _ (And.intro rfl ?_); conv => whnf) | fail)
        refine ok1_callF [3, 4] [true, true] true (q128) rfl rfl ⟨⟨rfl, by first | rfl | fail⟩, by (repeat' (first | exact trivial | refine And.intro ?_ ?_)) <;> first | exact ren_eq (by first | (simp; done) | fail) (by first | rfl | fail) | fail, by first | simp [plainHf, plainB], by first | rfl | fail, ?_⟩
        conv => whnf
        repeat (first | (refine Exists.intro _ (And.intro (sload_all rfl (by first | rfl | (simp [hu]; done) | fail)) ?_); conv => whnf) | (refine Exists.intro _ (And.intro rfl ?_); conv => whnf) | (refine And.intro (by first | omega | (simp; done) | fail) ?_; conv => whnf) | fail)
        refine ok1_callF [3, 4] [true, true] true (q130) rfl rfl ⟨⟨rfl, by first | ((repeat' (first | exact ren_m64 rfl | exact rfl | (refine wk_agg ?_) | (refine wk_cons ?_ ?_))); done) | fail⟩, by (repeat' (first | exact trivial | refine And.intro ?_ ?_)) <;> first | exact ren_eq (by first | (simp; done) | fail) (by first | rfl | fail) | fail, by first | simp [plainHf, plainB], by first | rfl | fail, ?_⟩
        conv => whnf
        repeat (first | (refine And.intro (by first | omega | (simp; done) | fail) ?_; conv => whnf) | (refine And.intro (by kernel_rfl) ?_; conv => whnf) | fail)
        exact ⟨[0, 1, 2, 3, 4, 5, 6], rfl, rfl, by (repeat' (first | exact trivial | refine And.intro ?_ ?_)) <;> first | rfl | exact ren_eq (by first | (simp; done) | fail) (by first | rfl | fail) | fail, rfl⟩
      · conv => whnf
        repeat (first | (refine brF rfl ?_; conv => whnf) | fail)
        refine ⟨⟨k, by omega⟩, by simp only; omega, ?_⟩
        dsimp only
        rw [hlb2]
        have hp1 : w64 ((k : Int) - 1) = (k : Int) - 1 := by simp only [w64_eq]; omega
        refine Weak.sel [0, 1, 2, 3, 4, 5, 6, 7, 8] rfl rfl ?_ ?_ rfl rfl
        · (repeat' (first | exact trivial | refine And.intro ?_ ?_ | fail)) <;> first | exact wk_i (by first | exact hp1 | exact hp1.symm | fail) | rfl | fail
        · (repeat' (first | exact trivial | refine And.intro ?_ ?_ | (refine wk_cons ?_ ?_))) <;> first | rfl | exact ren_eq (by first | (simp; done) | fail) (by first | rfl | fail) | fail
    · obtain rfl : m = 0 := by omega
      have hc := lastB_lt b 255
      have hS := len4_ladS b hu 255
      have hE := ladS_e b u
      have hL := len4_ldr b hu 255
      have q128 := f128_z hc _ hS
      rw [hE] at q128
      obtain ⟨⟨L1, L2, L3, L4⟩, eL⟩ : ∃ L, L = ldrL b u 255 := ⟨_, rfl⟩
      have hfin : timesL b u = mulL L1 (invL L2) := by unfold timesL; rw [← eL]
      rw [← eL] at q128 hL
      obtain ⟨hL1, hL2, hL3, hL4⟩ := hL
      dsimp only at hL1 hL2 hL3 hL4 q128
      have q29 := f29 hL2
      have hil := invL_len L2
      have q28 := f28 hL1 hil
      rw [← hfin] at q28
      have htl : (timesL b u).length = 5 := by rw [hfin]; exact mulL_len ..
      clear eL hfin hE
      obtain ⟨a0, a1, a2, a3, a4, rfl⟩ := ex5 hL1
      obtain ⟨b0, b1, b2, b3, b4, rfl⟩ := ex5 hL2
      rw [show 255 - 0 = 255 from rfl]
      obtain ⟨S, eS⟩ : ∃ S, S = ladS b u 255 := ⟨_, rfl⟩
      obtain ⟨c, ec⟩ : ∃ c, c = lastB b 255 := ⟨_, rfl⟩
      rw [← eS, ← ec] at q128 ⊢
      rw [← eS] at hS
      conv => whnf
      first | refine brF (by rfl) ?_ | fail
      conv => whnf
      repeat (first | (refine Exists.intro _ (And.intro rfl ?_); conv => whnf) | fail)
      refine ok1_callF [3, 4] [true, true] true (q128) rfl rfl ⟨⟨rfl, by first | rfl | fail⟩, by (repeat' (first | exact trivial | refine And.intro ?_ ?_)) <;> first | exact ren_eq (by first | (simp; done) | fail) (by first | rfl | fail) | fail, by first | simp [plainHf, plainB], by first | rfl | fail, ?_⟩
      conv => whnf
      repeat (first | (refine Exists.intro _ (And.intro rfl ?_); conv => whnf) | fail)
      refine ok1_callF [] [] true (q29) rfl rfl ⟨⟨rfl, by first | rfl | fail⟩, trivial, by first | rfl | fail, by first | simp [plainRf, plainR, plainT, plainW], ?_⟩
      conv => whnf
      repeat (fail)
      refine ok1_callF [] [] true (q28) rfl rfl ⟨⟨rfl, by first | ((repeat' (first | exact wk_nil | exact ren_m64 rfl | exact rfl | (refine wk_agg ?_) | (refine wk_cons ?_ ?_))); done) | fail⟩, trivial, by first | rfl | fail, by first | simp [plainRf, plainR, plainT, plainW], ?_⟩
      conv => whnf
      repeat (first | (refine Exists.intro _ (And.intro (sload_all rfl (by first | rfl | (simp [hil, htl]; done) | fail)) ?_); conv => whnf) | (refine Exists.intro _ (And.intro (sput_all rfl (by first | rfl | (simp [hil, htl]; done) | fail)) ?_); conv => whnf) | (refine And.intro (by first | omega | (simp; omega) | fail) ?_; conv => whnf) | (refine And.intro (by kernel_rfl) ?_; conv => whnf) | fail)
      refine ⟨[], ?_, rfl, rfl, ?_, rfl⟩
      · (repeat' (first | (refine wk_agg ?_) | fail)) <;> first | exact ren_eq (by first | (simp; done) | fail) (by first | rfl | fail) | fail
      · (repeat' (first | exact trivial | fail)) <;> fail
end Go.Sh
/- curve: the reference's Times (f92), walked. -/
namespace Go.Sh
open Go.Proofs
set_option maxHeartbeats 8000000
set_option linter.unusedSimpArgs false
set_option linter.unusedVariables false

def lt4 (s : Nat × Nat × Nat × Nat) : Prop := s.1 < P25519 ∧ s.2.1 < P25519 ∧ s.2.2.1 < P25519 ∧ s.2.2.2 < P25519
theorem lt4_sw {c : Nat} {s : Nat × Nat × Nat × Nat} (h : lt4 s) : lt4 (sw4 c s) := by
  unfold sw4; split
  · exact ⟨h.2.2.1, h.2.2.2, h.1, h.2.1⟩
  · exact h
theorem lt4_lad (u : Nat) (s : Nat × Nat × Nat × Nat) : lt4 (lad4 u s) := ⟨mod_lt_P _, mod_lt_P _, mod_lt_P _, mod_lt_P _⟩
theorem lt4_ldr (b : List UInt8) {u : Nat} (hu : u < P25519) : ∀ t, lt4 (ldr b u t)
  | 0 => ⟨(by decide : 1 < P25519), (by decide : 0 < P25519), hu, (by decide : 1 < P25519)⟩
  | t + 1 => lt4_sw (lt4_lad _ _)
theorem ldr_s (b : List UInt8) (u t : Nat) : ldr b u (t + 1) = sw4 (bitN b (254 - t)) (lad4 u (sw4 (bitN b (254 - t)) (ldr b u t))) := rfl
theorem ldr_z (b : List UInt8) (u : Nat) : ldr b u 0 = (1, 0, u, 1) := rfl
attribute [local irreducible] dg lad ldr lad4 invN le32 clampL bitN
theorem f92 (b : List UInt8) (hb : b.length = 32) {u : Nat} (hu : u < P25519) (f : Bool) : SCall Try.prog 92 [.sl 0 0 32 1 f, .sl 1 0 16 1 true] [some (.ro (b.map .u8)), some (.ro ((dg u).map .u64))] (.sl 2 0 32 1 false) [some (.ro (b.map .u8)), some (.ro ((dg u).map .u64)), some (.row 5 ((le32 (timesN (clampL b) u)).map .u8))] := by
  have q42 := f42 b hb f
  have q1 := f24 1
  have q0 := f24 0
  have e1 : (1 : UInt32).toNat = 1 := rfl
  have e0 : (0 : UInt32).toNat = 0 := rfl
  rw [e1] at q1
  rw [e0] at q0
  have hcl := clamp_len b
  rw [hb] at hcl
  obtain ⟨c, ec⟩ : ∃ c, c = clampL b := ⟨_, rfl⟩
  rw [← ec] at q42 hcl ⊢
  refine scall_of ttOk (by kernel_rfl : Try.prog.funcs[92]? = some Try.f92) rfl rfl rfl ?_
  try simp only [List.length_cons, List.length_nil, Nat.zero_add, Nat.reduceAdd]
  refine sw_ok ttOk mixed (by kernel_rfl) ?_
  conv => whnf
  repeat (fail)
  refine ok1_callF [0] [false, true] false (q42) rfl rfl ⟨⟨rfl, by first | rfl | fail⟩, by (repeat' (first | exact trivial | refine And.intro ?_ ?_)) <;> first | exact ren_eq (by first | (simp; done) | fail) (by first | rfl | fail) | fail, by first | simp [plainHf, plainB], by first | rfl | fail, ?_⟩
  conv => whnf
  repeat (fail)
  refine ok1_callF [] [true] false (q1) rfl rfl ⟨⟨rfl, by first | rfl | fail⟩, trivial, by first | simp [plainHf, plainB], by first | rfl | fail, ?_⟩
  conv => whnf
  repeat (fail)
  refine ok1_callF [] [true] false (q0) rfl rfl ⟨⟨rfl, by first | rfl | fail⟩, trivial, by first | simp [plainHf, plainB], by first | rfl | fail, ?_⟩
  conv => whnf
  repeat (fail)
  refine ok1_callF [] [true] false (q1) rfl rfl ⟨⟨rfl, by first | rfl | fail⟩, trivial, by first | simp [plainHf, plainB], by first | rfl | fail, ?_⟩
  conv => whnf
  repeat (first | (refine Exists.intro _ (And.intro rfl ?_); conv => whnf) | fail)
  refine loop_rule ttOk mixed (by kernel_rfl) (ι := { m : Nat // m ≤ 255 }) (fun m => [(1, .sl 1 0 16 1 true), (5, .sl 2 0 32 1 false), (6, .sl 3 0 4 1 true), (7, .i ((m.1 : Int) - 1))]) (fun m => [some (.ro (b.map .u8)), some (.ro ((dg u).map .u64)), some (.ro (c.map .u8)), some (.ro [.sl 4 0 16 1 true, .sl 5 0 16 1 true, .sl 6 0 16 1 true, .sl 7 0 16 1 true]), some (.ro ((dg (ldr c u (255 - m.1)).1).map .u64)), some (.ro ((dg (ldr c u (255 - m.1)).2.1).map .u64)), some (.ro ((dg (ldr c u (255 - m.1)).2.2.1).map .u64)), some (.ro ((dg (ldr c u (255 - m.1)).2.2.2).map .u64))]) (fun _ => 8) (fun m => m.1) ⟨255, by omega⟩ ?_ ?_
  · have hz := ldr_z c u
    dsimp only
    rw [show 255 - 255 = 0 from rfl, hz]
    refine Weak.sel [0, 1, 2, 6, 3, 4, 1, 5] rfl rfl ?_ ?_ rfl rfl
    · (repeat' (first | exact trivial | refine And.intro ?_ ?_ | fail)) <;> first | rfl | fail
    · (repeat' (first | exact trivial | refine And.intro ?_ ?_ | (refine wk_cons ?_ ?_))) <;> first | rfl | exact ren_eq (by first | (simp; done) | fail) (by first | rfl | fail) | fail
  · rintro ⟨m, hm⟩
    dsimp only
    by_cases hm0 : 0 < m
    · obtain ⟨k, rfl⟩ : ∃ k, m = k + 1 := ⟨m - 1, by omega⟩
      have he : ((k + 1 : Nat) : Int) - 1 = (k : Int) := by omega
      rw [he]
      have hlt : decide ((k : Int) ≥ 0) = true := by simp
      have hs := ldr_s c u (255 - (k + 1))
      rw [show 254 - (255 - (k + 1)) = k by omega, show 255 - (k + 1) + 1 = 255 - k by omega] at hs
      have hd := bitN_lt c k
      have q131 := f131 c hcl k (by omega) false
      have hp1 : w64 ((k : Int) - 1) = (k : Int) - 1 := by simp only [w64_eq]; omega
      obtain ⟨d, ed⟩ : ∃ d, d = bitN c k := ⟨_, rfl⟩
      rw [← ed] at hs hd q131
      obtain ⟨hS1, hS2, hS3, hS4⟩ := lt4_ldr c hu (255 - (k + 1))
      obtain ⟨⟨x2, z2, x3, z3⟩, eS⟩ : ∃ S, S = ldr c u (255 - (k + 1)) := ⟨_, rfl⟩
      rw [← eS] at hS1 hS2 hS3 hS4 hs ⊢
      dsimp only at hS1 hS2 hS3 hS4 ⊢
      have hd' : d = 0 ∨ d = 1 := by omega
      rcases hd' with rfl | rfl
      · have hs' : ldr c u (255 - k) = lad u x2 z2 x3 z3 := hs.trans (by unfold lad4; rfl)
        have q132 := f132 hu hS1 hS2 hS3 hS4
        rw [← hs'] at q132
        conv => whnf
        first | refine brT (by exact hlt) ?_ | fail
        conv => whnf
        repeat (fail)
        refine ok1_callF [2] [false] true (q131) rfl rfl ⟨⟨rfl, by first | rfl | fail⟩, by (repeat' (first | exact trivial | refine And.intro ?_ ?_)) <;> first | exact ren_eq (by first | (simp; done) | fail) (by first | rfl | fail) | fail, by first | rfl | fail, by first | rfl | fail, ?_⟩
        conv => whnf
        repeat (first | (refine brF rfl ?_; conv => whnf) | fail)
        refine ok1_callF [1, 3, 4, 5, 6, 7] [false, false, false, false, false, false, false, true, true, true, true] false (q132) rfl rfl ⟨⟨rfl, by first | rfl | fail⟩, by (repeat' (first | exact trivial | refine And.intro ?_ ?_)) <;> first | rfl | exact ren_eq (by first | (simp; done) | fail) (by first | rfl | fail) | fail, by first | simp [plainHf, plainB], by first | rfl | fail, ?_⟩
        conv => whnf
        repeat (fail)
        refine ⟨⟨k, by omega⟩, by simp only; omega, ?_⟩
        refine Weak.sel [0, 1, 2, 8, 9, 10, 11, 12] rfl rfl ?_ ?_ rfl rfl
        · (repeat' (first | exact trivial | refine And.intro ?_ ?_ | fail)) <;> first | exact wk_i (by first | exact hp1 | exact hp1.symm | fail) | rfl | fail
        · (repeat' (first | exact trivial | refine And.intro ?_ ?_ | (refine wk_cons ?_ ?_))) <;> first | rfl | exact ren_eq (by first | (simp; done) | fail) (by first | rfl | fail) | fail
      · have hs' : ldr c u (255 - k) = ((lad u x3 z3 x2 z2).2.2.1, (lad u x3 z3 x2 z2).2.2.2, (lad u x3 z3 x2 z2).1, (lad u x3 z3 x2 z2).2.1) := hs.trans (by unfold lad4 sw4; rfl)
        have q132 := f132 hu hS3 hS4 hS1 hS2
        conv => whnf
        first | refine brT (by exact hlt) ?_ | fail
        conv => whnf
        repeat (fail)
        refine ok1_callF [2] [false] true (q131) rfl rfl ⟨⟨rfl, by first | rfl | fail⟩, by (repeat' (first | exact trivial | refine And.intro ?_ ?_)) <;> first | exact ren_eq (by first | (simp; done) | fail) (by first | rfl | fail) | fail, by first | rfl | fail, by first | rfl | fail, ?_⟩
        conv => whnf
        repeat (first | (refine brT rfl ?_; conv => whnf) | (refine Exists.intro _ (And.intro rfl ?_); conv => whnf) | (refine And.intro (by first | omega | fail) ?_; conv => whnf) | fail)
        refine ok1_callF [1, 8, 6, 7, 4, 5] [false, false, false, false, false, false, false, true, true, true, true] false (q132) rfl rfl ⟨⟨rfl, by first | rfl | fail⟩, by (repeat' (first | exact trivial | refine And.intro ?_ ?_)) <;> first | rfl | exact ren_eq (by first | (simp; done) | fail) (by first | rfl | fail) | fail, by first | simp [plainHf, plainB], by first | rfl | fail, ?_⟩
        conv => whnf
        repeat (first | (refine Exists.intro _ (And.intro rfl ?_); conv => whnf) | (refine And.intro (by first | omega | fail) ?_; conv => whnf) | (refine And.intro (by kernel_rfl) ?_; conv => whnf) | fail)
        refine ⟨⟨k, by omega⟩, by simp only; omega, ?_⟩
        dsimp only
        rw [hs']
        refine Weak.sel [0, 1, 2, 14, 12, 13, 10, 11] rfl rfl ?_ ?_ rfl rfl
        · (repeat' (first | exact trivial | refine And.intro ?_ ?_ | fail)) <;> first | exact wk_i (by first | exact hp1 | exact hp1.symm | fail) | rfl | fail
        · (repeat' (first | exact trivial | refine And.intro ?_ ?_ | (refine wk_cons ?_ ?_))) <;> first | rfl | exact ren_eq (by first | (simp; done) | fail) (by first | rfl | fail) | fail
    · obtain rfl : m = 0 := by omega
      obtain ⟨hS1, hS2, hS3, hS4⟩ := lt4_ldr c hu 255
      have q33 := f33 hS2 true
      have q32 := f32 (v := invN (ldr c u 255).2.1) hS1 (invN_lt _) true true
      have hfin : timesN c u = (ldr c u 255).1 * invN (ldr c u 255).2.1 % P25519 := rfl
      rw [← hfin] at q32
      have q34 := f34 (timesN c u) true
      rw [show 255 - 0 = 255 from rfl]
      conv => whnf
      first | refine brF (by rfl) ?_ | fail
      conv => whnf
      repeat (first | (refine Exists.intro _ (And.intro rfl ?_); conv => whnf) | (refine And.intro (by first | omega | fail) ?_; conv => whnf) | fail)
      refine ok1_callF [5] [false, true] false (q33) rfl rfl ⟨⟨rfl, by first | rfl | fail⟩, by (repeat' (first | exact trivial | refine And.intro ?_ ?_)) <;> first | exact ren_eq (by first | (simp; done) | fail) (by first | rfl | fail) | fail, by first | simp [plainHf, plainB], by first | rfl | fail, ?_⟩
      conv => whnf
      repeat (fail)
      refine ok1_callF [4, 8] [false, false, true] false (q32) rfl rfl ⟨⟨rfl, by first | rfl | fail⟩, by (repeat' (first | exact trivial | refine And.intro ?_ ?_)) <;> first | exact ren_eq (by first | (simp; done) | fail) (by first | rfl | fail) | fail, by first | simp [plainHf, plainB], by first | rfl | fail, ?_⟩
      conv => whnf
      repeat (fail)
      refine ok1_callF [9] [false, true] false (q34) rfl rfl ⟨⟨rfl, by first | rfl | fail⟩, by (repeat' (first | exact trivial | refine And.intro ?_ ?_)) <;> first | exact ren_eq (by first | (simp; done) | fail) (by first | rfl | fail) | fail, by first | simp [plainHf, plainB], by first | rfl | fail, ?_⟩
      conv => whnf
      repeat (first | (refine And.intro (by kernel_rfl) ?_; conv => whnf) | fail)
      refine ⟨[0, 1, 10], ?_, rfl, rfl, ?_, rfl⟩
      · (repeat' (fail)) <;> first | rfl | fail
      · (repeat' (first | exact trivial | refine And.intro ?_ ?_ | fail)) <;> first | rfl | exact ren_eq (by first | (simp; done) | fail) (by first | rfl | fail) | fail
end Go.Sh
/- curve: Shared (f40), Public (f41), the reference's (f43, f44), walked. -/
namespace Go.Sh
open Go.Proofs
set_option maxHeartbeats 8000000
set_option linter.unusedSimpArgs false
set_option linter.unusedVariables false

def shN (k p : List UInt8) : List UInt8 := le32 (timesN (clampL k) (br p))
def pubN (k : List UInt8) : List UInt8 := le32 (timesN (clampL k) 9)
def zer : List UInt8 := List.replicate 32 0
theorem shN_len (k p : List UInt8) : (shN k p).length = 32 := le32_len _
theorem pubN_len (k : List UInt8) : (pubN k).length = 32 := le32_len _
theorem zer_len : zer.length = 32 := rfl
attribute [local irreducible] timesL timesN ofB le32 clampL smallL shN pubN
theorem f40 (k p : List UInt8) (hk : k.length = 32) (hp : p.length = 32) : SCall Try.prog 40 [.agg (k.map .u8), .agg (p.map .u8)] [] (.tup [.agg ((shN k p).map .u8), .i (if shN k p = zer then 70 else 0)]) [] := by
  have hcl : (clampL k).length = 32 := by rw [clamp_len]; exact hk
  have q39 := f39 k hk
  have q21 := f21 p hp
  have hol : (ofB p).length = 5 := by unfold ofB; rfl
  have q91 := f91 (clampL k) hcl (ofB p) hol
  have hok := timesL_ok (b := clampL k) (ofB_ok p).1
  have q25 := f25 hok.1
  rw [hok.2, nr_of, show le32 (timesN (clampL k) (br p)) = shN k p by unfold shN; rfl] at q25
  have htl : (timesL (clampL k) (ofB p)).length = 5 := by unfold timesL; exact mulL_len ..
  have hsl := shN_len k p
  have hdec : eqcs ((shN k p).map SV.u8) (zer.map SV.u8) = decide (shN k p = zer) := eqcs_dec _ _ (by rw [hsl]; rfl)
  obtain ⟨W, eW⟩ : ∃ W, W = shN k p := ⟨_, rfl⟩
  rw [← eW] at q25 hsl hdec ⊢
  refine scall_of ttOk (by kernel_rfl : Try.prog.funcs[40]? = some Try.f40) rfl rfl rfl ?_
  try simp only [List.length_cons, List.length_nil, Nat.zero_add, Nat.reduceAdd]
  refine sw_ok ttOk mixed (by kernel_rfl) ?_
  conv => whnf
  repeat (first | (refine Exists.intro _ (And.intro (sload_all rfl (by first | rfl | (simp [hk, hp]; done) | fail)) ?_); conv => whnf) | fail)
  refine ok1_callF [] [] true (q39) rfl rfl ⟨⟨rfl, by first | ((repeat' (first | exact wk_nil | exact ren_m8 rfl | (refine wk_agg ?_) | (refine wk_cons ?_ ?_))); done) | fail⟩, trivial, by first | rfl | fail, by first | simp [plainRf, plainR, plainT, plainW], ?_⟩
  conv => whnf
  repeat (first | (refine Exists.intro _ (And.intro (sload_all rfl (by first | rfl | (simp [hk, hp, hcl]; done) | fail)) ?_); conv => whnf) | fail)
  refine ok1_callF [] [] true (q21) rfl rfl ⟨⟨rfl, by first | ((repeat' (first | exact wk_nil | exact ren_m8 rfl | (refine wk_agg ?_) | (refine wk_cons ?_ ?_))); done) | fail⟩, trivial, by first | rfl | fail, by first | simp [plainRf, plainR, plainT, plainW], ?_⟩
  conv => whnf
  repeat (fail)
  refine ok1_callF [] [] true (q91) rfl rfl ⟨⟨rfl, by first | ((repeat' (first | exact wk_nil | exact ren_m8 rfl | exact ren_m64 rfl | (refine wk_agg ?_) | (refine wk_cons ?_ ?_))); done) | fail⟩, trivial, by first | rfl | fail, by first | simp [plainRf, plainR, plainT, plainW], ?_⟩
  conv => whnf
  repeat (fail)
  refine ok1_callF [] [] true (q25) rfl rfl ⟨⟨rfl, by first | ((repeat' (first | exact wk_nil | exact ren_m64 rfl | (refine wk_agg ?_) | (refine wk_cons ?_ ?_))); done) | fail⟩, trivial, by first | rfl | fail, by first | simp [plainRf, plainR, plainT, plainW], ?_⟩
  conv => whnf
  repeat (first | (refine Exists.intro _ (And.intro (sload_all rfl (by first | rfl | (simp [hk, hp, hcl, hol, htl, hsl]; done) | fail)) ?_); conv => whnf) | (refine Exists.intro _ (And.intro (sput_all rfl (by first | rfl | (simp [hk, hp, hcl, hol, htl, hsl]; done) | fail)) ?_); conv => whnf) | (refine Exists.intro _ (And.intro rfl ?_); conv => whnf) | (refine And.intro (by first | (simp; omega) | fail) ?_; conv => whnf) | (refine And.intro (by kernel_rfl) ?_; conv => whnf) | fail)
  refine And.intro ⟨kd_u8n W hsl, kd_u8n zer rfl⟩ ?_
  conv => whnf
  by_cases hz : W = zer
  · rw [if_pos hz]
    rw [decide_eq_true hz] at hdec
    first | refine brT (by exact hdec) ?_ | fail
    conv => whnf
    repeat (first | (refine Exists.intro _ (And.intro (sload_all rfl (by first | rfl | (simp [hsl]; done) | fail)) ?_); conv => whnf) | (refine Exists.intro _ (And.intro (sput_all rfl (by first | rfl | (simp [hsl]; done) | fail)) ?_); conv => whnf) | (refine And.intro (by first | omega | (simp; omega) | fail) ?_; conv => whnf) | fail)
    refine ⟨[], ?_, rfl, rfl, ?_, rfl⟩
    · (repeat' (first | (refine wk_tup ?_) | (refine wk_agg ?_) | (refine wk_cons ?_ ?_))) <;> first | rfl | exact ren_eq (by first | (simp; done) | fail) (by first | rfl | fail) | fail
    · (repeat' (first | exact trivial | fail)) <;> fail
  · rw [if_neg hz]
    rw [decide_eq_false hz] at hdec
    first | refine brF (by exact hdec) ?_ | fail
    conv => whnf
    repeat (first | (refine Exists.intro _ (And.intro (sload_all rfl (by first | rfl | (simp [hsl]; done) | fail)) ?_); conv => whnf) | (refine Exists.intro _ (And.intro (sput_all rfl (by first | rfl | (simp [hsl]; done) | fail)) ?_); conv => whnf) | (refine And.intro (by first | omega | (simp; omega) | fail) ?_; conv => whnf) | fail)
    refine ⟨[], ?_, rfl, rfl, ?_, rfl⟩
    · (repeat' (first | (refine wk_tup ?_) | (refine wk_agg ?_) | (refine wk_cons ?_ ?_))) <;> first | rfl | exact ren_eq (by first | (simp; done) | fail) (by first | rfl | fail) | fail
    · (repeat' (first | exact trivial | fail)) <;> fail
theorem f41 (k : List UInt8) (hk : k.length = 32) : SCall Try.prog 41 [.agg (k.map .u8)] [] (.agg ((pubN k).map .u8)) [] := by
  have hcl : (clampL k).length = 32 := by rw [clamp_len]; exact hk
  have q39 := f39 k hk
  have q22 := f22 9
  have hol : (smallL 9).length = 5 := by unfold smallL; rfl
  have q91 := f91 (clampL k) hcl (smallL 9) hol
  have hok := timesL_ok (b := clampL k) (Nm_small 9).1
  have q25 := f25 hok.1
  rw [hok.2, (Nm_small 9).2, show le32 (timesN (clampL k) (9 : UInt32).toNat) = pubN k by unfold pubN; rfl] at q25
  have htl : (timesL (clampL k) (smallL 9)).length = 5 := by unfold timesL; exact mulL_len ..
  have hsl := pubN_len k
  obtain ⟨W, eW⟩ : ∃ W, W = pubN k := ⟨_, rfl⟩
  rw [← eW] at q25 hsl ⊢
  refine scall_of ttOk (by kernel_rfl : Try.prog.funcs[41]? = some Try.f41) rfl rfl rfl ?_
  try simp only [List.length_cons, List.length_nil, Nat.zero_add, Nat.reduceAdd]
  refine sw_ok ttOk mixed (by kernel_rfl) ?_
  conv => whnf
  repeat (first | (refine Exists.intro _ (And.intro (sload_all rfl (by first | rfl | (simp [hk]; done) | fail)) ?_); conv => whnf) | fail)
  refine ok1_callF [] [] true (q39) rfl rfl ⟨⟨rfl, by first | ((repeat' (first | exact wk_nil | exact ren_m8 rfl | (refine wk_agg ?_) | (refine wk_cons ?_ ?_))); done) | fail⟩, trivial, by first | rfl | fail, by first | simp [plainRf, plainR, plainT, plainW], ?_⟩
  conv => whnf
  repeat (fail)
  refine ok1_callF [] [] true (q22) rfl rfl ⟨⟨rfl, by first | rfl | fail⟩, trivial, by first | rfl | fail, by first | simp [plainRf, plainR, plainT, plainW], ?_⟩
  conv => whnf
  repeat (fail)
  refine ok1_callF [] [] true (q91) rfl rfl ⟨⟨rfl, by first | ((repeat' (first | exact wk_nil | exact ren_m8 rfl | exact ren_m64 rfl | (refine wk_agg ?_) | (refine wk_cons ?_ ?_))); done) | fail⟩, trivial, by first | rfl | fail, by first | simp [plainRf, plainR, plainT, plainW], ?_⟩
  conv => whnf
  repeat (fail)
  refine ok1_callF [] [] true (q25) rfl rfl ⟨⟨rfl, by first | ((repeat' (first | exact wk_nil | exact ren_m64 rfl | (refine wk_agg ?_) | (refine wk_cons ?_ ?_))); done) | fail⟩, trivial, by first | rfl | fail, by first | simp [plainRf, plainR, plainT, plainW], ?_⟩
  conv => whnf
  repeat (first | (refine Exists.intro _ (And.intro (sload_all rfl (by first | rfl | (simp [hk, hcl, hol, htl, hsl]; done) | fail)) ?_); conv => whnf) | (refine Exists.intro _ (And.intro (sput_all rfl (by first | rfl | (simp [hk, hcl, hol, htl, hsl]; done) | fail)) ?_); conv => whnf) | (refine And.intro (by first | omega | (simp; omega) | fail) ?_; conv => whnf) | fail)
  refine ⟨[], ?_, rfl, rfl, ?_, rfl⟩
  · (repeat' (first | (refine wk_agg ?_) | fail)) <;> first | exact ren_eq (by first | (simp; done) | fail) (by first | rfl | fail) | fail
  · (repeat' (first | exact trivial | fail)) <;> fail
theorem f43 (k p : List UInt8) (hk : k.length = 32) (hp : p.length = 32) (f g : Bool) : SCall Try.prog 43 [.sl 0 0 32 1 f, .sl 1 0 32 1 g] [some (.ro (k.map .u8)), some (.ro (p.map .u8))] (.sl 2 0 32 1 false) [some (.ro (k.map .u8)), some (.ro (p.map .u8)), some (.row 5 ((shN k p).map .u8))] := by
  have q23 := f23 p hp g
  have q92 := f92 k hk (br_lt p) f
  rw [show le32 (timesN (clampL k) (br p)) = shN k p by unfold shN; rfl] at q92
  refine scall_of ttOk (by kernel_rfl : Try.prog.funcs[43]? = some Try.f43) rfl rfl rfl ?_
  try simp only [List.length_cons, List.length_nil, Nat.zero_add, Nat.reduceAdd]
  refine sw_ok ttOk mixed (by kernel_rfl) ?_
  conv => whnf
  repeat (fail)
  refine ok1_callF [1] [false, true] false (q23) rfl rfl ⟨⟨rfl, by first | rfl | fail⟩, by (repeat' (first | exact trivial | refine And.intro ?_ ?_)) <;> first | exact ren_eq (by first | (simp; done) | fail) (by first | rfl | fail) | fail, by first | rfl | fail, by first | rfl | fail, ?_⟩
  conv => whnf
  repeat (fail)
  refine ok1_callF [0, 2] [false, false, true] false (q92) rfl rfl ⟨⟨rfl, by first | rfl | fail⟩, by (repeat' (first | exact trivial | refine And.intro ?_ ?_)) <;> first | rfl | exact ren_eq (by first | (simp; done) | fail) (by first | rfl | fail) | fail, by first | simp [plainHf, plainB], by first | rfl | fail, ?_⟩
  conv => whnf
  repeat (fail)
  refine ⟨[0, 1, 3], ?_, rfl, rfl, ?_, rfl⟩
  · (repeat' (fail)) <;> first | rfl | fail
  · (repeat' (first | exact trivial | refine And.intro ?_ ?_ | fail)) <;> first | rfl | exact ren_eq (by first | (simp; done) | fail) (by first | rfl | fail) | fail
theorem f44 (k : List UInt8) (hk : k.length = 32) (f : Bool) : SCall Try.prog 44 [.sl 0 0 32 1 f] [some (.ro (k.map .u8))] (.sl 1 0 32 1 false) [some (.ro (k.map .u8)), some (.row 5 ((pubN k).map .u8))] := by
  have q24 := f24 9
  rw [show (9 : UInt32).toNat = 9 from rfl] at q24
  have q92 := f92 k hk (by decide : 9 < P25519) f
  rw [show le32 (timesN (clampL k) 9) = pubN k by unfold pubN; rfl] at q92
  refine scall_of ttOk (by kernel_rfl : Try.prog.funcs[44]? = some Try.f44) rfl rfl rfl ?_
  try simp only [List.length_cons, List.length_nil, Nat.zero_add, Nat.reduceAdd]
  refine sw_ok ttOk mixed (by kernel_rfl) ?_
  conv => whnf
  repeat (fail)
  refine ok1_callF [] [true] false (q24) rfl rfl ⟨⟨rfl, by first | rfl | fail⟩, trivial, by first | rfl | fail, by first | rfl | fail, ?_⟩
  conv => whnf
  repeat (fail)
  refine ok1_callF [0, 1] [false, false, true] false (q92) rfl rfl ⟨⟨rfl, by first | rfl | fail⟩, by (repeat' (first | exact trivial | refine And.intro ?_ ?_)) <;> first | rfl | exact ren_eq (by first | (simp; done) | fail) (by first | rfl | fail) | fail, by first | simp [plainHf, plainB], by first | rfl | fail, ?_⟩
  conv => whnf
  repeat (fail)
  refine ⟨[0, 2], ?_, rfl, rfl, ?_, rfl⟩
  · (repeat' (fail)) <;> first | rfl | fail
  · (repeat' (first | exact trivial | refine And.intro ?_ ?_ | fail)) <;> first | rfl | exact ren_eq (by first | (simp; done) | fail) (by first | rfl | fail) | fail
theorem f38 : SCall Try.prog 38 [] [] (.b true) [] := by
  have h1 : shN rowA rowB = rowC := by unfold shN; exact known_1
  have h2 : shN rowA zer = zer := by unfold shN zer; rw [known_4.1, known_2]; decide +kernel
  have h3 : shN rowA (1 :: List.replicate 31 0) = zer := by unfold shN zer; rw [known_4.2, known_3]; decide +kernel
  have n1 : rowC ≠ zer := by decide
  have q1 := f40 rowA rowB rfl rfl
  have q2 := f40 rowA zer rfl rfl
  have q3 := f40 rowA (1 :: List.replicate 31 0) rfl rfl
  rw [h1, if_neg n1] at q1
  rw [h2, if_pos rfl] at q2
  rw [h3, if_pos rfl] at q3
  refine scall_of ttOk (by kernel_rfl : Try.prog.funcs[38]? = some Try.f38) rfl rfl rfl ?_
  try simp only [List.length_cons, List.length_nil, Nat.zero_add, Nat.reduceAdd]
  refine sw_ok ttOk mixed (by kernel_rfl) ?_
  conv => whnf
  repeat (fail)
  refine ok1_callF [] [] true (f90) rfl rfl ⟨⟨rfl, by first | rfl | fail⟩, trivial, by first | rfl | fail, by first | rfl | fail, ?_⟩
  conv => whnf
  repeat (first | (refine Exists.intro _ (And.intro (sload_all rfl (by first | rfl | fail)) ?_); conv => whnf) | (refine Exists.intro _ (And.intro (sput_all rfl (by first | rfl | fail)) ?_); conv => whnf) | (refine And.intro ⟨rfl, Nat.le_of_ble_eq_true rfl⟩ ?_; conv => whnf) | fail)
  refine ok1_callF [] [] true (q1) rfl rfl ⟨⟨rfl, by first | rfl | fail⟩, trivial, by first | rfl | fail, by first | rfl | fail, ?_⟩
  conv => whnf
  repeat (first | (refine Exists.intro _ (And.intro (sload_all rfl (by first | rfl | fail)) ?_); conv => whnf) | (refine Exists.intro _ (And.intro (sput_all rfl (by first | rfl | fail)) ?_); conv => whnf) | (refine Exists.intro _ (And.intro rfl ?_); conv => whnf) | (refine And.intro ⟨rfl, Nat.le_of_ble_eq_true rfl⟩ ?_; conv => whnf) | fail)
  refine ok1_callF [] [] true (q2) rfl rfl ⟨⟨rfl, by first | rfl | fail⟩, trivial, by first | rfl | fail, by first | rfl | fail, ?_⟩
  conv => whnf
  repeat (first | (refine Exists.intro _ (And.intro (sload_all rfl (by first | rfl | fail)) ?_); conv => whnf) | (refine Exists.intro _ (And.intro (sput_all rfl (by first | rfl | fail)) ?_); conv => whnf) | (refine Exists.intro _ (And.intro rfl ?_); conv => whnf) | (refine And.intro ⟨rfl, Nat.le_of_ble_eq_true rfl⟩ ?_; conv => whnf) | fail)
  refine ok1_callF [] [] true (q3) rfl rfl ⟨⟨rfl, by first | rfl | fail⟩, trivial, by first | rfl | fail, by first | rfl | fail, ?_⟩
  conv => whnf
  repeat (first | (refine brT rfl ?_; conv => whnf) | (refine Exists.intro _ (And.intro (sload_all rfl (by first | rfl | fail)) ?_); conv => whnf) | (refine Exists.intro _ (And.intro (sput_all rfl (by first | rfl | fail)) ?_); conv => whnf) | (refine Exists.intro _ (And.intro rfl ?_); conv => whnf) | (refine And.intro ⟨rfl, rfl⟩ ?_; conv => whnf) | (refine And.intro ⟨rfl, Nat.le_of_ble_eq_true rfl⟩ ?_; conv => whnf) | fail)
  refine ⟨[], ?_, rfl, rfl, ?_, rfl⟩
  · (repeat' (fail)) <;> first | rfl | fail
  · (repeat' (first | exact trivial | fail)) <;> fail
end Go.Sh
/- curve's laws: CurveTells (f7), walked. -/
namespace Go.Sh
open Go.Proofs
set_option maxHeartbeats 8000000
set_option linter.unusedSimpArgs false
set_option linter.unusedVariables false

attribute [local irreducible] shN pubN clampL
theorem f7 (k p : List UInt8) (hk : k.length = 32) (hp : p.length = 32) : SCall Try.prog 7 [.agg (k.map .u8), .agg (p.map .u8)] [] (.b true) [] := by
  have hcl : (clampL k).length = 32 := by rw [clamp_len]; exact hk
  have hsl := shN_len k p
  have hpl := pubN_len k
  have q39 := f39 k hk
  have q41 := f41 k hk
  have q42 := f42 k hk true
  have q43 := f43 k p hk hp true true
  have q44 := f44 k hk true
  by_cases hz : shN k p = zer
  ·
    have q40 := f40 k p hk hp
    rw [if_pos hz] at q40
    have he : (((70 : Int) == 70) == eqcs ((shN k p).map SV.u8) (zer.map SV.u8)) = true := by rw [eqcs_dec _ _ (by rw [hsl]; rfl), decide_eq_true hz]; rfl
    refine scall_of ttOk (by kernel_rfl : Try.prog.funcs[7]? = some Try.f7) rfl rfl rfl ?_
    try simp only [List.length_cons, List.length_nil, Nat.zero_add, Nat.reduceAdd]
    refine sw_ok ttOk mixed (by kernel_rfl) ?_
    conv => whnf
    repeat (fail)
    refine ok1_callF [] [] true (f38) rfl rfl ⟨⟨rfl, by first | rfl | fail⟩, trivial, by first | rfl | fail, by first | rfl | fail, ?_⟩
    conv => whnf
    repeat (first | (refine brF rfl ?_; conv => whnf) | (refine Exists.intro _ (And.intro (sload_all rfl (by first | rfl | (simp [hk, hp]; done) | fail)) ?_); conv => whnf) | fail)
    refine ok1_callF [] [] true (q39) rfl rfl ⟨⟨rfl, by first | ((repeat' (first | exact wk_nil | exact ren_m8 rfl | (refine wk_agg ?_) | (refine wk_cons ?_ ?_))); done) | fail⟩, trivial, by first | rfl | fail, by first | simp [plainRf, plainR, plainT, plainW], ?_⟩
    conv => whnf
    repeat (first | (refine Exists.intro _ (And.intro (sload_all rfl (by first | rfl | (simp [hk, hp, hcl]; done) | fail)) ?_); conv => whnf) | (refine Exists.intro _ (And.intro (sput_all rfl (by first | rfl | (simp [hk, hp, hcl]; done) | fail)) ?_); conv => whnf) | (refine And.intro (by first | omega | (simp; omega) | fail) ?_; conv => whnf) | fail)
    refine ok1_callF [] [] true (q40) rfl rfl ⟨⟨rfl, by first | ((repeat' (first | exact wk_nil | exact ren_m8 rfl | (refine wk_agg ?_) | (refine wk_cons ?_ ?_))); done) | fail⟩, trivial, by first | rfl | fail, by first | simp [plainRf, plainR, plainT, plainW], ?_⟩
    conv => whnf
    repeat (first | (refine Exists.intro _ (And.intro (sload_all rfl (by first | rfl | (simp [hk, hp, hcl, hsl]; done) | fail)) ?_); conv => whnf) | (refine Exists.intro _ (And.intro (sput_all rfl (by first | rfl | (simp [hk, hp, hcl, hsl]; done) | fail)) ?_); conv => whnf) | (refine And.intro (by first | omega | (simp; omega) | fail) ?_; conv => whnf) | fail)
    refine ok1_callF [] [] true (q41) rfl rfl ⟨⟨rfl, by first | ((repeat' (first | exact wk_nil | exact ren_m8 rfl | (refine wk_agg ?_) | (refine wk_cons ?_ ?_))); done) | fail⟩, trivial, by first | rfl | fail, by first | simp [plainRf, plainR, plainT, plainW], ?_⟩
    conv => whnf
    repeat (first | (refine Exists.intro _ (And.intro (bytesOf_cut rfl) ?_); conv => whnf) | (refine Exists.intro _ (And.intro (sput_all rfl (by first | rfl | (simp [hk, hp, hcl, hsl, hpl]; done) | fail)) ?_); conv => whnf) | (refine Exists.intro _ (And.intro rfl ?_); conv => whnf) | (refine And.intro (by first | omega | (simp; omega) | fail) ?_; conv => whnf) | fail)
    refine ok1_callF [0] [false, true] false (q42) rfl rfl ⟨⟨rfl, by first | rfl | fail⟩, by (repeat' (first | exact trivial | refine And.intro ?_ ?_)) <;> first | exact ren_eq (by first | (simp; done) | fail) (by first | rfl | fail) | fail, by first | simp [plainHf, plainB], by first | rfl | fail, ?_⟩
    conv => whnf
    repeat (first | (refine Exists.intro _ (And.intro (bytesOf_cut rfl) ?_); conv => whnf) | (refine Exists.intro _ (And.intro rfl ?_); conv => whnf) | (refine gdT (by first | (simp; done) | fail) ?_; conv => whnf) | (refine And.intro (by first | omega | (simp; omega) | fail) ?_; conv => whnf) | fail)
    refine ok1_callF [0, 1] [false, false, true] false (q43) rfl rfl ⟨⟨rfl, by first | rfl | fail⟩, by (repeat' (first | exact trivial | refine And.intro ?_ ?_)) <;> first | exact ren_eq (by first | (simp; done) | fail) (by first | rfl | fail) | fail, by first | simp [plainHf, plainB], by first | rfl | fail, ?_⟩
    conv => whnf
    repeat (first | (refine Exists.intro _ (And.intro (bytesOf_cut rfl) ?_); conv => whnf) | (refine Exists.intro _ (And.intro (sload_all rfl (by first | rfl | (simp [hk, hp, hcl, hsl, hpl]; done) | fail)) ?_); conv => whnf) | (refine Exists.intro _ (And.intro rfl ?_); conv => whnf) | (refine gdT (by first | (simp; done) | fail) ?_; conv => whnf) | (refine pkT (by first | (simp; done) | fail) ?_; conv => whnf) | (refine And.intro (by first | (simp; omega) | fail) ?_; conv => whnf) | fail)
    refine And.intro ⟨kd_u8n _ hsl, kd_u8n zer rfl⟩ ?_
    conv => whnf
    repeat (first | (refine Exists.intro _ (And.intro (bytesOf_cut rfl) ?_); conv => whnf) | (refine brT rfl ?_; conv => whnf) | (refine gdT rfl ?_; conv => whnf) | (refine gdT he ?_; conv => whnf) | (refine pkT he ?_; conv => whnf) | (refine Exists.intro _ (And.intro rfl ?_); conv => whnf) | (refine gdT (by first | (simp; done) | fail) ?_; conv => whnf) | (refine pkT (by first | (simp; done) | fail) ?_; conv => whnf) | (refine And.intro (by first | omega | (simp; omega) | fail) ?_; conv => whnf) | (refine And.intro (by kernel_rfl) ?_; conv => whnf) | fail)
    refine ok1_callF [0] [false, true] false (q44) rfl rfl ⟨⟨rfl, by first | rfl | fail⟩, by (repeat' (first | exact trivial | refine And.intro ?_ ?_)) <;> first | exact ren_eq (by first | (simp; done) | fail) (by first | rfl | fail) | fail, by first | simp [plainHf, plainB], by first | rfl | fail, ?_⟩
    conv => whnf
    repeat (first | (refine Exists.intro _ (And.intro (bytesOf_cut rfl) ?_); conv => whnf) | (refine brT rfl ?_; conv => whnf) | (refine Exists.intro _ (And.intro rfl ?_); conv => whnf) | (refine And.intro (by first | omega | (simp; omega) | fail) ?_; conv => whnf) | (refine And.intro (by kernel_rfl) ?_; conv => whnf) | fail)
    refine ⟨[], ?_, rfl, rfl, ?_, rfl⟩
    · (repeat' (fail)) <;> first | exact wk_b (by first | (simp; done) | fail) | fail
    · (repeat' (first | exact trivial | fail)) <;> fail
  ·
    have q40 := f40 k p hk hp
    rw [if_neg hz] at q40
    have he : (((0 : Int) == 70) == eqcs ((shN k p).map SV.u8) (zer.map SV.u8)) = true := by rw [eqcs_dec _ _ (by rw [hsl]; rfl), decide_eq_false hz]; rfl
    refine scall_of ttOk (by kernel_rfl : Try.prog.funcs[7]? = some Try.f7) rfl rfl rfl ?_
    try simp only [List.length_cons, List.length_nil, Nat.zero_add, Nat.reduceAdd]
    refine sw_ok ttOk mixed (by kernel_rfl) ?_
    conv => whnf
    repeat (fail)
    refine ok1_callF [] [] true (f38) rfl rfl ⟨⟨rfl, by first | rfl | fail⟩, trivial, by first | rfl | fail, by first | rfl | fail, ?_⟩
    conv => whnf
    repeat (first | (refine brF rfl ?_; conv => whnf) | (refine Exists.intro _ (And.intro (sload_all rfl (by first | rfl | (simp [hk, hp]; done) | fail)) ?_); conv => whnf) | fail)
    refine ok1_callF [] [] true (q39) rfl rfl ⟨⟨rfl, by first | ((repeat' (first | exact wk_nil | exact ren_m8 rfl | (refine wk_agg ?_) | (refine wk_cons ?_ ?_))); done) | fail⟩, trivial, by first | rfl | fail, by first | simp [plainRf, plainR, plainT, plainW], ?_⟩
    conv => whnf
    repeat (first | (refine Exists.intro _ (And.intro (sload_all rfl (by first | rfl | (simp [hk, hp, hcl]; done) | fail)) ?_); conv => whnf) | (refine Exists.intro _ (And.intro (sput_all rfl (by first | rfl | (simp [hk, hp, hcl]; done) | fail)) ?_); conv => whnf) | (refine And.intro (by first | omega | (simp; omega) | fail) ?_; conv => whnf) | fail)
    refine ok1_callF [] [] true (q40) rfl rfl ⟨⟨rfl, by first | ((repeat' (first | exact wk_nil | exact ren_m8 rfl | (refine wk_agg ?_) | (refine wk_cons ?_ ?_))); done) | fail⟩, trivial, by first | rfl | fail, by first | simp [plainRf, plainR, plainT, plainW], ?_⟩
    conv => whnf
    repeat (first | (refine Exists.intro _ (And.intro (sload_all rfl (by first | rfl | (simp [hk, hp, hcl, hsl]; done) | fail)) ?_); conv => whnf) | (refine Exists.intro _ (And.intro (sput_all rfl (by first | rfl | (simp [hk, hp, hcl, hsl]; done) | fail)) ?_); conv => whnf) | (refine And.intro (by first | omega | (simp; omega) | fail) ?_; conv => whnf) | fail)
    refine ok1_callF [] [] true (q41) rfl rfl ⟨⟨rfl, by first | ((repeat' (first | exact wk_nil | exact ren_m8 rfl | (refine wk_agg ?_) | (refine wk_cons ?_ ?_))); done) | fail⟩, trivial, by first | rfl | fail, by first | simp [plainRf, plainR, plainT, plainW], ?_⟩
    conv => whnf
    repeat (first | (refine Exists.intro _ (And.intro (bytesOf_cut rfl) ?_); conv => whnf) | (refine Exists.intro _ (And.intro (sput_all rfl (by first | rfl | (simp [hk, hp, hcl, hsl, hpl]; done) | fail)) ?_); conv => whnf) | (refine Exists.intro _ (And.intro rfl ?_); conv => whnf) | (refine And.intro (by first | omega | (simp; omega) | fail) ?_; conv => whnf) | fail)
    refine ok1_callF [0] [false, true] false (q42) rfl rfl ⟨⟨rfl, by first | rfl | fail⟩, by (repeat' (first | exact trivial | refine And.intro ?_ ?_)) <;> first | exact ren_eq (by first | (simp; done) | fail) (by first | rfl | fail) | fail, by first | simp [plainHf, plainB], by first | rfl | fail, ?_⟩
    conv => whnf
    repeat (first | (refine Exists.intro _ (And.intro (bytesOf_cut rfl) ?_); conv => whnf) | (refine Exists.intro _ (And.intro rfl ?_); conv => whnf) | (refine gdT (by first | (simp; done) | fail) ?_; conv => whnf) | (refine And.intro (by first | omega | (simp; omega) | fail) ?_; conv => whnf) | fail)
    refine ok1_callF [0, 1] [false, false, true] false (q43) rfl rfl ⟨⟨rfl, by first | rfl | fail⟩, by (repeat' (first | exact trivial | refine And.intro ?_ ?_)) <;> first | exact ren_eq (by first | (simp; done) | fail) (by first | rfl | fail) | fail, by first | simp [plainHf, plainB], by first | rfl | fail, ?_⟩
    conv => whnf
    repeat (first | (refine Exists.intro _ (And.intro (bytesOf_cut rfl) ?_); conv => whnf) | (refine Exists.intro _ (And.intro (sload_all rfl (by first | rfl | (simp [hk, hp, hcl, hsl, hpl]; done) | fail)) ?_); conv => whnf) | (refine Exists.intro _ (And.intro rfl ?_); conv => whnf) | (refine gdT (by first | (simp; done) | fail) ?_; conv => whnf) | (refine pkT (by first | (simp; done) | fail) ?_; conv => whnf) | (refine And.intro (by first | (simp; omega) | fail) ?_; conv => whnf) | fail)
    refine And.intro ⟨kd_u8n _ hsl, kd_u8n zer rfl⟩ ?_
    conv => whnf
    repeat (first | (refine Exists.intro _ (And.intro (bytesOf_cut rfl) ?_); conv => whnf) | (refine brT rfl ?_; conv => whnf) | (refine gdF rfl ?_; conv => whnf) | (refine gdT he ?_; conv => whnf) | (refine pkT he ?_; conv => whnf) | (refine Exists.intro _ (And.intro rfl ?_); conv => whnf) | (refine gdT (by first | (simp; done) | fail) ?_; conv => whnf) | (refine pkT (by first | (simp; done) | fail) ?_; conv => whnf) | (refine And.intro (by first | omega | (simp; omega) | fail) ?_; conv => whnf) | (refine And.intro (by kernel_rfl) ?_; conv => whnf) | fail)
    refine ok1_callF [0] [false, true] false (q44) rfl rfl ⟨⟨rfl, by first | rfl | fail⟩, by (repeat' (first | exact trivial | refine And.intro ?_ ?_)) <;> first | exact ren_eq (by first | (simp; done) | fail) (by first | rfl | fail) | fail, by first | simp [plainHf, plainB], by first | rfl | fail, ?_⟩
    conv => whnf
    repeat (first | (refine Exists.intro _ (And.intro (bytesOf_cut rfl) ?_); conv => whnf) | (refine brT rfl ?_; conv => whnf) | (refine Exists.intro _ (And.intro rfl ?_); conv => whnf) | (refine And.intro (by first | omega | (simp; omega) | fail) ?_; conv => whnf) | (refine And.intro (by kernel_rfl) ?_; conv => whnf) | fail)
    refine ⟨[], ?_, rfl, rfl, ?_, rfl⟩
    · (repeat' (fail)) <;> first | exact wk_b (by first | (simp; done) | fail) | fail
    · (repeat' (first | exact trivial | fail)) <;> fail
end Go.Sh
