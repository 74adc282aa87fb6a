/- Functions: what they promise; how one is called. -/
import Derived.Test.YtaknbogocnkmnaaSh13
namespace Go.Sh
set_option linter.unusedSimpArgs false

structure FnOk (P : Program) (f : Nat) : Prop where
  ex : ∃ fn, P.funcs[f]? = some fn ∧ fn.body.isNone = false ∧ (fn.name == "runtime.NumGoroutine") = false

def CallR (ρ : Ren) (H0 : HL) (w : World) (ret : SV) (H1 : HL) : Ending → World → Prop
  | .returned v, w' => ∃ ρ', Rel ρ' ret v ∧ HRel ρ' (hg H1) w' ∧ Sep ρ' (hg H1) ∧ (∀ id, H1.length ≤ id → ρ' id = none) ∧ EvA H0.length ρ (hg H0) w ρ' (hg H1) w'
  | _, _ => False

/-- A function's promise: names of its own for the blocks that it is handed. -/
structure SCall (P : Program) (f : Nat) (args : List SV) (H0 : HL) (ret : SV) (H1 : HL) : Prop where
  fn : FnOk P f
  call : ∀ n ρ w vs, Rels ρ args vs → HRel ρ (hg H0) w → Sep ρ (hg H0) → (∀ id, H0.length ≤ id → ρ id = none) → CallsIn Fence.wide n P f ⟨vs⟩ w (CallR ρ H0 w ret H1)

/-! ### A call, as an operation -/

section
variable {P : Program} {ρ : Ren} {w : World}

theorem run_callFunc {f : Nat} (hf : FnOk P f) (args : Array Value) : (callFunc f args).run P w = .ok (.enter f args) w := by
  obtain ⟨fn, h1, h2, h3⟩ := hf.ex
  unfold callFunc
  simp only [Sem.run_bind]
  have hp : (program).run P w = .ok P w := by simp
  rw [hp]
  simp only [Result.andThen, h1, h3, h2]
  simp

theorem run_call {o : Oper} {e : Operand → Value} {x : Operand} {args : Array Operand} {tys : Array TypeId} {f : Nat} {caps : Array Value} (ho : o.op = .call ⟨.value x, args, tys⟩) (hx : e x = .func (.func f) #[] caps) (hf : FnOk P f) :
    (execOp e o).run P w = .ok (.enter f (args.map e ++ caps)) w := by
  unfold execOp
  simp only [ho, resolve, hx, Deferred.ofValue, Sem.run_bind, Sem.run_pure, Result.andThen, invoke, run_callFunc hf]
  simp

end

/-- The updates that a call brings: each block that was owned, and each new one. -/
def cW (sel : List Nat) : List Nat → HL → HL → Option Upd
  | s :: ss, some b0 :: H0, ob :: H1 => match cW sel ss H0 H1 with
    | some W => match b0.own with
      | false => some W
      | true => match ob with
        | none => some ((s, none) :: W)
        | some b => match b.own with
          | true => match renB sel b with | some b' => some ((s, some b') :: W) | none => none
          | false => none
    | none => none
  | s :: ss, [], ob :: H1 => match cW sel ss [] H1 with
    | some W => match ob with
      | none => some ((s, none) :: W)
      | some b => match b.own with
        | true => match renB sel b with | some b' => some ((s, some b') :: W) | none => none
        | false => none
    | none => none
  | [], [], [] => some []
  | _, _, _ => none

def EntOk (sel : List Nat) (H0 H1 : HL) (j : Nat) (ob : Option SB) : Prop :=
  (H0.length ≤ j ∨ ∃ b0, hg H0 j = some b0 ∧ b0.own = true) ∧ j < H1.length ∧ match ob with
    | none => hg H1 j = none
    | some b' => ∃ b, hg H1 j = some b ∧ b.own = true ∧ renB sel b = some b'

theorem EntOk.succ {sel : List Nat} {H0 H1 : HL} {j : Nat} {ob x y : Option SB} (h : EntOk sel H0 H1 j ob) : EntOk sel (x :: H0) (y :: H1) (j + 1) ob := by
  obtain ⟨h1, h2, h3⟩ := h
  refine ⟨h1.imp (fun h => by simpa using h) (fun h => by simpa [hg] using h), by simpa using h2, ?_⟩
  cases ob <;> simpa [hg] using h3
theorem EntOk.succ0 {sel : List Nat} {H1 : HL} {j : Nat} {ob y : Option SB} (h : EntOk sel [] H1 j ob) : EntOk sel [] (y :: H1) (j + 1) ob := by
  obtain ⟨h1, h2, h3⟩ := h
  refine ⟨.inl (by simp), by simpa using h2, ?_⟩
  cases ob <;> simpa [hg] using h3

theorem cW_spec {sel : List Nat} : ∀ {ss : List Nat} {H0 H1 : HL} {W : Upd}, cW sel ss H0 H1 = some W →
    ss.length = H1.length ∧ H0.length ≤ H1.length ∧ (∀ id ob, (id, ob) ∈ W → ∃ j, ss[j]? = some id ∧ EntOk sel H0 H1 j ob) ∧
    (∀ j s, ss[j]? = some s → (H0.length ≤ j ∨ ∃ b0, hg H0 j = some b0 ∧ b0.own = true) → ∃ ob, (s, ob) ∈ W) ∧ ∀ j, j < H0.length → ∃ b0, hg H0 j = some b0
  | s :: ss, some b0 :: H0, ob :: H1, W, h => by
    simp only [cW] at h
    split at h
    · rename_i W' hW'
      obtain ⟨e1, e2, e3, e4, e5⟩ := cW_spec hW'
      have c5 : ∀ j, j < (some b0 :: H0).length → ∃ b1, hg (some b0 :: H0) j = some b1 := by
        intro j hj
        cases j with
        | zero => exact ⟨b0, rfl⟩
        | succ j => obtain ⟨b1, hb1⟩ := e5 j (by simpa using hj); exact ⟨b1, by simpa [hg] using hb1⟩
      have back : ∀ id ob', (id, ob') ∈ W' → ∃ j, (s :: ss)[j]? = some id ∧ EntOk sel (some b0 :: H0) (ob :: H1) j ob' := by
        intro id ob' hm
        obtain ⟨j, h1, h2⟩ := e3 id ob' hm
        exact ⟨j + 1, by simpa using h1, h2.succ⟩
      have fwd : ∀ j s', (s :: ss)[j + 1]? = some s' → ((some b0 :: H0).length ≤ j + 1 ∨ ∃ b1, hg (some b0 :: H0) (j + 1) = some b1 ∧ b1.own = true) → ∃ ob, (s', ob) ∈ W' := by
        intro j s' h1 h2
        exact e4 j s' (by simpa using h1) (h2.imp (fun h => by simpa using h) (fun h => by simpa [hg] using h))
      split at h
      · rename_i hown
        cases h
        refine ⟨by simp [e1], by simpa using e2, back, fun j s' h1 h2 => ?_, c5⟩
        cases j with
        | zero =>
          rcases h2 with h2 | ⟨b1, h2, h3⟩
          · simp at h2
          · have : b0 = b1 := by simpa [hg] using h2
            subst this; rw [hown] at h3; cases h3
        | succ j => exact fwd j s' h1 h2
      · rename_i hown
        have fin : ∀ ob', EntOk sel (some b0 :: H0) (ob :: H1) 0 ob' → W = (s, ob') :: W' → (s :: ss).length = (ob :: H1).length ∧ (some b0 :: H0).length ≤ (ob :: H1).length ∧ (∀ id ob1, (id, ob1) ∈ W → ∃ j, (s :: ss)[j]? = some id ∧ EntOk sel (some b0 :: H0) (ob :: H1) j ob1) ∧
            (∀ j s', (s :: ss)[j]? = some s' → ((some b0 :: H0).length ≤ j ∨ ∃ b1, hg (some b0 :: H0) j = some b1 ∧ b1.own = true) → ∃ ob, (s', ob) ∈ W) ∧ ∀ j, j < (some b0 :: H0).length → ∃ b1, hg (some b0 :: H0) j = some b1 := by
          intro ob' hok e
          subst e
          refine ⟨by simp [e1], by simpa using e2, fun id ob1 hm => ?_, fun j s' h1 h2 => ?_, c5⟩
          · rcases List.mem_cons.1 hm with hm | hm
            · cases hm; exact ⟨0, rfl, hok⟩
            · exact back id ob1 hm
          · cases j with
            | zero => simp at h1; subst h1; exact ⟨ob', List.mem_cons_self ..⟩
            | succ j => obtain ⟨ob2, h3⟩ := fwd j s' h1 h2; exact ⟨ob2, List.mem_cons_of_mem _ h3⟩
        split at h
        · cases h
          exact fin none ⟨.inr ⟨b0, rfl, hown⟩, by simp, rfl⟩ rfl
        · rename_i b
          split at h
          · rename_i hbo
            split at h
            · rename_i b' hb'
              cases h
              exact fin (some b') ⟨.inr ⟨b0, rfl, hown⟩, by simp, b, rfl, hbo, hb'⟩ rfl
            · cases h
          · cases h
    · cases h
  | s :: ss, [], ob :: H1, W, h => by
    simp only [cW] at h
    split at h
    · rename_i W' hW'
      obtain ⟨e1, e2, e3, e4, e5⟩ := cW_spec hW'
      have fin : ∀ ob', EntOk sel [] (ob :: H1) 0 ob' → W = (s, ob') :: W' → (s :: ss).length = (ob :: H1).length ∧ ([] : HL).length ≤ (ob :: H1).length ∧ (∀ id ob1, (id, ob1) ∈ W → ∃ j, (s :: ss)[j]? = some id ∧ EntOk sel [] (ob :: H1) j ob1) ∧
          (∀ j s', (s :: ss)[j]? = some s' → (([] : HL).length ≤ j ∨ ∃ b1, hg [] j = some b1 ∧ b1.own = true) → ∃ ob, (s', ob) ∈ W) ∧ ∀ j, j < ([] : HL).length → ∃ b1, hg [] j = some b1 := by
        intro ob' hok e
        subst e
        refine ⟨by simp [e1], by simp, fun id ob1 hm => ?_, fun j s' h1 h2 => ?_, fun j hj => by simp at hj⟩
        · rcases List.mem_cons.1 hm with hm | hm
          · cases hm; exact ⟨0, rfl, hok⟩
          · obtain ⟨j, h1, h2⟩ := e3 id ob1 hm; exact ⟨j + 1, by simpa using h1, h2.succ0⟩
        · cases j with
          | zero => simp at h1; subst h1; exact ⟨ob', List.mem_cons_self ..⟩
          | succ j => obtain ⟨ob2, h3⟩ := e4 j s' (by simpa using h1) (.inl (by simp)); exact ⟨ob2, List.mem_cons_of_mem _ h3⟩
      split at h
      · cases h
        exact fin none ⟨.inl (by simp), by simp, rfl⟩ rfl
      · rename_i b
        split at h
        · rename_i hbo
          split at h
          · rename_i b' hb'
            cases h
            exact fin (some b') ⟨.inl (by simp), by simp, b, rfl, hbo, hb'⟩ rfl
          · cases h
        · cases h
    · cases h
  | [], [], [], W, h => by
    simp only [cW, Option.some.injEq] at h; subst h
    exact ⟨rfl, Nat.le_refl _, fun _ _ hm => by simp at hm, fun _ _ h => by simp at h, fun j hj => by simp at hj⟩
  | [], [], _ :: _, W, h => by simp [cW] at h
  | [], _ :: _, _, W, h => by simp [cW] at h
  | _ :: _, [], [], W, h => by simp [cW] at h
  | _ :: _, none :: _, _, W, h => by simp [cW] at h
  | _ :: _, some _ :: _, [], W, h => by simp [cW] at h

/-- New names: behind L. -/
def newSel (L : Nat) : Nat → List Nat
  | 0 => []
  | n + 1 => L :: newSel (L + 1) n
theorem newSel_get : ∀ {n L j : Nat}, (newSel L n)[j]? = if j < n then some (L + j) else none
  | 0, L, j => by simp [newSel]
  | n + 1, L, j => by
    cases j with
    | zero => simp [newSel]
    | succ j =>
      simp only [newSel, List.getElem?_cons_succ, newSel_get]
      by_cases h : j < n
      · rw [if_pos h, if_pos (by omega)]; congr 1; omega
      · rw [if_neg h, if_neg (by omega)]
theorem newSel_len : ∀ {n L : Nat}, (newSel L n).length = n
  | 0, L => rfl
  | n + 1, L => by simp [newSel, newSel_len]

/-- An operation that ends as a call does, in names of its own. -/
theorem lt_of_callR {P : Program} {o : Oper} {R : Env} {H : HL} {L : Nat} {sel : List Nat} {H0 H1 : HL} {ret z : SV} {W : Upd} (hl : H.length ≤ L)
    (hlen : sel.length = H0.length) (hok : okH sel H sel H0) (hd : dupOk sel 0 sel H0 = true) (hW : cW (sel ++ newSel L (H1.length - H0.length)) (sel ++ newSel L (H1.length - H0.length)) H0 H1 = some W)
    (hz : renV (sel ++ newSel L (H1.length - H0.length)) ret = some z)
    (hex : ∀ (r : Option Nat) (n : Nat) (a : Act) (w : World) (ρ : Ren) (next : Act → World → Prop) (Q : Exit → Act → World → Prop), (∀ t ∈ readsOf o, ∀ v, R t = some v → Rel ρ v (a.tmps.getD t undef)) →
      HRel (pullR sel ρ) (hg H0) w → Sep (pullR sel ρ) (hg H0) → (∀ id, H0.length ≤ id → pullR sel ρ id = none) →
      (∀ v w', CallR (pullR sel ρ) H0 w ret H1 (.returned v) w' → next (a.put o.dst v) w') → o.wpIn (Fw r) n P a w next Q) : LT P o R (hg H) sel W (some z) := by
  intro r n a w ρ next Q hR hF hS hfresh hk
  obtain ⟨w1, w2, w3, w4, w5⟩ := cW_spec hW
  have s1 : ∀ j, j < H0.length → (sel ++ newSel L (H1.length - H0.length))[j]? = sel[j]? := fun j hj => List.getElem?_append_left (by omega)
  have s2 : ∀ j, H0.length ≤ j → (sel ++ newSel L (H1.length - H0.length))[j]? = if j < H1.length then some (L + (j - H0.length)) else none := fun j hj => by
    rw [List.getElem?_append_right (by omega), newSel_get, hlen]
    by_cases h : j < H1.length
    · rw [if_pos (by omega), if_pos h]
    · rw [if_neg (by omega), if_neg h]
  -- the blocks handed over
  have hin : ∀ j b0, hg H0 j = some b0 → ∃ s b rb, sel[j]? = some s ∧ hg H s = some b ∧ okB sel b0 b ∧ ρ s = some rb ∧ BRel ρ w rb b := by
    intro j b0 hj
    obtain ⟨s, b, e1, e2, e3⟩ := okH_get hok hj
    obtain ⟨rb, hr, hb⟩ := hF s (List.mem_of_getElem? e1) b e2
    exact ⟨s, b, rb, e1, e2, e3, hr, hb⟩
  have hL : ∀ s b, hg H s = some b → s < L := fun s b h => hk_lt hl (by rw [hk_eq]; exact h)
  let ρc := pullR sel ρ
  have hH0 : HRel ρc (hg H0) w := by
    intro j b0 hj
    obtain ⟨s, b, rb, e1, e2, e3, e4, e5⟩ := hin j b0 hj
    exact ⟨rb, by simp only [ρc, pullR, e1]; exact e4, (okB_brel e3 e5).1⟩
  have hsep0 : Sep ρc (hg H0) := by
    intro i j bi bj ri rj hne hi hj hri hrj hown k q ⟨hfi, hfj⟩
    obtain ⟨si, ci, rbi, e1, e2, e3, e4, e5⟩ := hin i bi hi
    obtain ⟨sj, cj, rbj, f1, f2, f3, f4, f5⟩ := hin j bj hj
    simp only [ρc, pullR, e1] at hri
    simp only [ρc, pullR, f1] at hrj
    rw [e4] at hri; cases hri
    rw [f4] at hrj; cases hrj
    obtain ⟨_, g2, g3⟩ := okB_brel e3 e5
    obtain ⟨_, g4, g5⟩ := okB_brel f3 f5
    by_cases hss : si = sj
    · subst hss
      have := dupOk_spec hd e1 hi hown j f1
      omega
    · exact hS si (List.mem_of_getElem? e1) sj (List.mem_of_getElem? f1) ci cj _ _ hss e2 f2 e4 f4 (g3 hown) k q ⟨g2 k q hfi, g4 k q hfj⟩
  have hfr0 : ∀ id, H0.length ≤ id → ρc id = none := fun id hid => by
    have : sel[id]? = none := List.getElem?_eq_none (by omega)
    simp only [ρc, pullR, this]
  refine hex r n a w ρ next Q hR hH0 hsep0 hfr0 (fun v w' hr' => ?_)
  · obtain ⟨ρ', q1, q2, q3, q4, q5⟩ := hr'
    -- the names without
    let ρo : Ren := fun id => match ρ id with | some rb => some rb | none => if L ≤ id ∧ id < L + (H1.length - H0.length) then ρ' (H0.length + (id - L)) else none
    have hnew : ∀ i, i < H1.length - H0.length → ρ (L + i) = none := by
      intro i hi
      obtain ⟨ob, hm⟩ := w4 (H0.length + i) (L + i) (by rw [s2 _ (by omega), if_pos (by omega)]; congr 1; omega) (.inl (by omega))
      refine hfresh _ ob hm ?_
      intro hmem
      obtain ⟨j, hj⟩ := List.getElem?_of_mem hmem
      have hj' : j < H0.length := by have := (List.getElem?_eq_some_iff.1 hj).1; omega
      obtain ⟨b0, hb0⟩ := w5 j hj'
      obtain ⟨s, b, rb, e1, e2, _⟩ := hin j b0 hb0
      rw [hj] at e1; cases e1
      have := hL _ _ e2
      omega
    have hpull : pullR (sel ++ newSel L (H1.length - H0.length)) ρo = ρ' := by
      funext j
      by_cases hj : j < H0.length
      · obtain ⟨b0, hb0⟩ := w5 j hj
        obtain ⟨s, b, rb, e1, e2, e3, e4, e5⟩ := hin j b0 hb0
        have h1 : ρ' j = some rb := q5.ext j hj rb (by simp only [ρc, pullR, e1]; exact e4)
        simp only [pullR, s1 j hj, e1, ρo, e4, h1]
      · have hs := s2 j (by omega)
        by_cases hj1 : j < H1.length
        · rw [if_pos hj1] at hs
          simp only [pullR, hs, ρo, hnew (j - H0.length) (by omega)]
          rw [if_pos (by omega)]
          congr 1; omega
        · rw [if_neg hj1] at hs
          simp only [pullR, hs]
          exact (q4 j (by omega)).symm
    -- what is owned within is owned without
    have hownW : ∀ k q, Owned ρc (hg H0) k q → OwnW ρ (hg H) W k q := by
      rintro k q ⟨j, b0, rb, h1, h2, h3, h4⟩
      obtain ⟨s, b, rb', e1, e2, e3, e4, e5⟩ := hin j b0 h1
      simp only [ρc, pullR, e1] at h2
      rw [e4] at h2; cases h2
      obtain ⟨_, g2, g3⟩ := okB_brel e3 e5
      have hj : j < H0.length := by have := (List.getElem?_eq_some_iff.1 e1).1; omega
      obtain ⟨ob, hm⟩ := w4 j s (by rw [s1 j hj]; exact e1) (.inr ⟨b0, h1, h3⟩)
      exact ⟨s, ob, b, _, hm, e2, e4, g3 h3, g2 k q h4⟩
    have hent : ∀ id b', (id, some b') ∈ W → ∃ j b rb, (sel ++ newSel L (H1.length - H0.length))[j]? = some id ∧ hg H1 j = some b ∧ b.own = true ∧ renB (sel ++ newSel L (H1.length - H0.length)) b = some b' ∧ ρ' j = some rb ∧ ρo id = some rb ∧ BRel ρ' w' rb b := by
      intro id b' hm
      obtain ⟨j, h1, h2⟩ := w3 id (some b') hm
      obtain ⟨_, _, b, h3, h4, h5⟩ := h2
      obtain ⟨rb, h6, h7⟩ := q2 j b h3
      have h8 := congrFun hpull j
      simp only [pullR, h1] at h8
      exact ⟨j, b, rb, h1, h3, h4, h5, h6, by rw [h8]; exact h6, h7⟩
    refine hk v w' ρo ⟨?_, ?_, ?_, ?_, ?_, ?_⟩ ?_
    · intro id rb hr; simp only [ρo, hr]
    · intro id rb hr
      simp only [ρo] at hr
      cases hρ : ρ id with
      | some rb2 => rw [hρ] at hr; exact .inl hr
      | none =>
        rw [hρ] at hr
        simp only at hr
        split at hr
        · rename_i hid
          right
          exact w4 (H0.length + (id - L)) id (by rw [s2 _ (by omega), if_pos (by omega)]; congr 1; omega) (.inl (by omega))
        · cases hr
    · intro id b' hm
      obtain ⟨j, b, rb, h1, h2, h3, h4, h5, h6, h7⟩ := hent id b' hm
      refine ⟨rb, h6, (brel_ren h4).1 ?_⟩
      rw [hpull]; exact h7
    · exact q5.fr.mono (fun k q _ h => hownW k q h)
    · intro id b' rb k q hm hr hf
      obtain ⟨j, b, rb2, h1, h2, h3, h4, h5, h6, h7⟩ := hent id b' hm
      rw [h6] at hr; cases hr
      have hf2 := (foot_ren h4 k q (rb := rb)).1.2 hf
      exact (q5.own k q ⟨j, b, rb, h2, h5, h3, hf2⟩).imp (hownW k q) (fun h => h)
    · intro i j bi bj ri rj hne hi hj hri hrj hown k q ⟨hfi, hfj⟩
      obtain ⟨li, ci, rbi, h1, h2, h3, h4, h5, h6, h7⟩ := hent i bi hi
      obtain ⟨lj, cj, rbj, g1, g2, g3, g4, g5, g6, g7⟩ := hent j bj hj
      rw [h6] at hri; cases hri
      rw [g6] at hrj; cases hrj
      exact q3 li lj ci cj _ _ (fun e => hne (by rw [e, g1] at h1; exact (Option.some.inj h1).symm)) h2 g2 h5 g5 h3 k q ⟨(foot_ren h4 k q).1.2 hfi, (foot_ren g4 k q).1.2 hfj⟩
    · intro v' hv'
      cases hv'
      refine (rel_ren ret hz).1 ?_
      rw [hpull]; exact q1


theorem eval_args {o : Oper} {R : Env} {x : Operand} {args : Array Operand} {tys : Array TypeId} {ρ : Ren} {a : Act} {zs : List SV} (ho : o.op = .call ⟨.value x, args, tys⟩) (hargs : args.toList.map (evO R) = zs.map some)
    (hR : ∀ t ∈ readsOf o, ∀ v, R t = some v → Rel ρ v (a.tmps.getD t undef)) : Rels ρ zs (args.toList.map a.eval) := by
  have : ∀ (l : List Operand) (zs : List SV), (∀ y ∈ l, y ∈ args.toList) → l.map (evO R) = zs.map some → Rels ρ zs (l.map a.eval) := by
    intro l
    induction l with
    | nil => intro zs _ h; have : zs = [] := by cases zs <;> simp_all
             subst this; exact Rels.nil_iff.2 rfl
    | cons y l ih =>
      intro zs hm h
      cases zs with
      | nil => simp at h
      | cons z zs =>
        simp only [List.map_cons, List.cons.injEq] at h
        refine Rels.cons ?_ (ih zs (fun u hu => hm u (List.mem_cons_of_mem _ hu)) h.2)
        have hy := hm y (List.mem_cons_self ..)
        cases y with
        | tmp t => exact hR t (by simp only [readsOf, List.mem_filterMap]; exact ⟨.tmp t, by simp [ho, Op.operands, Call.operands]; exact .inr (by simpa using hy), rfl⟩) _ h.1
        | const u => exact (ofVal_rel h.1).1
        | func g => have h1 := h.1; simp only [evO, Option.some.injEq] at h1; cases h1; simp only [List.map_cons, Rel]; exact ⟨[], rfl, Rels.nil_iff.2 rfl⟩
        | global g => cases h.1
  exact this args.toList zs (fun _ h => h) hargs

theorem eval_callee {o : Oper} {R : Env} {x : Operand} {args : Array Operand} {tys : Array TypeId} {ρ : Ren} {a : Act} {z : SV} (ho : o.op = .call ⟨.value x, args, tys⟩) (hx : evO R x = some z)
    (hR : ∀ t ∈ readsOf o, ∀ v, R t = some v → Rel ρ v (a.tmps.getD t undef)) : Rel ρ z (a.eval x) := by
  cases x with
  | tmp t => exact hR t (by simp only [readsOf, List.mem_filterMap]; exact ⟨.tmp t, by simp [ho, Op.operands, Call.operands], rfl⟩) _ hx
  | const u => exact (ofVal_rel hx).1
  | func g => simp only [evO, Option.some.injEq] at hx; cases hx; simp only [Rel]; exact ⟨[], rfl, Rels.nil_iff.2 rfl⟩
  | global g => cases hx

theorem lt_call {P : Program} {o : Oper} {R : Env} {H : HL} {L : Nat} {x : Operand} {args : Array Operand} {tys : Array TypeId} {f : Nat} {caps zs args0 : List SV} {sel : List Nat} {H0 H1 : HL} {ret z : SV} {W : Upd} (hl : H.length ≤ L)
    (ho : o.op = .call ⟨.value x, args, tys⟩) (hx : evO R x = some (.fn f caps)) (hargs : args.toList.map (evO R) = zs.map some) (hc : SCall P f args0 H0 ret H1) (hren : renL sel args0 = some (zs ++ caps))
    (hlen : sel.length = H0.length) (hok : okH sel H sel H0) (hd : dupOk sel 0 sel H0 = true) (hW : cW (sel ++ newSel L (H1.length - H0.length)) (sel ++ newSel L (H1.length - H0.length)) H0 H1 = some W)
    (hz : renV (sel ++ newSel L (H1.length - H0.length)) ret = some z) : LT P o R (hg H) sel W (some z) := by
  refine lt_of_callR hl hlen hok hd hW hz ?_
  intro r n a w ρ next Q hR hH0 hsep0 hfr0 hk
  refine ⟨fun _ _ => trivial, ?_⟩
  have hfx := eval_callee ho hx hR
  simp only [Rel] at hfx
  obtain ⟨cs, hfx1, hcaps⟩ := hfx
  have hzs := eval_args ho hargs hR
  have hrels : Rels (pullR sel ρ) args0 (args.map a.eval ++ ⟨cs⟩ : Array Value).toList := by
    refine (rels_ren args0 hren).2 ?_
    simpa using Rels.append hzs hcaps
  have hcall := hc.call (n - 1) (pullR sel ρ) w _ hrels hH0 hsep0 hfr0
  rw [Oper.semAt_eq _ _ _ (by intro c; rw [ho]; simp), run_call ho hfx1 hc.fn]
  refine ⟨fun h => (by cases h), ?_⟩
  have hcall' : CallsIn (Fw r) (n - 1) P f (args.map a.eval ++ ⟨cs⟩) w (CallR (pullR sel ρ) H0 w ret H1) := hcall
  refine hcall'.mono ?_
  intro e w' hr'
  cases e with
  | panicked c => exact hr'.elim
  | outgrown => exact hr'.elim
  | returned v => exact hk v w' hr'

/-- A call, reckoned. -/
def sopCall (R : RL) (H : HL) (L : Nat) (x : Operand) (args : List Operand) (f : Nat) (sel : List Nat) (args0 : List SV) (H0 : HL) (ret : SV) (H1 : HL) (k : K1) : Prop :=
  (match ev R x with
    | some (.fn g caps) => match evs R args with
      | some zs => g = f ∧ renL sel args0 = some (zs ++ caps)
      | none => False
    | _ => False) ∧ okH sel H sel H0 ∧
  match Nat.beq sel.length H0.length with
  | true => match dupOk sel 0 sel H0 with
    | true => match cW (sel ++ newSel L (H1.length - H0.length)) (sel ++ newSel L (H1.length - H0.length)) H0 H1 with
      | some W => match renV (sel ++ newSel L (H1.length - H0.length)) ret with
        | some z => k (some z) W sel (L + (H1.length - H0.length))
        | none => False
      | none => False
    | false => False
  | false => False

theorem ok1_call {P : Program} {o : Oper} {R : RL} {H : HL} {L : Nat} {k : K1} {x : Operand} {args : Array Operand} {tys : Array TypeId} {f : Nat} {args0 : List SV} {H0 H1 : HL} {ret : SV} (sel : List Nat)
    (hc : SCall P f args0 H0 ret H1) (ho : o.op = .call ⟨.value x, args, tys⟩) (hle : Nat.ble H.length L = true) (h : sopCall R H L x args.toList f sel args0 H0 ret H1 k) : Ok1 P o R H L k := by
  have hl := Nat.le_of_ble_eq_true hle
  obtain ⟨h1, h2, h3⟩ := h
  split at h1
  · rename_i g caps hx
    split at h1
    · rename_i zs hzs
      obtain ⟨rfl, hren⟩ := h1
      split at h3
      · rename_i hlen
        split at h3
        · rename_i hd
          split at h3
          · rename_i W hW
            split at h3
            · rename_i z hz
              obtain ⟨w1, w2, w3, w4, w5⟩ := cW_spec hW
              refine ⟨_, _, _, _, lt_call hl ho (ev_some hx) (evs_eq hzs) hc hren (beqE hlen) h2 hd hW hz, by omega, ?_, h3⟩
              intro id ob hm
              obtain ⟨j, hj, hent⟩ := w3 id ob hm
              have hl0 := beqE hlen
              by_cases hjs : j < H0.length
              · rw [List.getElem?_append_left (by omega)] at hj
                obtain ⟨b0, hb0⟩ := w5 j hjs
                obtain ⟨s, b, e1, e2, _⟩ := okH_get h2 hb0
                rw [hj] at e1; cases e1
                have := hk_lt hl (by rw [hk_eq]; exact e2 : hk H _ = some b)
                exact ⟨by omega, fun hn => absurd (List.mem_of_getElem? hj) hn⟩
              · rw [List.getElem?_append_right (by omega), newSel_get] at hj
                split at hj
                · have := Option.some.inj hj
                  exact ⟨by omega, fun _ => by omega⟩
                · cases hj
            · exact h3.elim
          · exact h3.elim
        · exact h3.elim
      · exact h3.elim
    · exact h1.elim
  · exact h1.elim
end Go.Sh
