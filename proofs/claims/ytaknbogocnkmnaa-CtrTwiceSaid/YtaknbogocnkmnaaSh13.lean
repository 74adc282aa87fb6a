/- Blocks under other names; code, reckoned in the shadow. -/
import Derived.Test.YtaknbogocnkmnaaSh12
import Derived.LoopNIn
namespace Go.Sh
set_option linter.unusedSimpArgs false

mutual
def renV (sel : List Nat) : SV → Option SV
  | .i n => some (.i n)
  | .u8 x => some (.u8 x)
  | .u16 x => some (.u16 x)
  | .u32 x => some (.u32 x)
  | .u64 x => some (.u64 x)
  | .b x => some (.b x)
  | .s l => some (.s l)
  | .p id off => match sel[id]? with | some j => some (.p j off) | none => none
  | .pnil => some .pnil
  | .sl id o n sz f => match sel[id]? with | some j => some (.sl j o n sz f) | none => none
  | .slnil => some .slnil
  | .fnil => some .fnil
  | .fn f cap => match renL sel cap with | some c => some (.fn f c) | none => none
  | .yld id => match sel[id]? with | some j => some (.yld j) | none => none
  | .mp id => match sel[id]? with | some j => some (.mp j) | none => none
  | .mnil => some .mnil
  | .agg l => match renL sel l with | some c => some (.agg c) | none => none
  | .tup l => match renL sel l with | some c => some (.tup c) | none => none
def renL (sel : List Nat) : List SV → Option (List SV)
  | [] => some []
  | x :: xs => match renV sel x with
    | some y => match renL sel xs with | some ys => some (y :: ys) | none => none
    | none => none
end

def pullR (sel : List Nat) (ρ : Ren) : Ren := fun j => match sel[j]? with | some k => ρ k | none => none

mutual
theorem renV_atom {sel : List Nat} : ∀ (x : SV) {y : SV}, renV sel x = some y → y.atom = x.atom
  | .i _, _, h | .u8 _, _, h | .u16 _, _, h | .u32 _, _, h | .u64 _, _, h | .b _, _, h | .s _, _, h | .pnil, _, h | .slnil, _, h | .fnil, _, h | .mnil, _, h => by
    simp only [renV, Option.some.injEq] at h; subst h; rfl
  | .p id off, _, h | .yld id, _, h | .mp id, _, h | .sl id _ _ _ _, _, h => by
    simp only [renV] at h; split at h <;> first | (simp only [Option.some.injEq] at h; subst h; rfl) | cases h
  | .fn f cap, _, h | .agg cap, _, h | .tup cap, _, h => by
    simp only [renV] at h; split at h <;> first | (simp only [Option.some.injEq] at h; subst h; rfl) | cases h
end

theorem renL_len {sel : List Nat} : ∀ {xs ys : List SV}, renL sel xs = some ys → ys.length = xs.length ∧ atoms ys = atoms xs
  | [], ys, h => by simp only [renL, Option.some.injEq] at h; subst h; exact ⟨rfl, rfl⟩
  | x :: xs, ys, h => by
    simp only [renL] at h
    split at h
    · rename_i y hy
      split at h
      · rename_i zs hz
        simp only [Option.some.injEq] at h; subst h
        obtain ⟨e1, e2⟩ := renL_len hz
        exact ⟨by simp [e1], by simp only [atoms, List.all_cons, renV_atom x hy] at e2 ⊢; rw [e2]⟩
      · cases h
    · cases h

mutual
theorem rel_ren {sel : List Nat} {ρ : Ren} : ∀ (x : SV) {y : SV} {v : Value}, renV sel x = some y → (Rel (pullR sel ρ) x v ↔ Rel ρ y v)
  | .i _, _, _, h | .u8 _, _, _, h | .u16 _, _, _, h | .u32 _, _, _, h | .u64 _, _, _, h | .b _, _, _, h | .s _, _, _, h | .pnil, _, _, h | .slnil, _, _, h | .fnil, _, _, h | .mnil, _, _, h => by
    simp only [renV, Option.some.injEq] at h; subst h; simp only [Rel]
  | .p id off, _, _, h | .yld id, _, _, h | .mp id, _, _, h | .sl id _ _ _ _, _, _, h => by
    simp only [renV] at h
    split at h
    · rename_i j hj
      simp only [Option.some.injEq] at h; subst h; simp only [Rel, pullR, hj]
    · cases h
  | .fn f cap, _, v, h => by
    simp only [renV] at h
    split at h
    · rename_i c hc
      simp only [Option.some.injEq] at h; subst h
      simp only [Rel]
      exact ⟨fun ⟨cs, e, hr⟩ => ⟨cs, e, (rels_ren cap hc).1 hr⟩, fun ⟨cs, e, hr⟩ => ⟨cs, e, (rels_ren cap hc).2 hr⟩⟩
    · cases h
  | .agg cap, _, v, h => by
    simp only [renV] at h
    split at h
    · rename_i c hc
      simp only [Option.some.injEq] at h; subst h
      simp only [Rel]
      rw [(renL_len hc).2]
      exact ⟨fun ⟨cs, e, ha, hr⟩ => ⟨cs, e, ha, (rels_ren cap hc).1 hr⟩, fun ⟨cs, e, ha, hr⟩ => ⟨cs, e, ha, (rels_ren cap hc).2 hr⟩⟩
    · cases h
  | .tup cap, _, v, h => by
    simp only [renV] at h
    split at h
    · rename_i c hc
      simp only [Option.some.injEq] at h; subst h
      simp only [Rel]
      exact ⟨fun ⟨cs, e, hr⟩ => ⟨cs, e, (rels_ren cap hc).1 hr⟩, fun ⟨cs, e, hr⟩ => ⟨cs, e, (rels_ren cap hc).2 hr⟩⟩
    · cases h
theorem rels_ren {sel : List Nat} {ρ : Ren} : ∀ (xs : List SV) {ys : List SV} {vs : List Value}, renL sel xs = some ys → (Rels (pullR sel ρ) xs vs ↔ Rels ρ ys vs)
  | [], ys, vs, h => by simp only [renL, Option.some.injEq] at h; subst h; simp only [Rels]
  | x :: xs, ys, vs, h => by
    simp only [renL] at h
    split at h
    · rename_i y hy
      split at h
      · rename_i zs hz
        simp only [Option.some.injEq] at h; subst h
        simp only [Rels]
        exact ⟨fun ⟨u, us, e, h1, h2⟩ => ⟨u, us, e, (rel_ren x hy).1 h1, (rels_ren xs hz).1 h2⟩, fun ⟨u, us, e, h1, h2⟩ => ⟨u, us, e, (rel_ren x hy).2 h1, (rels_ren xs hz).2 h2⟩⟩
      · cases h
    · cases h
end

theorem cellsAt_ren {sel : List Nat} {ρ : Ren} {w : World} {blk off : Nat} {l l' : List SV} {f : Bool} (h : renL sel l = some l') : CellsAt (pullR sel ρ) w blk off l f ↔ CellsAt ρ w blk off l' f := by
  obtain ⟨e1, e2⟩ := renL_len h
  unfold CellsAt
  rw [e1, e2]
  simp only [rels_ren l h]

def renRL (sel : List Nat) : List (Nat × SV) → Option (List (Nat × SV))
  | [] => some []
  | (t, v) :: R => match renV sel v with
    | some v' => match renRL sel R with | some R' => some ((t, v') :: R') | none => none
    | none => none

theorem renRL_get {sel : List Nat} : ∀ {R R' : List (Nat × SV)}, renRL sel R = some R' → ∀ t, (R.lookup t = none ∧ R'.lookup t = none) ∨ ∃ v v', R.lookup t = some v ∧ R'.lookup t = some v' ∧ renV sel v = some v'
  | [], R', h, t => by simp only [renRL, Option.some.injEq] at h; subst h; exact .inl ⟨rfl, rfl⟩
  | (u, v) :: R, R', h, t => by
    simp only [renRL] at h
    split at h
    · rename_i v' hv
      split at h
      · rename_i R1 hR
        simp only [Option.some.injEq] at h; subst h
        simp only [List.lookup_cons]
        cases htu : (t == u) with
        | true => exact .inr ⟨v, v', rfl, rfl, hv⟩
        | false => exact renRL_get hR t
      · cases h
    · cases h

theorem relR_ren {sel : List Nat} {ρ : Ren} {R R' : List (Nat × SV)} {tmps : Array Value} (h : renRL sel R = some R') : RelR (pullR sel ρ) R tmps ↔ RelR ρ R' tmps := by
  constructor
  · intro hr t v hv
    rcases renRL_get h t with ⟨_, h2⟩ | ⟨x, y, h1, h2, h3⟩
    · rw [h2] at hv; cases hv
    · rw [h2] at hv; cases hv; exact (rel_ren x h3).1 (hr t x h1)
  · intro hr t v hv
    rcases renRL_get h t with ⟨h1, _⟩ | ⟨x, y, h1, h2, h3⟩
    · rw [h1] at hv; cases hv
    · rw [h1] at hv; cases hv; exact (rel_ren _ h3).2 (hr t y h2)

def renO (sel : List Nat) : OB → Option OB
  | .loop R N ps a b => match renRL sel R with | some R' => some (.loop R' N ps a b) | none => none
  | .pend c => some (.pend c)

theorem orel_ren {sel : List Nat} {ρ : Ren} {w : World} {blk : Nat} {y y' : OB} (h : renO sel y = some y') : ORel (pullR sel ρ) w blk y ↔ ORel ρ w blk y' := by
  cases y with
  | loop R N ps a b =>
    simp only [renO] at h
    split at h
    · rename_i R' hR
      simp only [Option.some.injEq] at h; subst h
      simp only [ORel, relR_ren hR]
    · cases h
  | pend c => simp only [renO, Option.some.injEq] at h; subst h; exact Iff.rfl

def renB (sel : List Nat) : SB → Option SB
  | .obj y => match renO sel y with | some y' => some (.obj y') | none => none
  | .row t l => match renL sel l with | some l' => some (.row t l') | none => none
  | .box l => match renL sel l with | some l' => some (.box l') | none => none
  | .ro l => match renL sel l with | some l' => some (.ro l') | none => none

theorem renL_nil {sel : List Nat} {l l' : List SV} (h : renL sel l = some l') : l = [] ↔ l' = [] := by
  have := (renL_len h).1
  constructor <;> (intro e; subst e; apply List.eq_nil_of_length_eq_zero; simp_all)

theorem brel_ren {sel : List Nat} {ρ : Ren} {w : World} {rb : RB} {b b' : SB} (h : renB sel b = some b') : BRel (pullR sel ρ) w rb b ↔ BRel ρ w rb b' := by
  cases b with
  | obj y =>
    simp only [renB] at h
    split at h
    · rename_i y' hy; cases h; exact orel_ren hy
    · cases h
  | ro l =>
    simp only [renB] at h
    split at h
    · rename_i l' hl; cases h
      simp only [BRel, cellsAt_ren hl, renL_nil hl, (renL_len hl).1]
    · cases h
  | box l =>
    simp only [renB] at h
    split at h
    · rename_i l' hl; cases h
      simp only [BRel, cellsAt_ren hl, (renL_len hl).1]
    · cases h
  | row t l =>
    simp only [renB] at h
    split at h
    · rename_i l' hl; cases h
      simp only [BRel, renL_nil hl, (renL_len hl).1, (renL_len hl).2, rels_ren l hl]
    · cases h

theorem foot_ren {sel : List Nat} {rb : RB} {b b' : SB} (h : renB sel b = some b') (k o : Nat) : (foot rb b k o ↔ foot rb b' k o) ∧ b'.own = b.own := by
  rcases b with _ | _ | _ | y
  case obj =>
    simp only [renB] at h
    split at h
    · cases h; exact ⟨Iff.rfl, rfl⟩
    · cases h
  all_goals simp only [renB] at h <;> split at h <;> cases h <;> rename_i l' hl <;> simp only [foot, SB.own, (renL_len hl).1, and_self, iff_self]

/-! ### A smaller view of what lies there -/

def okR (sel : List Nat) (R : RL) : RL → Prop
  | [] => True
  | (t, v0) :: R0 => (match lk t R with | some v => renV sel v0 = some v | none => False) ∧ okR sel R R0

theorem okR_relR {sel : List Nat} {ρ : Ren} {R : RL} {tmps : Array Value} (hr : RelR ρ R tmps) : ∀ {R0 : RL}, okR sel R R0 → RelR (pullR sel ρ) R0 tmps
  | [], _ => fun t v h => by cases h
  | (u, x) :: R0, h => fun t v hv => by
    obtain ⟨h1, h2⟩ := h
    simp only [List.lookup_cons] at hv
    split at hv
    · rename_i e
      have : t = u := by simpa using e
      subst this
      cases hv
      split at h1
      · rename_i y hy
        rw [lk_eq] at hy
        exact (rel_ren _ h1).2 (hr t y hy)
      · exact h1.elim
    · exact okR_relR hr h2 t v hv

def okO (sel : List Nat) (y0 y : OB) : Prop :=
  match y0, y with
  | .loop R0 N0 ps0 a0 b0, .loop R N ps a b => okR sel R R0 ∧ N0 = N ∧ ps0 = ps ∧ a0 = a ∧ b0 = b
  | .pend c0, .pend c => c0 = c
  | _, _ => False

theorem okO_orel {sel : List Nat} {ρ : Ren} {w : World} {blk : Nat} {y0 y : OB} (h : okO sel y0 y) (hb : ORel ρ w blk y) : ORel (pullR sel ρ) w blk y0 := by
  unfold okO at h
  split at h
  · obtain ⟨h0, rfl, rfl, rfl, rfl⟩ := h
    obtain ⟨r, h1, h2, h3, h4, h5, h6, h7, h8⟩ := hb
    exact ⟨r, h1, h2, h3, h4, h5, h6, h7, okR_relR h8 h0⟩
  · subst h; exact hb
  · exact h.elim

def okB (sel : List Nat) (b0 b : SB) : Prop :=
  match b0, b with
  | .row t l0, .row t' l => t = t' ∧ renL sel l0 = some l
  | .box l0, .box l => renL sel l0 = some l
  | .ro l0, .ro l => renL sel l0 = some l
  | .ro l0, .row _ l => renL sel l0 = some l
  | .ro l0, .box l => renL sel l0 = some l
  | .obj y0, .obj y => okO sel y0 y
  | _, _ => False

theorem okB_brel {sel : List Nat} {ρ : Ren} {w : World} {rb : RB} {b0 b : SB} (h : okB sel b0 b) (hb : BRel ρ w rb b) : BRel (pullR sel ρ) w rb b0 ∧ (∀ k o, foot rb b0 k o → foot rb b k o) ∧ (b0.own = true → b.own = true) := by
  unfold okB at h
  split at h
  · rename_i t l0 t' l
    obtain ⟨rfl, h⟩ := h
    have e : renB sel (.row t l0) = some (.row t l) := by simp only [renB, h]
    exact ⟨(brel_ren e).2 hb, fun k o => (foot_ren e k o).1.1, fun _ => rfl⟩
  · rename_i l0 l
    have e : renB sel (.box l0) = some (.box l) := by simp only [renB, h]
    exact ⟨(brel_ren e).2 hb, fun k o => (foot_ren e k o).1.1, fun _ => rfl⟩
  · rename_i l0 l
    have e : renB sel (.ro l0) = some (.ro l) := by simp only [renB, h]
    exact ⟨(brel_ren e).2 hb, fun k o => (foot_ren e k o).1.1, fun h => by cases h⟩
  · rename_i l0 t l
    have e : renB sel (.ro l0) = some (.ro l) := by simp only [renB, h]
    have hro : BRel ρ w rb (.ro l) := by
      rcases hb with ⟨h1, h2⟩ | ⟨hv, c, fz, g1, g2, g3, g4, g5, g6⟩
      · exact .inl h2
      · exact .inr ⟨⟨c, t, fz, g1, g4, g5, fun h => (by cases h), by omega⟩, g6, hv⟩
    refine ⟨(brel_ren e).2 hro, fun k o hf => ?_, fun h => by cases h⟩
    have hf2 := (foot_ren e k o (rb := rb)).1.1 hf
    rcases hb with ⟨h1, rfl⟩ | ⟨hv, _⟩
    · have := hf2.2; simp at this; omega
    · exact ⟨hv, hf2.1, hf2.2.1⟩
  · rename_i l0 l
    have e : renB sel (.ro l0) = some (.ro l) := by simp only [renB, h]
    have hro : BRel ρ w rb (.ro l) := by
      obtain ⟨⟨c, t, fz, g1, g2, g3, g4, g5⟩, g6, g7⟩ := hb
      exact .inr ⟨⟨c, t, fz, g1, g2, g3, fun h => (by cases h), g5⟩, g6, g7⟩
    exact ⟨(brel_ren e).2 hro, fun k o hf => (foot_ren e k o (rb := rb)).1.1 hf, fun h => by cases h⟩
  · exact ⟨okO_orel h hb, fun k o hf => hf, fun _ => rfl⟩
  · exact h.elim

def okH (sel : List Nat) (H : HL) : List Nat → HL → Prop
  | _, [] => True
  | [], some _ :: _ => False
  | [], none :: H0 => okH sel H [] H0
  | _ :: ss, none :: H0 => okH sel H ss H0
  | s :: ss, some b0 :: H0 => (match hk H s with | some b => okB sel b0 b | none => False) ∧ okH sel H ss H0

theorem okH_get {sel : List Nat} {H : HL} : ∀ {H0 : HL} {ss : List Nat} {j : Nat} {b0 : SB}, okH sel H ss H0 → hg H0 j = some b0 → ∃ s b, ss[j]? = some s ∧ hg H s = some b ∧ okB sel b0 b
  | [], ss, j, b0, _, h => by simp [hg] at h
  | none :: H0, [], j, b0, hok, h => by
    cases j with
    | zero => simp [hg] at h
    | succ j => obtain ⟨s, b, h1, _⟩ := okH_get (H0 := H0) (ss := []) (j := j) hok (by simpa [hg] using h); simp at h1
  | some _ :: H0, [], j, b0, hok, h => hok.elim
  | none :: H0, s :: ss, j, b0, hok, h => by
    cases j with
    | zero => simp [hg] at h
    | succ j => simpa using okH_get (H0 := H0) (ss := ss) (j := j) hok (by simpa [hg] using h)
  | some b1 :: H0, s :: ss, j, b0, hok, h => by
    obtain ⟨h1, h2⟩ := hok
    cases j with
    | zero =>
      have e : b1 = b0 := by simpa [hg] using h
      subst e
      split at h1
      · rename_i b hb
        exact ⟨s, b, rfl, hk_some hb, h1⟩
      · exact h1.elim
    | succ j => simpa using okH_get (H0 := H0) (ss := ss) (j := j) h2 (by simpa [hg] using h)

def only (s i : Nat) : Nat → List Nat → Bool
  | _, [] => true
  | k, x :: xs => match Nat.beq x s with
    | true => match Nat.beq k i with | true => only s i (k + 1) xs | false => false
    | false => only s i (k + 1) xs

theorem only_spec {s i : Nat} : ∀ {xs : List Nat} {k j : Nat}, only s i k xs = true → xs[j]? = some s → k + j = i
  | [], k, j, _, h => by simp at h
  | x :: xs, k, j, ho, h => by
    simp only [only] at ho
    cases j with
    | zero =>
      simp at h; subst h
      have e : Nat.beq x x = true := by simp
      rw [e] at ho
      simp only at ho
      split at ho
      · rename_i hk; simpa using beqE hk
      · cases ho
    | succ j =>
      have ho' : only s i (k + 1) xs = true := by
        split at ho
        · split at ho
          · exact ho
          · cases ho
        · exact ho
      have := only_spec (j := j) ho' (by simpa using h)
      omega

/-- What is owned goes by one name. -/
def dupOk (all : List Nat) : Nat → List Nat → HL → Bool
  | _, _, [] => true
  | _, [], _ => true
  | k, _ :: ss, none :: H0 => dupOk all (k + 1) ss H0
  | k, s :: ss, some b0 :: H0 => match b0.own with
    | true => match only s k 0 all with | true => dupOk all (k + 1) ss H0 | false => false
    | false => dupOk all (k + 1) ss H0

theorem dupOk_spec {all : List Nat} : ∀ {H0 : HL} {ss : List Nat} {k i : Nat} {b0 : SB} {s : Nat}, dupOk all k ss H0 = true → ss[i]? = some s → hg H0 i = some b0 → b0.own = true → ∀ j, all[j]? = some s → j = k + i
  | [], ss, k, i, b0, s, _, _, h, _ => by simp [hg] at h
  | b1 :: H0, [], k, i, b0, s, _, h, _, _ => by simp at h
  | none :: H0, s1 :: ss, k, i, b0, s, hd, h1, h2, h3 => by
    intro j hj
    cases i with
    | zero => simp [hg] at h2
    | succ i =>
      have := dupOk_spec (H0 := H0) (ss := ss) (k := k + 1) (i := i) hd (by simpa using h1) (by simpa [hg] using h2) h3 j hj
      omega
  | some b1 :: H0, s1 :: ss, k, i, b0, s, hd, h1, h2, h3 => by
    intro j hj
    simp only [dupOk] at hd
    cases i with
    | zero =>
      simp at h1; subst h1
      have e : b1 = b0 := by simpa [hg] using h2
      subst e
      rw [h3] at hd
      simp only at hd
      split at hd
      · rename_i ho
        have := only_spec ho hj
        omega
      · cases hd
    | succ i =>
      have hd' : dupOk all (k + 1) ss H0 = true := by
        split at hd
        · split at hd
          · exact hd
          · cases hd
        · exact hd
      have := dupOk_spec (H0 := H0) (ss := ss) (k := k + 1) (i := i) hd' (by simpa using h1) (by simpa [hg] using h2) h3 j hj
      omega

theorem okR_get {sel : List Nat} {R : RL} : ∀ {R0 : RL} {t : Nat} {v0 : SV}, okR sel R R0 → rg R0 t = some v0 → ∃ v, rg R t = some v ∧ renV sel v0 = some v
  | [], t, v0, _, h => by simp [rg] at h
  | (t1, v1) :: R0, t, v0, hok, h => by
    obtain ⟨h1, h2⟩ := hok
    simp only [rg, List.lookup_cons] at h
    split at h
    · rename_i e
      have : t = t1 := by simpa using e
      subst this
      simp only [Option.some.injEq] at h; subst h
      split at h1
      · rename_i v hv
        exact ⟨v, by rw [rg, ← lk_eq]; exact hv, h1⟩
      · exact h1.elim
    · exact okR_get h2 h

/-- What has become of a world; of the first A blocks the names stand. -/
structure EvA (A : Nat) (ρ : Ren) (H : Heap) (w : World) (ρ' : Ren) (H' : Heap) (w' : World) : Prop where
  ext : ∀ id, id < A → ∀ rb, ρ id = some rb → ρ' id = some rb
  fr : Fr (Owned ρ H) w w'
  own : ∀ k o, Owned ρ' H' k o → Owned ρ H k o ∨ w.heap.size ≤ k

theorem Ev.toA {A : Nat} {ρ : Ren} {H : Heap} {w : World} {ρ' : Ren} {H' : Heap} {w' : World} (h : Ev ρ H w ρ' H' w') : EvA A ρ H w ρ' H' w' := ⟨fun id _ rb hr => h.ext id rb hr, h.fr, h.own⟩
theorem EvA.refl (A : Nat) (ρ : Ren) (H : Heap) (w : World) : EvA A ρ H w ρ H w := (Ev.refl ρ H w).toA
theorem EvA.trans {A : Nat} {ρ1 ρ2 ρ3 : Ren} {H1 H2 H3 : Heap} {w1 w2 w3 : World} (h : EvA A ρ1 H1 w1 ρ2 H2 w2) (k : EvA A ρ2 H2 w2 ρ3 H3 w3) : EvA A ρ1 H1 w1 ρ3 H3 w3 :=
  ⟨fun id hi rb hr => k.ext id hi rb (h.ext id hi rb hr), h.fr.trans k.fr (fun x o hx ho => (h.own x o ho).resolve_right (by omega)),
   fun x o ho => (k.own x o ho).elim (fun h2 => h.own x o h2) (fun h2 => .inr (Nat.le_trans h.fr.size h2))⟩

def Weak (A : Nat) (R : RL) (H : HL) (L : Nat) (R0 : RL) (H0 : HL) (L0 : Nat) : Prop :=
  ∀ N B ρ a w, Sim N B L ρ (rg R) (hg H) a w → H.length ≤ L → ∃ ρ0, Sim N B L0 ρ0 (rg R0) (hg H0) a w ∧ H0.length ≤ L0 ∧ EvA A ρ (hg H) w ρ0 (hg H0) w

theorem Weak.refl {A : Nat} {R : RL} {H : HL} {L : Nat} : Weak A R H L R H L := fun _ _ ρ _ _ hs hl => ⟨ρ, hs, hl, EvA.refl _ _ _ _⟩
theorem Weak.trans {A : Nat} {R1 R2 R3 : RL} {H1 H2 H3 : HL} {L1 L2 L3 : Nat} (h : Weak A R1 H1 L1 R2 H2 L2) (k : Weak A R2 H2 L2 R3 H3 L3) : Weak A R1 H1 L1 R3 H3 L3 :=
  fun N B ρ a w hs hl => let ⟨ρ2, s2, l2, e2⟩ := h N B ρ a w hs hl; let ⟨ρ3, s3, l3, e3⟩ := k N B ρ2 a w s2 l2; ⟨ρ3, s3, l3, e2.trans e3⟩

def idOk (sel : List Nat) (A : Nat) : Bool := (List.range A).all fun j => match sel[j]? with | some k => Nat.beq k j | none => false

theorem sel_sim {A N B : Nat} {ρ : Ren} {a : Act} {w : World} {R : RL} {H : HL} {L : Nat} {R0 : RL} {H0 : HL} {L0 : Nat} (sel : List Nat) (hl : sel.length = L0) (hA : idOk sel A = true) (hR : okR sel R R0) (hH : okH sel H sel H0)
    (hd : dupOk sel 0 sel H0 = true) (hs : Sim N B L ρ (rg R) (hg H) a w) : Sim N B L0 (pullR sel ρ) (rg R0) (hg H0) a w ∧ EvA A ρ (hg H) w (pullR sel ρ) (hg H0) w := by
  have own : ∀ k o, Owned (pullR sel ρ) (hg H0) k o → Owned ρ (hg H) k o := by
    rintro k o ⟨id, b0, rb, h1, h2, h3, h4⟩
    obtain ⟨s, b, e1, e2, e3⟩ := okH_get hH h1
    simp only [pullR, e1] at h2
    obtain ⟨rb2, hr2, hb⟩ := hs.heap s b e2
    rw [h2] at hr2; cases hr2
    obtain ⟨_, g2, g3⟩ := okB_brel e3 hb
    exact ⟨s, b, rb, e2, h2, g3 h3, g2 k o h4⟩
  refine ⟨⟨hs.size, ?_, ?_, ?_, ?_, hs.dfr⟩, ⟨?_, Fr.refl _ _, fun k o h => .inl (own k o h)⟩⟩
  · intro t v0 hv
    obtain ⟨v, h1, h2⟩ := okR_get hR hv
    exact (rel_ren v0 h2).2 (hs.regs t v h1)
  · intro j b0 hj
    obtain ⟨s, b, e1, e2, e3⟩ := okH_get hH hj
    obtain ⟨rb, hr, hb⟩ := hs.heap s b e2
    exact ⟨rb, by simp only [pullR, e1]; exact hr, (okB_brel e3 hb).1⟩
  · intro i j bi bj ri rj hne hi hj hri hrj hown k o ⟨hfi, hfj⟩
    obtain ⟨si, ci, e1, e2, e3⟩ := okH_get hH hi
    obtain ⟨sj, cj, f1, f2, f3⟩ := okH_get hH hj
    simp only [pullR, e1] at hri
    simp only [pullR, f1] at hrj
    obtain ⟨rb2, hr2, hb⟩ := hs.heap si ci e2
    rw [hri] at hr2; cases hr2
    obtain ⟨rb2, hr2, hb2⟩ := hs.heap sj cj f2
    rw [hrj] at hr2; cases hr2
    obtain ⟨_, g2, g3⟩ := okB_brel e3 hb
    obtain ⟨_, g4, g5⟩ := okB_brel f3 hb2
    by_cases hss : si = sj
    · subst hss
      have := dupOk_spec hd e1 hi hown j f1
      omega
    · exact hs.sep si sj ci cj ri rj hss e2 f2 hri hrj (g3 hown) k o ⟨g2 k o hfi, g4 k o hfj⟩
  · intro id hid
    have : sel[id]? = none := List.getElem?_eq_none (by omega)
    simp only [pullR, this]
  · intro id hid rb hr
    simp only [idOk, List.all_eq_true, List.mem_range] at hA
    have := hA id hid
    split at this
    · rename_i k hk
      have e := beqE this
      subst e
      simp only [pullR, hk]; exact hr
    · cases this

theorem Weak.sel {A : Nat} {R : RL} {H : HL} {L : Nat} {R0 : RL} {H0 : HL} {L0 : Nat} (sel : List Nat) (hl : sel.length = L0) (hA : idOk sel A = true) (hR : okR sel R R0) (hH : okH sel H sel H0)
    (hd : dupOk sel 0 sel H0 = true) (hlen : Nat.ble H0.length L0 = true) : Weak A R H L R0 H0 L0 := by
  intro N B ρ a w hs _
  obtain ⟨h1, h2⟩ := sel_sim sel hl hA hR hH hd hs
  exact ⟨_, h1, Nat.le_of_ble_eq_true hlen, h2⟩

theorem hupd_le {H : HL} {L : Nat} (h : H.length ≤ L) : ∀ {W : Upd}, (∀ id ob, (id, ob) ∈ W → id < L) → (hupd H W).length ≤ L
  | [], _ => h
  | (id, ob) :: W, hW => by
    have h1 := hupd_le h (W := W) (fun i o hm => hW i o (List.mem_cons_of_mem _ hm))
    have h2 := hW id ob (List.mem_cons_self ..)
    simp only [hupd, hset]
    split
    · simpa using h1
    · simp; omega

/-- A nil slice, taken for a row of nothing. -/
theorem Weak.virt {A : Nat} {R : RL} {H : HL} {L : Nat} (t ty sz : Nat) (ht : lk t R = some .slnil) : Weak A R H L ((t, .sl L 0 0 sz false) :: R) (hupd H [(L, some (.row ty []))]) (L + 1) := by
  intro N B ρ a w hs hl
  have hc := Chg.virtual (ρ := ρ) (H := hg H) (w := w) (t := ty) (hs.fresh L (Nat.le_refl _))
  have hev := hc.evo (H := hg H) (fun _ _ _ => rfl) hs.heap hs.sep
  rw [← hg_hupd] at hev
  refine ⟨_, ⟨hs.size, ?_, hev.heap, hev.sep, ?_, hs.dfr⟩, ?_, hev.ev.toA⟩
  · intro t2 v hv
    simp only [rg, List.lookup_cons] at hv
    split at hv
    · rename_i e
      have : t2 = t := by simpa using e
      subst this
      cases hv
      have h1 := hs.regs t2 .slnil (by rw [rg, ← lk_eq]; exact ht)
      simp only [Rel] at h1 ⊢
      exact ⟨_, none, 0, setR_same _ _ _, h1, Nat.le_refl _, fun h => (by cases h), .inl rfl⟩
    · exact (hs.regs t2 v hv).ext hev.ext
  · intro id hid
    rw [setR_other _ _ (by omega)]
    exact hs.fresh id (by omega)
  · exact hupd_le (by omega) (fun id ob hm => by simp at hm; omega)

/-- A full slice, taken for any slice. -/
theorem Weak.unfull {A : Nat} {R : RL} {H : HL} {L : Nat} (t : Nat) {id o n sz : Nat} {f : Bool} (ht : lk t R = some (.sl id o n sz f)) : Weak A R H L ((t, .sl id o n sz false) :: R) H L := by
  intro N B ρ a w hs hl
  refine ⟨ρ, ⟨hs.size, ?_, hs.heap, hs.sep, hs.fresh, hs.dfr⟩, hl, EvA.refl _ _ _ _⟩
  intro t2 v hv
  simp only [rg, List.lookup_cons] at hv
  split at hv
  · rename_i e
    have : t2 = t := by simpa using e
    subst this
    cases hv
    have h1 := hs.regs t2 _ (by rw [rg, ← lk_eq]; exact ht)
    simp only [Rel] at h1 ⊢
    obtain ⟨rb, a, c, g1, g2, g3, _, g5⟩ := h1
    exact ⟨rb, a, c, g1, g2, g3, fun h => (by cases h), g5⟩
  · exact hs.regs t2 v hv

/-! ### Code -/

def hput : HL → Nat → Option SB → HL
  | [], 0, ob => [ob]
  | [], n + 1, ob => none :: hput [] n ob
  | _ :: xs, 0, ob => ob :: xs
  | x :: xs, n + 1, ob => x :: hput xs n ob

theorem hput_eq : ∀ (H : HL) (id : Nat) (ob : Option SB), hput H id ob = hset H id ob
  | [], 0, ob => by simp [hput, hset]
  | [], n + 1, ob => by rw [hput, hput_eq [] n ob]; simp [hset, List.replicate_succ]
  | x :: xs, 0, ob => by simp [hput, hset]
  | x :: xs, n + 1, ob => by
    rw [hput, hput_eq xs n ob]
    by_cases h : n < xs.length
    · simp [hset, h]
    · simp [hset, h]

def hupF (H : HL) : Upd → HL
  | [] => H
  | (id, ob) :: W => hput (hupF H W) id ob
theorem hupF_eq (H : HL) : ∀ W : Upd, hupF H W = hupd H W
  | [] => rfl
  | (id, ob) :: W => by rw [hupF, hupd, hput_eq, hupF_eq H W]

/-- The registers behind an operation. -/
def stp (R : RL) (dst : Option Nat) (out : Option SV) (k : RL → Prop) : Prop :=
  match dst with
  | none => k R
  | some d => match out with
    | some v => k ((d, v) :: R)
    | none => match lk d R with
      | none => k R
      | some _ => k (R.filter fun p => !(p.1 == d))
theorem filter_self (d : Nat) : ∀ R : RL, lk d R = none → (R.filter fun p => !(p.1 == d)) = R
  | [], _ => rfl
  | (a, b) :: R, h => by
    simp only [lk] at h
    split at h
    · cases h
    · rename_i e
      have hne : (a == d) = false := by
        have : a ≠ d := fun e2 => by subst e2; simp at e
        simpa using this
      simp only [List.filter_cons, hne, Bool.not_false, if_true, filter_self d R h]
theorem stp_eq (R : RL) (dst : Option Nat) (out : Option SV) (k : RL → Prop) : stp R dst out k = k (rput R dst out) := by
  cases dst with
  | none => rfl
  | some d =>
    cases out with
    | some v => rfl
    | none =>
      simp only [stp, rput]
      split
      · rename_i h; rw [filter_self d R h]
      · rfl

/-- The blocks behind an operation. -/
def stpH (H : HL) (W : Upd) (k : HL → Prop) : Prop :=
  match W with
  | [] => k H
  | (id, ob) :: W => k (hput (hupF H W) id ob)
theorem stpH_eq (H : HL) (W : Upd) (k : HL → Prop) : stpH H W k = k (hupF H W) := by
  cases W with
  | nil => rfl
  | cons x W => rfl

/-- One operation of a statement, and what follows. -/
def rstep (T : TT) (P : Program) (ops : Array Oper) (o : Oper) (ih : RL → HL → Nat → List Lg → (RL → HL → Nat → List Lg → Prop) → Prop) (R : RL) (H : HL) (L : Nat) (lg : List Lg) (Q : RL → HL → Nat → List Lg → Prop) : Prop :=
  match o.guard with
  | none => sop T P o R H L fun out W F L' => stp R o.dst out fun R' => stpH H W fun H' => ih R' H' L' (⟨o.dst, gslot ops o ++ readsOf o, F, W.map (·.1)⟩ :: lg) Q
  | some (j, want) => match ops.toList[j]? with
    | some oj => match oj.dst with
      | some d => match lk d R with
        | some (.b t) => (t = want → sop T P o R H L fun out W F L' => stp R o.dst out fun R' => stpH H W fun H' => ih R' H' L' (⟨o.dst, gslot ops o ++ readsOf o, F, W.map (·.1)⟩ :: lg) Q) ∧
            (t = !want → stp R o.dst none fun R' => ih R' H L (⟨o.dst, gslot ops o, [], []⟩ :: lg) Q)
        | _ => False
      | none => False
    | none => False

/-- Written with the recursor itself: so that Lean's kernel and its elaborator unfold it to the same words. -/
def rops (T : TT) (P : Program) (ops : Array Oper) (os : List Oper) : RL → HL → Nat → List Lg → (RL → HL → Nat → List Lg → Prop) → Prop :=
  @List.rec Oper (fun _ => RL → HL → Nat → List Lg → (RL → HL → Nat → List Lg → Prop) → Prop) (fun R H L lg Q => Q R H L lg) (fun o _ ih => rstep T P ops o ih) os

theorem rops_nil {T : TT} {P : Program} {ops : Array Oper} {R : RL} {H : HL} {L : Nat} {lg : List Lg} {Q : RL → HL → Nat → List Lg → Prop} : rops T P ops [] R H L lg Q = Q R H L lg := rfl
theorem rops_cons {T : TT} {P : Program} {ops : Array Oper} {o : Oper} {os : List Oper} {R : RL} {H : HL} {L : Nat} {lg : List Lg} {Q : RL → HL → Nat → List Lg → Prop} :
    rops T P ops (o :: os) R H L lg Q = rstep T P ops o (rops T P ops os) R H L lg Q := rfl

theorem appL_wr {o : Oper} {R : RL} {lg : Lg} {out : Option SV} {W : Upd} (h : lg.dst = o.dst) : appL (rg R) (wr ⟨lg, out, W⟩) = rg (rput R o.dst out) := by
  cases hd : o.dst with
  | none => simp only [wr, h, hd, rput]; funext t; simp [appL]
  | some d => simp only [wr, h, hd, rg_rput]

theorem rops_ok {T : TT} {P : Program} {ops : Array Oper} (hT : TOk P T) : ∀ {os : List Oper} {R : RL} {H : HL} {L : Nat} {lg : List Lg} {Q : RL → HL → Nat → List Lg → Prop}, rops T P ops os R H L lg Q → H.length ≤ L →
    ∃ es R' H' L', RunT P ops os (rg R) (hg H) L es (rg R') (hg H') L' ∧ H'.length ≤ L' ∧ Q R' H' L' ((es.map (·.lg)).reverse ++ lg)
  | [], R, H, L, lg, Q, h, hl => ⟨[], R, H, L, ⟨rfl, rfl, rfl, rfl⟩, hl, h⟩
  | o :: os, R, H, L, lg, Q, h, hl => by
    have go : gpass ops o (rg R) = some true → (sop T P o R H L fun out W F L' => stp R o.dst out fun R' => stpH H W fun H' => rops T P ops os R' H' L' (⟨o.dst, gslot ops o ++ readsOf o, F, W.map (·.1)⟩ :: lg) Q) →
        ∃ es R' H' L', RunT P ops (o :: os) (rg R) (hg H) L es (rg R') (hg H') L' ∧ H'.length ≤ L' ∧ Q R' H' L' ((es.map (·.lg)).reverse ++ lg) := by
      intro hg1 h
      obtain ⟨out, W, F, L', hlt, hL, hW, hk⟩ := sop_ok hT hl h
      rw [stp_eq, stpH_eq, hupF_eq] at hk
      obtain ⟨es, R', H', L'', hr, hl', hq⟩ := rops_ok hT hk (hupd_le (by omega) (fun id ob hm => (hW id ob hm).1))
      refine ⟨⟨⟨o.dst, gslot ops o ++ readsOf o, F, W.map (·.1)⟩, out, W⟩ :: es, R', H', L'', ?_, hl', by simpa using hq⟩
      refine ⟨_, es, L', rfl, ⟨rfl, rfl, .inl ⟨hg1, rfl, hlt⟩⟩, hL, hW, ?_⟩
      rw [appL_wr rfl, ← updW_app, ← hg_hupd]
      exact hr
    rw [rops_cons] at h
    simp only [rstep] at h
    split at h
    · rename_i hgd
      exact go (by simp only [gpass, hgd]) h
    · rename_i j want hgd
      split at h
      · rename_i oj hj
        split at h
        · rename_i d hd
          split at h
          · rename_i t ht
            have hp : gpass ops o (rg R) = some (t == want) := by
              have h1 : ops[j]? = some oj := by simpa using hj
              have h2 : rg R d = some (.b t) := by rw [rg, ← lk_eq]; exact ht
              simp only [gpass, hgd, h1, Option.bind_some, hd, h2]
            by_cases htw : t = want
            · exact go (by rw [hp, htw]; simp) (h.1 htw)
            · have h2 : t = !want := by cases t <;> cases want <;> simp_all
              have h3 := h.2 h2
              rw [stp_eq] at h3
              obtain ⟨es, R', H', L'', hr, hl', hq⟩ := rops_ok hT h3 hl
              refine ⟨⟨⟨o.dst, gslot ops o, [], []⟩, none, []⟩ :: es, R', H', L'', ?_, hl', by simpa using hq⟩
              refine ⟨_, es, L, rfl, ⟨rfl, rfl, .inr ⟨?_, rfl, rfl, rfl, rfl⟩⟩, Nat.le_refl _, (fun id ob hm => by simp at hm), ?_⟩
              · rw [hp]; simpa using htw
              · rw [appL_wr rfl]
                have : appL (hg H) ([] : Upd) = hg H := by funext i; simp [appL]
                rw [this]
                exact hr
          · exact h.elim
        · exact h.elim
      · exact h.elim

structure SWp (P : Program) (M : Option Nat → Prop) (N A : Nat) (c : Code) (Q : Exit → RL → HL → Nat → Prop) (R : RL) (H : HL) (L : Nat) : Prop where
  run : ∀ r n B ρ a w, M r → Sim N B L ρ (rg R) (hg H) a w → H.length ≤ L →
    c.wpIn (Fw r) n P (fun e a' w' => ∃ R' H' L' ρ', Q e R' H' L' ∧ H'.length ≤ L' ∧ Sim N B L' ρ' (rg R') (hg H') a' w' ∧ EvA A ρ (hg H) w ρ' (hg H') w') a w

def dstOk (N : Nat) (ops : Array Oper) : Bool := ops.toList.all fun o => match o.dst with | some d => decide (d < N) | none => true

def codeOk (N : Nat) : Code → Bool
  | .region _ ops draw => dstOk N ops && (!draw || edgesDown ops)
  | .seq a b => codeOk N a && codeOk N b
  | .cond _ a b => codeOk N a && codeOk N b
  | .block _ a => codeOk N a
  | .loop a => codeOk N a
  | _ => true

def sw (T : TT) (P : Program) (M : Option Nat → Prop) (N A : Nat) (c : Code) : (Exit → RL → HL → Nat → Prop) → RL → HL → Nat → Prop :=
  @Code.rec (fun _ => (Exit → RL → HL → Nat → Prop) → RL → HL → Nat → Prop)
    (fun Q => Q .normal)
    (fun _ ops draw Q R H L => rops T P ops ops.toList R H L [] fun R H L lg => match draw with
      | true => chk ops lg.reverse = true ∧ Q .normal R H L
      | false => Q .normal R H L)
    (fun _ _ iha ihb Q => iha fun e => match e with | .normal => ihb Q | e => Q e)
    (fun c _ _ ihx ihy Q R H L => match ev R c with
      | some (.b t) => (t = true → ihx Q R H L) ∧ (t = false → ihy Q R H L)
      | _ => False)
    (fun id _ ih Q => ih fun e => match e with
      | .exit i => match Nat.beq i id with | true => Q .normal | false => Q (.exit i)
      | e => Q e)
    (fun c _ Q => SWp P M N A (.loop c) Q)
    (fun f ps x y _ _ Q => SWp P M N A (.rangeFunc f ps x y) Q)
    (fun id Q => Q (.exit id))
    (fun c _ Q => SWp P M N A (.scope c) Q)
    (fun l Q => SWp P M N A (.label l) Q)
    (fun l Q => SWp P M N A (.goto l) Q)
    (fun Q => Q .ret)
    (fun s Q => SWp P M N A (.refuse s) Q) c

theorem SWp.seq {P : Program} {M : Option Nat → Prop} {N A : Nat} {x y : Code} {Q Q2 : Exit → RL → HL → Nat → Prop} {R : RL} {H : HL} {L : Nat} (hx : SWp P M N A x Q2 R H L)
    (hn : ∀ R H L, Q2 .normal R H L → SWp P M N A y Q R H L) (ho : ∀ e R H L, e ≠ .normal → Q2 e R H L → Q e R H L) : SWp P M N A (.seq x y) Q R H L := by
  refine ⟨fun r n B ρ a w hM hs hl => ?_⟩
  refine wpIn_seq (wpIn_mono (hx.run r n B ρ a w hM hs hl) ?_)
  rintro e a1 w1 ⟨R1, H1, L1, ρ1, hq, hl1, hs1, he1⟩
  have other : e ≠ .normal → ∃ R' H' L' ρ', Q e R' H' L' ∧ H'.length ≤ L' ∧ Sim N B L' ρ' (rg R') (hg H') a1 w1 ∧ EvA A ρ (hg H) w ρ' (hg H') w1 := fun hne => ⟨R1, H1, L1, ρ1, ho _ _ _ _ hne hq, hl1, hs1, he1⟩
  cases e with
  | normal =>
    refine wpIn_mono ((hn _ _ _ hq).run r n B ρ1 a1 w1 hM hs1 hl1) ?_
    rintro e a2 w2 ⟨R2, H2, L2, ρ2, hq2, hl2, hs2, he2⟩
    exact ⟨R2, H2, L2, ρ2, hq2, hl2, hs2, he1.trans he2⟩
  | _ => exact other (by simp)

theorem SWp.weak {P : Program} {M : Option Nat → Prop} {N A : Nat} {c : Code} {Q : Exit → RL → HL → Nat → Prop} {R R0 : RL} {H H0 : HL} {L L0 : Nat} (h : Weak A R H L R0 H0 L0) (hc : SWp P M N A c Q R0 H0 L0) : SWp P M N A c Q R H L := by
  refine ⟨fun r n B ρ a w hM hs hl => ?_⟩
  obtain ⟨ρ0, s0, l0, e0⟩ := h N B ρ a w hs hl
  refine wpIn_mono (hc.run r n B ρ0 a w hM s0 l0) ?_
  rintro e a2 w2 ⟨R2, H2, L2, ρ2, hq2, hl2, hs2, he2⟩
  exact ⟨R2, H2, L2, ρ2, hq2, hl2, hs2, e0.trans he2⟩

theorem SWp.mono {P : Program} {M : Option Nat → Prop} {N A : Nat} {c : Code} {Q Q2 : Exit → RL → HL → Nat → Prop} {R : RL} {H : HL} {L : Nat} (h : SWp P M N A c Q R H L) (hq : ∀ e R H L, Q e R H L → Q2 e R H L) : SWp P M N A c Q2 R H L := by
  refine ⟨fun r n B ρ a w hM hs hl => ?_⟩
  refine wpIn_mono (h.run r n B ρ a w hM hs hl) ?_
  rintro e a2 w2 ⟨R2, H2, L2, ρ2, hq2, rest⟩
  exact ⟨R2, H2, L2, ρ2, hq _ _ _ _ hq2, rest⟩

theorem sw_ok {T : TT} {P : Program} {M : Option Nat → Prop} {N A : Nat} (hT : TOk P T) (hm : P.follows .mixedOrders = true) : ∀ {c : Code} {Q : Exit → RL → HL → Nat → Prop} {R : RL} {H : HL} {L : Nat}, codeOk N c = true →
    sw T P M N A c Q R H L → SWp P M N A c Q R H L
  | .skip, Q, R, H, L, _, h => ⟨fun r n B ρ a w hM hs hl => wpIn_skip ⟨R, H, L, ρ, h, hl, hs, EvA.refl _ _ _ _⟩⟩
  | .exit id, Q, R, H, L, _, h => ⟨fun r n B ρ a w hM hs hl => wpIn_exit ⟨R, H, L, ρ, h, hl, hs, EvA.refl _ _ _ _⟩⟩
  | .ret, Q, R, H, L, _, h => ⟨fun r n B ρ a w hM hs hl => wpIn_ret ⟨R, H, L, ρ, h, hl, hs, EvA.refl _ _ _ _⟩⟩
  | .region id ops draw, Q, R, H, L, hc, h => by
    refine ⟨fun r n B ρ a w hM hs hl => ?_⟩
    simp only [codeOk, Bool.and_eq_true, Bool.or_eq_true, Bool.not_eq_true'] at hc
    obtain ⟨hd, hdr⟩ := hc
    have hN : ∀ (i : Nat) (o : Oper) (d : Nat), ops[i]? = some o → o.dst = some d → d < N := by
      intro i o d ho hdst
      simp only [dstOk, List.all_eq_true] at hd
      have := hd o (by simpa using Array.mem_of_getElem? ho)
      simpa [hdst] using this
    have h : rops T P ops ops.toList R H L [] (fun R H L lg => match (generalizing := false) draw with
      | true => chk ops lg.reverse = true ∧ Q .normal R H L
      | false => Q .normal R H L) := h
    obtain ⟨es, R', H', L', hr, hl', hq⟩ := rops_ok hT h hl
    simp only [List.append_nil, List.reverse_reverse] at hq
    cases draw with
    | true =>
      obtain ⟨hchk, hq⟩ := hq
      refine region_any hm hN hr hchk (by simpa using hdr) hs ?_
      intro a' w' ρ' hs' hev
      exact ⟨R', H', L', ρ', hq, hl', hs', hev.toA⟩
    | false =>
      refine wpIn_region ?_
      have := region_text (r := r) (n := n) (Q := fun e a' w' => ∃ R' H' L' ρ', Q e R' H' L' ∧ H'.length ≤ L' ∧ Sim N B L' ρ' (rg R') (hg H') a' w' ∧ EvA A ρ (hg H) w ρ' (hg H') w') hN ops.toList 0 (rg R) (hg H) L es ρ a w (by simp) hr hs
        (fun a' w' ρ' hs' hev => ⟨R', H', L', ρ', hq, hl', hs', hev.toA⟩)
      rw [List.range_eq_range']
      simpa using this
  | .seq x y, Q, R, H, L, hc, h => by
    simp only [codeOk, Bool.and_eq_true] at hc
    have h : sw T P M N A x (fun e => match e with | .normal => sw T P M N A y Q | e => Q e) R H L := h
    exact (sw_ok hT hm hc.1 h).seq (fun R H L h => sw_ok hT hm hc.2 h) (fun e R H L hne h => by cases e <;> first | exact absurd rfl hne | exact h)
  | .cond c x y, Q, R, H, L, hc, h => by
    simp only [codeOk, Bool.and_eq_true] at hc
    have h : (match ev R c with
      | some (.b t) => (t = true → sw T P M N A x Q R H L) ∧ (t = false → sw T P M N A y Q R H L)
      | _ => False) := h
    split at h
    · rename_i t ht
      refine ⟨fun r n B ρ a w hM hs hl => ?_⟩
      have hcv : a.eval c = .bool t := by
        cases c with
        | tmp k =>
          have h1 := hs.regs k (.b t) (by rw [rg, ← lk_eq]; exact ht)
          simp only [Rel] at h1
          exact h1
        | const v =>
          have h1 := (ofVal_rel (ρ := ρ) ht).1
          simp only [Rel] at h1
          exact h1
        | func f => cases ht
        | global g => cases ht
      refine wpIn_cond_split hcv (fun ht => (sw_ok hT hm hc.1 (h.1 ht)).run r n B ρ a w hM hs hl) (fun ht => (sw_ok hT hm hc.2 (h.2 ht)).run r n B ρ a w hM hs hl)
    · exact h.elim
  | .block id c, Q, R, H, L, hc, h => by
    refine ⟨fun r n B ρ a w hM hs hl => ?_⟩
    have h : sw T P M N A c (fun e => match e with
      | .exit i => match Nat.beq i id with | true => Q .normal | false => Q (.exit i)
      | e => Q e) R H L := h
    simp only [codeOk] at hc
    refine wpIn_block (wpIn_mono ((sw_ok hT hm hc h).run r n B ρ a w hM hs hl) ?_)
    rintro e a2 w2 ⟨R2, H2, L2, ρ2, hq2, rest⟩
    cases e with
    | exit i =>
      simp only [Exit.inBlock]
      cases hb : Nat.beq i id with
      | true => simp only [hb] at hq2; rw [if_pos (beqE hb)]; exact ⟨R2, H2, L2, ρ2, hq2, rest⟩
      | false => simp only [hb] at hq2; rw [if_neg (fun e => by subst e; simp at hb)]; exact ⟨R2, H2, L2, ρ2, hq2, rest⟩
    | _ => exact ⟨R2, H2, L2, ρ2, hq2, rest⟩
  | .loop c, Q, R, H, L, _, h => h
  | .rangeFunc f ps x y, Q, R, H, L, _, h => h
  | .scope c, Q, R, H, L, _, h => h
  | .label l, Q, R, H, L, _, h => h
  | .goto l, Q, R, H, L, _, h => h
  | .refuse s, Q, R, H, L, _, h => h

open Classical in
noncomputable def leastK (p : Nat → Prop) : Nat := if h : ∃ k, p k ∧ ∀ j, p j → k ≤ j then Classical.choose h else 0

theorem leastK_spec {p : Nat → Prop} {k : Nat} (h : p k) : p (leastK p) ∧ leastK p ≤ k := by
  have hex : ∃ k, p k ∧ ∀ j, p j → k ≤ j := by
    induction k using Nat.strongRecOn with
    | _ k ih =>
      by_cases hs : ∃ j, j < k ∧ p j
      · obtain ⟨j, hj, hp⟩ := hs
        exact ih j hj hp
      · exact ⟨k, h, fun j hj => Nat.le_of_not_lt fun hlt => hs ⟨j, hlt, hj⟩⟩
  have e : leastK p = Classical.choose hex := by unfold leastK; rw [dif_pos hex]
  have := Classical.choose_spec hex
  rw [← e] at this
  exact ⟨this.1, this.2 _ h⟩

/-- A loop: a family of states, one of which is there at every round's head. -/
theorem loop_rule {T : TT} {P : Program} {M : Option Nat → Prop} {N A : Nat} {c : Code} {Q : Exit → RL → HL → Nat → Prop} {R : RL} {H : HL} {L : Nat} (hT : TOk P T) (hm : P.follows .mixedOrders = true) (hc : codeOk N c = true)
    {ι : Type} (IR : ι → RL) (IH : ι → HL) (IL : ι → Nat) (μ : ι → Nat) (i0 : ι) (h0 : Weak A R H L (IR i0) (IH i0) (IL i0))
    (round : ∀ i, sw T P M N A c (fun e R H L => match e with | .normal => ∃ j, μ j < μ i ∧ Weak A R H L (IR j) (IH j) (IL j) | e => Q e R H L) (IR i) (IH i) (IL i)) : SWp P M N A (.loop c) Q R H L := by
  refine SWp.weak h0 ?_
  refine ⟨fun r n B ρ a w hM hs hl => ?_⟩
  let J := fun (a' : Act) (w' : World) (k : Nat) => ∃ i ρ', μ i = k ∧ (IH i).length ≤ IL i ∧ Sim N B (IL i) ρ' (rg (IR i)) (hg (IH i)) a' w' ∧ EvA A ρ (hg (IH i0)) w ρ' (hg (IH i)) w'
  refine wpIn_loop (fun a' w' => ∃ k, J a' w' k) (fun a' w' => leastK (J a' w')) ⟨μ i0, i0, ρ, rfl, hl, hs, EvA.refl _ _ _ _⟩ ?_
  rintro a1 w1 ⟨k, hk⟩
  obtain ⟨⟨i, ρ1, hi, hl1, hs1, he1⟩, _⟩ := leastK_spec hk
  refine wpIn_mono ((sw_ok hT hm hc (round i)).run r n B ρ1 a1 w1 hM hs1 hl1) ?_
  rintro e a2 w2 ⟨R2, H2, L2, ρ2, hq, hl2, hs2, he2⟩
  cases e with
  | normal =>
    obtain ⟨j, hj, hw⟩ := hq
    obtain ⟨ρ3, hs3, hl3, he3⟩ := hw N B ρ2 a2 w2 hs2 hl2
    have hJ : J a2 w2 (μ j) := ⟨j, ρ3, rfl, hl3, hs3, (he1.trans he2).trans he3⟩
    have := (leastK_spec hJ).2
    exact ⟨⟨μ j, hJ⟩, by omega⟩
  | _ => exact ⟨R2, H2, L2, ρ2, hq, hl2, hs2, he1.trans he2⟩

/-- A loop of at most m rounds, round by round. -/
def swN (T : TT) (P : Program) (M : Option Nat → Prop) (N A : Nat) (c : Code) (Q : Exit → RL → HL → Nat → Prop) (m : Nat) : RL → HL → Nat → Prop :=
  @Nat.rec (fun _ => RL → HL → Nat → Prop) (fun _ _ _ => False) (fun _ ih => sw T P M N A c fun e => match e with | .normal => ih | e => Q e) m

theorem loop_rounds {T : TT} {P : Program} {M : Option Nat → Prop} {N A : Nat} {c : Code} {Q : Exit → RL → HL → Nat → Prop} {R : RL} {H : HL} {L : Nat} (hT : TOk P T) (hm : P.follows .mixedOrders = true) (hc : codeOk N c = true)
    (m : Nat) (h : swN T P M N A c Q m R H L) : SWp P M N A (.loop c) Q R H L := by
  refine ⟨fun r n B ρ a w hM hs hl => ?_⟩
  have key : ∀ m R2 H2 L2 ρ2 a2 w2, swN T P M N A c Q m R2 H2 L2 → Sim N B L2 ρ2 (rg R2) (hg H2) a2 w2 → H2.length ≤ L2 → EvA A ρ (hg H) w ρ2 (hg H2) w2 →
      Code.roundsIn (Fw r) n P c (fun e a' w' => ∃ R' H' L' ρ', Q e R' H' L' ∧ H'.length ≤ L' ∧ Sim N B L' ρ' (rg R') (hg H') a' w' ∧ EvA A ρ (hg H) w ρ' (hg H') w') m a2 w2 := by
    intro m
    induction m with
    | zero => intro R2 H2 L2 ρ2 a2 w2 h; exact h.elim
    | succ m ih =>
      intro R2 H2 L2 ρ2 a2 w2 h hs2 hl2 he2
      rw [roundsIn_succ]
      refine wpIn_mono ((sw_ok hT hm hc h).run r n B ρ2 a2 w2 hM hs2 hl2) ?_
      rintro e a3 w3 ⟨R3, H3, L3, ρ3, hq3, hl3, hs3, he3⟩
      cases e with
      | normal => exact ih R3 H3 L3 ρ3 a3 w3 hq3 hs3 hl3 (he2.trans he3)
      | _ => exact ⟨R3, H3, L3, ρ3, hq3, hl3, hs3, he2.trans he3⟩
  exact wpIn_loop_rounds m (key m R H L ρ a w h hs hl (EvA.refl _ _ _ _))

/-! ### Choices, decided -/

theorem brT {t : Bool} {A B : Prop} (ht : t = true) (a : A) : (t = true → A) ∧ (t = false → B) := ⟨fun _ => a, fun h => absurd (ht.symm.trans h) (by simp)⟩
theorem brF {t : Bool} {A B : Prop} (ht : t = false) (b : B) : (t = true → A) ∧ (t = false → B) := ⟨fun h => absurd (h.symm.trans ht) (by simp), fun _ => b⟩
theorem pkT {t : Bool} {x y : Option SV} {K : SV → Prop} (ht : t = true) (h : match x with | some z => K z | none => False) : ∃ z, (if t then x else y) = some z ∧ K z := by
  subst ht
  cases x with
  | none => exact h.elim
  | some z => exact ⟨z, rfl, h⟩
theorem pkF {t : Bool} {x y : Option SV} {K : SV → Prop} (ht : t = false) (h : match y with | some z => K z | none => False) : ∃ z, (if t then x else y) = some z ∧ K z := by
  subst ht
  cases y with
  | none => exact h.elim
  | some z => exact ⟨z, rfl, h⟩
theorem gdT {t want : Bool} {A B : Prop} (ht : t = want) (a : A) : (t = want → A) ∧ (t = !want → B) := ⟨fun _ => a, fun h => absurd (ht.symm.trans h) (by cases want <;> simp)⟩
theorem gdF {t want : Bool} {A B : Prop} (ht : t = !want) (b : B) : (t = want → A) ∧ (t = !want → B) := ⟨fun h => absurd (h.symm.trans ht) (by cases want <;> simp), fun _ => b⟩
end Go.Sh
