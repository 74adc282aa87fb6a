/- Merged for a claim: Sh17, Sh21, Sh19, Sh22, Sh23, G3, Sh24, Sh25, Sh26, Sh27, G1, F1a, T1, E1, E2, E3, E4a, E6, E9a, E9, F2, F3, G4, G5, G6, G7, G8a, G8. -/
import Derived.Test.YtaknbogocnkmnaaGs2
/- Small facts for walks. -/
namespace Go.Sh

def plainV : SV → Bool
  | .i _ => true
  | .u8 _ => true
  | .u16 _ => true
  | .u32 _ => true
  | .u64 _ => true
  | .b _ => true
  | .s _ => true
  | .pnil => true
  | .slnil => true
  | .fnil => true
  | .mnil => true
  | _ => false

def plainL (l : List SV) : Bool := l.all plainV

theorem renV_plain (sel : List Nat) {x : SV} (h : plainV x = true) : renV sel x = some x := by cases x <;> first | rfl | cases h
theorem renL_plain (sel : List Nat) : ∀ {l : List SV}, plainL l = true → renL sel l = some l
  | [], _ => rfl
  | x :: l, h => by
    simp only [plainL, List.all_cons, Bool.and_eq_true] at h
    simp only [renL, renV_plain sel h.1, renL_plain sel (l := l) h.2]

@[simp] theorem plainL_u8 (l : List UInt8) : plainL (l.map .u8) = true := by simp [plainL, plainV]
@[simp] theorem plainL_u64 (l : List UInt64) : plainL (l.map .u64) = true := by simp [plainL, plainV]
@[simp] theorem plainL_u32 (l : List UInt32) : plainL (l.map .u32) = true := by simp [plainL, plainV]
@[simp] theorem plainL_i (l : List Int) : plainL (l.map .i) = true := by simp [plainL, plainV]
@[simp] theorem plainL_app (a b : List SV) : plainL (a ++ b) = (plainL a && plainL b) := by simp [plainL]
@[simp] theorem plainL_cons (a : SV) (b : List SV) : plainL (a :: b) = (plainV a && plainL b) := by simp [plainL]
@[simp] theorem plainL_nil : plainL [] = true := rfl
@[simp] theorem plainV_u8 (x : UInt8) : plainV (.u8 x) = true := rfl
@[simp] theorem plainV_u32 (x : UInt32) : plainV (.u32 x) = true := rfl
@[simp] theorem plainV_u64 (x : UInt64) : plainV (.u64 x) = true := rfl
@[simp] theorem plainV_i (x : Int) : plainV (.i x) = true := rfl
@[simp] theorem plainV_b (x : Bool) : plainV (.b x) = true := rfl

/-- Plain cells go by any names. -/
theorem ren_eq {sel : List Nat} {l l' : List SV} (hp : plainL l = true) (h : l = l') : renL sel l = some l' := by rw [renL_plain sel hp, h]

theorem idx_i {n : Int} {m : Nat} (h : n = (m : Int)) : idxOf (.i n) = some m := by
  subst h; simp [idxOf]

theorem take_all {α : Type} {l : List α} {n : Nat} (h : n = l.length) : l.take n = l := by subst h; simp
@[simp] theorem take_map_len {α : Type} (f : α → SV) (l : List α) : (l.map f).take l.length = l.map f := take_all (by simp)

@[simp] theorem cells_row (t : Nat) (l : List SV) : (SB.row t l).cells = l := rfl
@[simp] theorem cells_box (l : List SV) : (SB.box l).cells = l := rfl
@[simp] theorem cells_ro (l : List SV) : (SB.ro l).cells = l := rfl
@[simp] theorem cells_u8 (x : UInt8) : (SV.u8 x).cells = [.u8 x] := rfl
@[simp] theorem cells_u32 (x : UInt32) : (SV.u32 x).cells = [.u32 x] := rfl
@[simp] theorem cells_u64 (x : UInt64) : (SV.u64 x).cells = [.u64 x] := rfl
@[simp] theorem cells_i (x : Int) : (SV.i x).cells = [.i x] := rfl
@[simp] theorem cells_s (x : List UInt8) : (SV.s x).cells = [.s x] := rfl
@[simp] theorem cells_agg (x : List SV) : (SV.agg x).cells = x := rfl
@[simp] theorem reps_u8 (n : Nat) (x : SV) : reps n [x] = List.replicate n x := rfl
@[simp] theorem sput_u8 (l : List SV) (k : Nat) (x : UInt8) : sput l k (.u8 x) = l.set k (.u8 x) := rfl
@[simp] theorem sput_u32 (l : List SV) (k : Nat) (x : UInt32) : sput l k (.u32 x) = l.set k (.u32 x) := rfl
@[simp] theorem sput_u64 (l : List SV) (k : Nat) (x : UInt64) : sput l k (.u64 x) = l.set k (.u64 x) := rfl
@[simp] theorem sput_i (l : List SV) (k : Nat) (x : Int) : sput l k (.i x) = l.set k (.i x) := rfl

/-! ### A call whose blocks hold plain cells -/

def plainB : SB → Bool
  | .row _ l => plainL l
  | .box l => plainL l
  | .ro l => plainL l
  | .obj _ => false
@[simp] theorem plainB_row (t : Nat) (l : List SV) : plainB (.row t l) = plainL l := rfl
@[simp] theorem plainB_box (l : List SV) : plainB (.box l) = plainL l := rfl
@[simp] theorem plainB_ro (l : List SV) : plainB (.ro l) = plainL l := rfl

def plainH : HL → Bool
  | [] => true
  | none :: H => plainH H
  | some b :: H => plainB b && plainH H

def cWp : List Nat → HL → HL → Option Upd
  | s :: ss, some b0 :: H0, ob :: H1 => match cWp ss H0 H1 with
    | some W => match b0.own with
      | false => some W
      | true => match ob with
        | none => some ((s, none) :: W)
        | some b => match b.own with
          | true => some ((s, some b) :: W)
          | false => none
    | none => none
  | s :: ss, [], ob :: H1 => match cWp ss [] H1 with
    | some W => match ob with
      | none => some ((s, none) :: W)
      | some b => match b.own with
        | true => some ((s, some b) :: W)
        | false => none
    | none => none
  | [], [], [] => some []
  | _, _, _ => none

theorem renB_plain (sel : List Nat) {b : SB} (h : plainB b = true) : renB sel b = some b := by
  cases b <;> simp only [plainB, Bool.false_eq_true] at h <;> simp only [renB, renL_plain sel h]

theorem cWp_eq (sel : List Nat) : ∀ (ss : List Nat) (H0 H1 : HL), plainH H1 = true → cW sel ss H0 H1 = cWp ss H0 H1
  | s :: ss, some b0 :: H0, none :: H1, h => by
    simp only [plainH] at h
    simp only [cW, cWp, cWp_eq sel ss H0 H1 h]
    cases cWp ss H0 H1 <;> first | rfl | (cases b0.own <;> rfl)
  | s :: ss, some b0 :: H0, some b :: H1, h => by
    simp only [plainH, Bool.and_eq_true] at h
    simp only [cW, cWp, cWp_eq sel ss H0 H1 h.2, renB_plain sel h.1]
    cases cWp ss H0 H1 <;> first | rfl | (cases b0.own <;> first | rfl | (cases b.own <;> rfl))
  | s :: ss, [], none :: H1, h => by
    simp only [plainH] at h
    simp only [cW, cWp, cWp_eq sel ss [] H1 h]
    cases cWp ss [] H1 <;> rfl
  | s :: ss, [], some b :: H1, h => by
    simp only [plainH, Bool.and_eq_true] at h
    simp only [cW, cWp, cWp_eq sel ss [] H1 h.2, renB_plain sel h.1]
    cases cWp ss [] H1 <;> first | rfl | (cases b.own <;> rfl)
  | [], [], [], _ => rfl
  | [], [], _ :: _, _ => by simp [cW, cWp]
  | [], _ :: _, _, _ => by simp [cW, cWp]
  | _ :: _, [], [], _ => by simp [cW, cWp]
  | _ :: _, none :: _, _, _ => by simp [cW, cWp]
  | _ :: _, some _ :: _, [], _ => by simp [cW, cWp]

def sopCallP (R : RL) (H : HL) (L : Nat) (x : Operand) (args : List Operand) (f : Nat) (sel : List Nat) (args0 : List SV) (H0 : HL) (ret : SV) (H1 : HL) (k : K1) : Prop :=
  (match ev R x with
    | some (.fn g caps) => match evs R args with
      | some zs => g = f ∧ renL sel args0 = some (zs ++ caps)
      | none => False
    | _ => False) ∧ okH sel H sel H0 ∧ plainH H1 = true ∧
  match Nat.beq sel.length H0.length with
  | true => match dupOk sel 0 sel H0 with
    | true => match cWp (sel ++ newSel L (H1.length - H0.length)) H0 H1 with
      | some W => match renV (sel ++ newSel L (H1.length - H0.length)) ret with
        | some z => k (some z) W sel (L + (H1.length - H0.length))
        | none => False
      | none => False
    | false => False
  | false => False

theorem ok1_callP {P : Program} {o : Oper} {R : RL} {H : HL} {L : Nat} {k : K1} {x : Operand} {args : Array Operand} {tys : Array TypeId} {f : Nat} {args0 : List SV} {H0 H1 : HL} {ret : SV} (sel : List Nat)
    (hc : SCall P f args0 H0 ret H1) (ho : o.op = .call ⟨.value x, args, tys⟩) (hle : Nat.ble H.length L = true) (h : sopCallP R H L x args.toList f sel args0 H0 ret H1 k) : Ok1 P o R H L k := by
  obtain ⟨h1, h2, hp, h3⟩ := h
  refine ok1_call sel hc ho hle ⟨h1, h2, ?_⟩
  rw [cWp_eq _ _ _ _ hp]
  exact h3

/-! ### Calls of which some blocks hold plain cells (told by flags), others are renamed by reckoning -/

def plainHf : List Bool → HL → Bool
  | true :: fs, some b :: H => plainB b && plainHf fs H
  | _ :: fs, _ :: H => plainHf fs H
  | _, _ => true

def renBf (f : Bool) (sel : List Nat) (b : SB) : Option SB := match f with | true => some b | false => renB sel b

def cWf (sel : List Nat) : List Bool → List Nat → HL → HL → Option Upd
  | f :: fs, s :: ss, some b0 :: H0, ob :: H1 => match cWf sel fs ss H0 H1 with
    | some W => match b0.own with
      | false => some W
      | true => match ob with
        | none => some ((s, none) :: W)
        | some b => match b.own with
          | true => match renBf f sel b with | some b' => some ((s, some b') :: W) | none => none
          | false => none
    | none => none
  | f :: fs, s :: ss, [], ob :: H1 => match cWf sel fs ss [] H1 with
    | some W => match ob with
      | none => some ((s, none) :: W)
      | some b => match b.own with
        | true => match renBf f sel b with | some b' => some ((s, some b') :: W) | none => none
        | false => none
    | none => none
  | _, [], [], [] => some []
  | _, _, _, _ => none

theorem renBf_eq {f : Bool} {sel : List Nat} {b b' : SB} (hp : f = true → plainB b = true) (h : renBf f sel b = some b') : renB sel b = some b' := by
  cases f with
  | false => exact h
  | true => rw [renB_plain sel (hp rfl)]; exact h

theorem cWf_eq (sel : List Nat) : ∀ (fs : List Bool) (ss : List Nat) (H0 H1 : HL) (W : Upd), plainHf fs H1 = true → cWf sel fs ss H0 H1 = some W → cW sel ss H0 H1 = some W
  | f :: fs, s :: ss, some b0 :: H0, ob :: H1, W, hp, h => by
    have hp1 : plainHf fs H1 = true := by
      cases f <;> cases ob <;> simp only [plainHf, Bool.and_eq_true] at hp <;> first | exact hp | exact hp.2
    simp only [cWf] at h
    split at h
    · rename_i W' hW
      have ih := cWf_eq sel fs ss H0 H1 W' hp1 hW
      simp only [cW, ih]
      split at h
      · rename_i hown; simp only [hown]; exact h
      · rename_i hown
        simp only [hown]
        split at h
        · exact h
        · rename_i b
          split at h
          · rename_i hbo
            simp only [hbo]
            split at h
            · rename_i b' hb'
              rw [renBf_eq (fun e => by subst e; simp only [plainHf, Bool.and_eq_true] at hp; exact hp.1) hb']
              exact h
            · cases h
          · cases h
    · cases h
  | f :: fs, s :: ss, [], ob :: H1, W, hp, h => by
    have hp1 : plainHf fs H1 = true := by
      cases f <;> cases ob <;> simp only [plainHf, Bool.and_eq_true] at hp <;> first | exact hp | exact hp.2
    simp only [cWf] at h
    split at h
    · rename_i W' hW
      have ih := cWf_eq sel fs ss [] H1 W' hp1 hW
      simp only [cW, ih]
      split at h
      · exact h
      · rename_i b
        split at h
        · rename_i hbo
          simp only [hbo]
          split at h
          · rename_i b' hb'
            rw [renBf_eq (fun e => by subst e; simp only [plainHf, Bool.and_eq_true] at hp; exact hp.1) hb']
            exact h
          · cases h
        · cases h
    · cases h
  | [], [], [], [], W, _, h => by simp only [cWf, Option.some.injEq] at h; subst h; rfl
  | _ :: _, [], [], [], W, _, h => by simp only [cWf, Option.some.injEq] at h; subst h; rfl
  | [], [], [], _ :: _, W, _, h => by simp [cWf] at h
  | _ :: _, [], [], _ :: _, W, _, h => by simp [cWf] at h
  | [], [], _ :: _, _, W, _, h => by simp [cWf] at h
  | _ :: _, [], _ :: _, _, W, _, h => by simp [cWf] at h
  | [], _ :: _, _, _, W, _, h => by simp [cWf] at h
  | _ :: _, _ :: _, [], [], W, _, h => by simp [cWf] at h
  | _ :: _, _ :: _, none :: _, _, W, _, h => by simp [cWf] at h
  | _ :: _, _ :: _, some _ :: _, [], W, _, h => by simp [cWf] at h

def plainW : SV → Bool
  | .agg l => plainL l
  | x => plainV x
def plainT : List SV → Bool
  | [] => true
  | x :: xs => plainW x && plainT xs
def plainR : SV → Bool
  | .tup l => plainT l
  | x => plainW x

theorem renV_plainW (sel : List Nat) {x : SV} (h : plainW x = true) : renV sel x = some x := by
  cases x <;> first | exact renV_plain sel h | (simp only [plainW] at h; simp only [renV, renL_plain sel h])
theorem renL_plainT (sel : List Nat) : ∀ {l : List SV}, plainT l = true → renL sel l = some l
  | [], _ => rfl
  | x :: l, h => by
    simp only [plainT, Bool.and_eq_true] at h
    simp only [renL, renV_plainW sel h.1, renL_plainT sel (l := l) h.2]
theorem renV_plainR (sel : List Nat) {x : SV} (h : plainR x = true) : renV sel x = some x := by
  cases x <;> first | exact renV_plainW sel h | (simp only [plainR] at h; simp only [renV, renL_plainT sel h])

def renVf (f : Bool) (sel : List Nat) (x : SV) : Option SV := match f with | true => some x | false => renV sel x
def plainRf (f : Bool) (x : SV) : Bool := match f with | true => plainR x | false => true

def sopCallF (fl : List Bool) (rf : Bool) (R : RL) (H : HL) (L : Nat) (x : Operand) (args : List Operand) (f : Nat) (sel : List Nat) (args0 : List SV) (H0 : HL) (ret : SV) (H1 : HL) (k : K1) : Prop :=
  (match ev R x with
    | some (.fn g caps) => match evs R args with
      | some zs => g = f ∧ renL sel args0 = some (zs ++ caps)
      | none => False
    | _ => False) ∧ okH sel H sel H0 ∧ plainHf fl H1 = true ∧ plainRf rf ret = true ∧
  match Nat.beq sel.length H0.length with
  | true => match dupOk sel 0 sel H0 with
    | true => match cWf (sel ++ newSel L (H1.length - H0.length)) fl (sel ++ newSel L (H1.length - H0.length)) H0 H1 with
      | some W => match renVf rf (sel ++ newSel L (H1.length - H0.length)) ret with
        | some z => k (some z) W sel (L + (H1.length - H0.length))
        | none => False
      | none => False
    | false => False
  | false => False

theorem ok1_callF {P : Program} {o : Oper} {R : RL} {H : HL} {L : Nat} {k : K1} {x : Operand} {args : Array Operand} {tys : Array TypeId} {f : Nat} {args0 : List SV} {H0 H1 : HL} {ret : SV} (sel : List Nat) (fl : List Bool) (rf : Bool)
    (hc : SCall P f args0 H0 ret H1) (ho : o.op = .call ⟨.value x, args, tys⟩) (hle : Nat.ble H.length L = true) (h : sopCallF fl rf R H L x args.toList f sel args0 H0 ret H1 k) : Ok1 P o R H L k := by
  obtain ⟨h1, h2, hp, hr, h3⟩ := h
  refine ok1_call sel hc ho hle ⟨h1, h2, ?_⟩
  cases hl : Nat.beq sel.length H0.length with
  | false => rw [hl] at h3; exact h3.elim
  | true =>
    rw [hl] at h3
    simp only at h3 ⊢
    cases hd : dupOk sel 0 sel H0 with
    | false => rw [hd] at h3; exact h3.elim
    | true =>
      rw [hd] at h3
      simp only at h3 ⊢
      cases hw : cWf (sel ++ newSel L (H1.length - H0.length)) fl (sel ++ newSel L (H1.length - H0.length)) H0 H1 with
      | none => rw [hw] at h3; exact h3.elim
      | some W =>
        rw [hw] at h3
        rw [cWf_eq _ _ _ _ _ _ hp hw]
        cases rf with
        | false => exact h3
        | true =>
          simp only [plainRf] at hr
          simp only [renV_plainR _ hr]
          exact h3
end Go.Sh
/- Loops over iterators: a round, as a call; the statement. -/
namespace Go.Sh
set_option linter.unusedSimpArgs false

def noObj : HL → Bool
  | [] => true
  | none :: H => noObj H
  | some (.obj _) :: _ => false
  | some _ :: H => noObj H

theorem noObj_get : ∀ {H : HL} {id : Nat} {y : OB}, noObj H = true → hg H id ≠ some (.obj y)
  | [], id, y, _, h => by simp [hg] at h
  | none :: H, 0, y, _, h => by simp [hg] at h
  | none :: H, id + 1, y, hn, h => noObj_get (H := H) (id := id) hn (by simpa [hg] using h)
  | some (.obj _) :: H, id, y, hn, h => by simp [noObj] at hn
  | some (.row _ _) :: H, 0, y, hn, h => by simp [hg] at h
  | some (.box _) :: H, 0, y, hn, h => by simp [hg] at h
  | some (.ro _) :: H, 0, y, hn, h => by simp [hg] at h
  | some (.row _ _) :: H, id + 1, y, hn, h => noObj_get (H := H) (id := id) hn (by simpa [hg] using h)
  | some (.box _) :: H, id + 1, y, hn, h => noObj_get (H := H) (id := id) hn (by simpa [hg] using h)
  | some (.ro _) :: H, id + 1, y, hn, h => noObj_get (H := H) (id := id) hn (by simpa [hg] using h)

/-- A block of cells lies in cells. -/
theorem foot_cells {ρ : Ren} {w : World} {rb : RB} {b : SB} {k o : Nat} (hb : BRel ρ w rb b) (hn : ∀ y, b ≠ .obj y) (hf : foot rb b k o) : ∃ c t fz, w.heap[k]? = some (.cells c t fz) := by
  cases b with
  | obj y => exact absurd rfl (hn y)
  | ro l =>
    rcases hb with rfl | ⟨⟨c, t, fz, hh, _⟩, _⟩
    · have := hf.2; simp at this; omega
    · rw [hf.1]; exact ⟨c, t, fz, hh⟩
  | box l => obtain ⟨⟨c, t, fz, hh, _⟩, _⟩ := hb; rw [hf.1]; exact ⟨c, t, fz, hh⟩
  | row t l =>
    rcases hb with ⟨hv, _⟩ | ⟨_, c, fz, hh, _⟩
    · rw [hf.1] at hv; cases hv
    · rw [hf.2.1]; exact ⟨c, _, fz, hh⟩

/-- Registers, some of them set. -/
def zipR : List Nat → List SV → RL → RL
  | p :: ps, x :: xs, R => zipR ps xs ((p, x) :: R)
  | _, _, R => R

theorem relR_set {ρ : Ren} {R : RL} {tmps : Array Value} {p : Nat} {x : SV} {v : Value} (h : RelR ρ R tmps) (hx : Rel ρ x v) (hp : p < tmps.size) : RelR ρ ((p, x) :: R) (tmps.setIfInBounds p v) := by
  intro t u hu
  simp only [List.lookup_cons] at hu
  cases htp : (t == p) with
  | true =>
    rw [htp] at hu
    have : t = p := by simpa using htp
    subst this
    cases hu
    rw [Array.getD_eq_getD_getElem?, Array.getElem?_setIfInBounds_self_of_lt hp]
    exact hx
  | false =>
    rw [htp] at hu
    have hne : p ≠ t := fun e => by subst e; simp at htp
    have := h t u hu
    rw [Array.getD_eq_getD_getElem?] at this ⊢
    rw [Array.getElem?_setIfInBounds_ne hne]; exact this

theorem relR_zip {ρ : Ren} : ∀ {ps : List Nat} {xs : List SV} {vs : List Value} {R : RL} {tmps : Array Value}, RelR ρ R tmps → Rels ρ xs vs → (∀ p ∈ ps, p < tmps.size) → ps.length = xs.length →
    RelR ρ (zipR ps xs R) ((ps.zip vs).foldl (fun t (q : Nat × Value) => t.setIfInBounds q.1 q.2) tmps) ∧ ((ps.zip vs).foldl (fun t (q : Nat × Value) => t.setIfInBounds q.1 q.2) tmps).size = tmps.size
  | [], xs, vs, R, tmps, h, _, _, hl => by
    have : xs = [] := List.eq_nil_of_length_eq_zero (by simpa using hl.symm)
    subst this
    exact ⟨h, rfl⟩
  | p :: ps, [], vs, R, tmps, h, _, _, hl => by simp at hl
  | p :: ps, x :: xs, vs, R, tmps, h, hv, hp, hl => by
    simp only [Rels] at hv
    obtain ⟨v, vs', rfl, h1, h2⟩ := hv
    have := relR_zip (ps := ps) (relR_set h h1 (hp p (List.mem_cons_self ..))) h2 (fun q hq => by simpa using hp q (List.mem_cons_of_mem _ hq)) (by simpa using hl)
    exact ⟨this.1, by rw [show ((p :: ps).zip (v :: vs')).foldl (fun t (q : Nat × Value) => t.setIfInBounds q.1 q.2) tmps = (ps.zip vs').foldl (fun t (q : Nat × Value) => t.setIfInBounds q.1 q.2) (tmps.setIfInBounds p v) from rfl, this.2]; simp⟩

/-- What a call of a round's yield promises: block 0 is the loop's. -/
structure SYield (P : Program) (args0 : List SV) (H0 : HL) (ret : SV) (H1 : HL) : Prop where
  call : ∀ (r : Option Nat) n ρ w vs rb, Rels ρ args0 vs → HRel ρ (hg H0) w → Sep ρ (hg H0) → (∀ id, H0.length ≤ id → ρ id = none) → ρ 0 = some rb →
    ∃ f tmps as_ bd, (Instr.yield rb.blk ⟨vs⟩).run P w = .ok (.round rb.blk f tmps as_ bd) w ∧ RoundIn (Fw r) n P rb.blk f tmps as_ bd w (CallR ρ H0 w ret H1)

theorem lt_yield {P : Program} {o : Oper} {R : Env} {H : HL} {L : Nat} {x : Operand} {args : Array Operand} {tys : Array TypeId} {id : Nat} {zs args0 : List SV} {ss : List Nat} {H0 H1 : HL} {ret z : SV} {W : Upd} (hl : H.length ≤ L)
    (ho : o.op = .call ⟨.value x, args, tys⟩) (hx : evO R x = some (.yld id)) (hargs : args.toList.map (evO R) = zs.map some) (hc : SYield P args0 H0 ret H1) (hren : renL (id :: ss) args0 = some zs)
    (hlen : (id :: ss).length = H0.length) (hok : okH (id :: ss) H (id :: ss) H0) (hd : dupOk (id :: ss) 0 (id :: ss) H0 = true) (hW : cW (id :: ss ++ newSel L (H1.length - H0.length)) (id :: ss ++ newSel L (H1.length - H0.length)) H0 H1 = some W)
    (hz : renV (id :: ss ++ newSel L (H1.length - H0.length)) ret = some z) : LT P o R (hg H) (id :: ss) W (some z) := by
  refine lt_of_callR hl hlen hok hd hW hz ?_
  intro r n a w ρ next Q hR hH0 hsep0 hfr0 hk
  have hv := eval_callee ho hx hR
  simp only [Rel] at hv
  obtain ⟨rb, hrb, he⟩ := hv
  have hzs := eval_args ho hargs hR
  have hrels : Rels (pullR (id :: ss) ρ) args0 (args.toList.map a.eval) := (rels_ren args0 hren).2 hzs
  obtain ⟨f, tmps, as_, bd, hy, hround⟩ := hc.call r (n - 1) (pullR (id :: ss) ρ) w _ rb hrels hH0 hsep0 hfr0 (by simpa [pullR] using hrb)
  have hrun : (execOp a.eval o).run P w = .ok (.round rb.blk f tmps as_ bd) w := by
    unfold execOp
    simp only [ho, resolve, he, Deferred.ofValue, Sem.run_bind, Sem.run_pure, Result.andThen, invoke]
    rw [show (#[] ++ args.map a.eval) = (⟨args.toList.map a.eval⟩ : Array Value) from Array.toList_inj.1 (by simp)]
    exact hy
  refine ⟨fun _ _ => trivial, ?_⟩
  rw [Oper.semAt_eq _ _ _ (by intro c; rw [ho]; simp), hrun]
  refine ⟨fun h => (by cases h), ?_⟩
  refine hround.mono ?_
  intro e w' hr'
  cases e with
  | panicked c => exact hr'.elim
  | outgrown => exact hr'.elim
  | returned v => exact hk v w' hr'

/-! ### A round, out of its code's walk -/

/-- What lies there at a round's end, told smaller. -/
structure finH (A : Nat) (H : HL) (H1 : HL) : Prop where
  ex : ∃ sel, Nat.beq sel.length H1.length = true ∧ idOk sel A = true ∧ okH sel H sel H1 ∧ dupOk sel 0 sel H1 = true

def jumpOf : Exit → Option Code
  | .ret => some .ret
  | .exit i => some (.exit i)
  | _ => none

/-- What is there behind a round: the loop as it was, or left by a jump. -/
def obEnd (R : RL) (N : Nat) (ps : List Nat) (as_ bd : Code) (ex : Exit) : OB := match jumpOf ex with | some c => .pend c | none => .loop R N ps as_ bd

def retEnd (ex : Exit) : SV := .b (jumpOf ex).isNone

/-- A loop's record is put anew. -/
theorem Fr.putLoop {S : Nat → Nat → Prop} {w : World} {l : Nat} {r r' : Loop} (h : w.heap[l]? = some (.loop r)) (hS : ∃ o, S l o) : Fr S w (w.putObj l (.loop r')) := by
  refine ⟨rfl, rfl, rfl, by simp [World.putObj], fun k o ho => ?_⟩
  by_cases hk : l = k
  · subst hk
    rw [h] at ho; cases ho
    have hlt := (Array.getElem?_eq_some_iff.1 h).1
    simp only [World.putObj]
    rw [Array.getElem?_setIfInBounds_self_of_lt hlt]
    exact .inr ⟨hS, by simp [mutK], _, rfl, rfl⟩
  · simp only [World.putObj]
    rw [Array.getElem?_setIfInBounds_ne hk, ho]
    exact FrO.refl _ _

theorem putLoop_cells {w : World} {l k : Nat} {r r' : Loop} (h : w.heap[l]? = some (.loop r)) {c : Array Value} {t : TypeId} {fz : Nat × Nat} (hc : w.heap[k]? = some (.cells c t fz)) : (w.putObj l (.loop r')).heap[k]? = some (.cells c t fz) := by
  have hne : l ≠ k := fun e => by subst e; rw [h] at hc; cases hc
  simp only [World.putObj]; rw [Array.getElem?_setIfInBounds_ne hne]; exact hc
theorem putLoop_dfr {w : World} {l k : Nat} {r r' : Loop} (h : w.heap[l]? = some (.loop r)) {x : Option (List Deferred)} (hc : w.heap[k]? = some (.deferred x)) : (w.putObj l (.loop r')).heap[k]? = some (.deferred x) := by
  have hne : l ≠ k := fun e => by subst e; rw [h] at hc; cases hc
  simp only [World.putObj]; rw [Array.getElem?_setIfInBounds_ne hne]; exact hc
theorem putLoop_self {w : World} {l : Nat} {r r' : Loop} (h : w.heap[l]? = some (.loop r)) : (w.putObj l (.loop r')).heap[l]? = some (.loop r') := by
  simp only [World.putObj]; rw [Array.getElem?_setIfInBounds_self_of_lt (Array.getElem?_eq_some_iff.1 h).1]

theorem BRel.putLoop {ρ : Ren} {w : World} {l : Nat} {r r' : Loop} {rb : RB} {b : SB} (h : w.heap[l]? = some (.loop r)) (hn : ∀ y, b ≠ .obj y) (hb : BRel ρ w rb b) : BRel ρ (w.putObj l (.loop r')) rb b := by
  cases b with
  | obj y => exact absurd rfl (hn y)
  | ro l => exact hb.imp id fun ⟨⟨c, t, fz, hh, q⟩, h2⟩ => ⟨⟨c, t, fz, putLoop_cells h hh, q⟩, h2⟩
  | box l => obtain ⟨⟨c, t, fz, hh, q⟩, h2⟩ := hb; exact ⟨⟨c, t, fz, putLoop_cells h hh, q⟩, h2⟩
  | row t l => exact hb.imp id fun ⟨hv, c, fz, hh, q⟩ => ⟨hv, c, fz, putLoop_cells h hh, q⟩

theorem Sim.putLoop {N B L : Nat} {ρ : Ren} {R : Env} {H : HL} {a : Act} {w : World} {l : Nat} {r r' : Loop} (h : w.heap[l]? = some (.loop r)) (hn : noObj H = true) (hs : Sim N B L ρ R (hg H) a w) : Sim N B L ρ R (hg H) a (w.putObj l (.loop r')) :=
  ⟨hs.size, hs.regs, fun id b hb => let ⟨rb, h1, h2⟩ := hs.heap id b hb; ⟨rb, h1, h2.putLoop h (fun y e => noObj_get hn (by rw [← e]; exact hb))⟩, hs.sep, hs.fresh,
    ⟨hs.dfr.1, fun d hd => let ⟨k, e, hB, hk⟩ := hs.dfr.2.1 d hd; ⟨k, e, hB, putLoop_dfr h hk⟩, by simpa [World.putObj] using hs.dfr.2.2⟩⟩

theorem hg_cons_succ (x : Option SB) (H : HL) (id : Nat) : hg (x :: H) (id + 1) = hg H id := by simp [hg]
theorem hg_cons_zero (x : Option SB) (H : HL) : hg (x :: H) 0 = x := by cases x <;> simp [hg]

theorem syield_of {P : Program} {R0 : RL} {N : Nat} {ps : List Nat} {as_ bd : Code} {args0 : List SV} {H0t H1t : HL} {ex : Exit} (hex : ex = .normal ∨ ex = .ret ∨ ∃ i, ex = .exit i)
    (hno1 : noObj H1t = true) (hps : ps.length = args0.length) (hpN : ps.all (fun p => Nat.blt p N) = true)
    (hwalk : SWp P (fun _ => True) N (H0t.length + 1) as_ (fun e R H L => e = .normal ∧ noObj H = true ∧ hg H 0 = none ∧ SWp P (fun _ => True) N (H0t.length + 1) bd (fun e _ H _ => e = ex ∧ hg H 0 = none ∧ noObj H = true ∧ finH (H0t.length + 1) H (none :: H1t)) R H L)
      (zipR ps args0 R0) (none :: H0t) (H0t.length + 1)) :
    SYield P args0 (some (.obj (.loop R0 N ps as_ bd)) :: H0t) (retEnd ex) (some (.obj (obEnd R0 N ps as_ bd ex)) :: H1t) := by
  refine ⟨fun rr n ρ w vs rb hvs hh hsep hfr hrb => ?_⟩
  obtain ⟨rb', hrb', hO⟩ := hh 0 _ (hg_cons_zero _ _)
  rw [hrb] at hrb'; cases hrb'
  obtain ⟨r, hl, hst, hpd, hrp, hra, hrbd, hsz, hrel⟩ := hO
  obtain ⟨l, hlb⟩ : ∃ l, l = rb.blk := ⟨_, rfl⟩
  rw [← hlb] at hl ⊢
  have hvl := hvs.length
  have hargsz : (⟨vs⟩ : Array Value).size = r.params.size := by rw [hrp]; simp; omega
  have hy := run_yield (P := P) hl hargsz
  refine ⟨_, _, _, _, hy, ?_⟩
  rw [hra, hrbd]
  -- the heap without the loop
  have hh1 : HRel ρ (hg (none :: H0t)) w := fun id b hb => by
    cases id with
    | zero => rw [hg_cons_zero] at hb; cases hb
    | succ id => rw [hg_cons_succ] at hb; exact hh (id + 1) b (by rw [hg_cons_succ]; exact hb)
  have sub : ∀ id b, hg (none :: H0t) id = some b → hg (some (.obj (.loop R0 N ps as_ bd)) :: H0t) id = some b ∧ id ≠ 0 := fun id b hb => by
    cases id with
    | zero => rw [hg_cons_zero] at hb; cases hb
    | succ id => rw [hg_cons_succ] at hb; exact ⟨by rw [hg_cons_succ]; exact hb, by omega⟩
  have hsep1 : Sep ρ (hg (none :: H0t)) := fun i j bi bj ri rj hne hi hj hri hrj hown => hsep i j bi bj ri rj hne (sub i bi hi).1 (sub j bj hj).1 hri hrj hown
  have hl0 : ∀ o, ¬ Owned ρ (hg (none :: H0t)) l o := by
    rintro o ⟨id, b, rb2, h1, h2, h3, h4⟩
    obtain ⟨g1, g2⟩ := sub id b h1
    exact hsep 0 id _ b rb rb2 (by omega) (hg_cons_zero _ _) g1 hrb h2 rfl l o ⟨hlb, h4⟩
  have hown0 : ∀ k o, Owned ρ (hg (none :: H0t)) k o → Owned ρ (hg (some (.obj (.loop R0 N ps as_ bd)) :: H0t)) k o := by
    rintro k o ⟨id, b, rb2, h1, h2, h3, h4⟩
    exact ⟨id, b, rb2, (sub id b h1).1, h2, h3, h4⟩
  have hownl : Owned ρ (hg (some (.obj (.loop R0 N ps as_ bd)) :: H0t)) l 0 := ⟨0, _, rb, hg_cons_zero _ _, hrb, rfl, hlb⟩
  have hlt : l < w.heap.size := (Array.getElem?_eq_some_iff.1 hl).1
  obtain ⟨hz1, hz2⟩ := relR_zip (ps := ps) (vs := vs) hrel hvs (fun p hp => by
    have := List.all_eq_true.1 hpN p hp
    rw [hsz]; simpa [Nat.blt_eq] using this) hps
  have htm : (r.params.zip ⟨vs⟩).foldl (fun tmps (q : Nat × Value) => tmps.setIfInBounds q.1 q.2) r.tmps = ((ps.zip vs).foldl (fun t (q : Nat × Value) => t.setIfInBounds q.1 q.2) r.tmps) := by
    rw [hrp, ← Array.foldl_toList]; simp
  have hsim : Sim N w.heap.size (H0t.length + 1) ρ (rg (zipR ps args0 R0)) (hg (none :: H0t)) { tmps := ((ps.zip vs).foldl (fun t (q : Nat × Value) => t.setIfInBounds q.1 q.2) r.tmps), defers := [] } w :=
    ⟨by rw [hz2, hsz], fun t v hv => hz1 t v hv, hh1, hsep1, fun id hid => hfr id (by simpa using hid), ⟨List.Pairwise.nil, fun d hd => by simp at hd, Nat.le_refl _⟩⟩
  refine roundIn_of_wpIn trivial ?_
  have e0 : (r.params.zip ⟨vs⟩).foldl (fun tmps x => match x with | (t, a) => tmps.setIfInBounds t a) r.tmps = ((ps.zip vs).foldl (fun t (q : Nat × Value) => t.setIfInBounds q.1 q.2) r.tmps) := htm
  rw [e0]
  refine wpIn_mono (hwalk.run (some l) n w.heap.size ρ _ w trivial hsim (by simp)) ?_
  rintro e a1 w1 ⟨R1, H1, L1, ρ1, ⟨rfl, hno2, hz0, hbody⟩, hl1, hs1, he1⟩
  have hl1' : w1.heap[l]? = some (.loop r) := (he1.fr.blk l _ hl).same (fun o => hl0 o)
  refine ⟨_, run_beginRound hl1' hst, ?_⟩
  obtain ⟨w2, hw2⟩ : ∃ w2, w2 = w1.putObj l (.loop { r with state := .busy }) := ⟨_, rfl⟩
  rw [← hw2]
  have hs2 : Sim N w.heap.size L1 ρ1 (rg R1) (hg H1) a1 w2 := by rw [hw2]; exact hs1.putLoop hl1' hno2
  have hl2 : w2.heap[l]? = some (.loop { r with state := .busy }) := by rw [hw2]; exact putLoop_self hl1'
  refine wpIn_mono (hbody.run (some l) n w.heap.size ρ1 a1 w2 trivial hs2 hl1) ?_
  rintro e a3 w3 ⟨R3, H3, L3, ρ3, ⟨rfl, hz3, hno3, hfin⟩, hl3, hs3, he3⟩
  have hl1n : ∀ o, ¬ Owned ρ1 (hg H1) l o := fun o ho => by
    rcases he1.own l o ho with h | h
    · exact hl0 o h
    · omega
  have hl3' : w3.heap[l]? = some (.loop { r with state := .busy }) := (he3.fr.blk l _ hl2).same hl1n
  obtain ⟨sel, f1, f2, f3, f4⟩ := hfin.ex
  have f1' : sel.length = H1t.length + 1 := by simpa using beqE f1
  have hsel := sel_sim (R0 := []) (L0 := H1t.length + 1) sel f1' f2 trivial f3 f4 hs3
  obtain ⟨k1, k2⟩ := hsel
  -- what the end of the round hands back
  have fin : ∀ jump : Option Code, jump = jumpOf e → ∃ w4, (Instr.endRound l jump).run P w3 = .ok (.bool jump.isNone) w4 ∧ CallR ρ (some (.obj (.loop R0 N ps as_ bd)) :: H0t) w (retEnd e) (some (.obj (obEnd R0 N ps as_ bd e)) :: H1t) (.returned (.bool jump.isNone)) w4 := by
    intro jump hj
    refine ⟨_, run_endRound jump hl3', ?_⟩
    obtain ⟨r4, hr4⟩ : ∃ r4 : Loop, r4 = { r with state := if jump.isNone then .ready else .done, pending := jump } := ⟨_, rfl⟩
    have er4 : ({ ({ r with state := .busy } : Loop) with state := if jump.isNone then .ready else .done, pending := jump } : Loop) = r4 := by rw [hr4]
    rw [er4]
    obtain ⟨w4, hw4⟩ : ∃ w4, w4 = w3.putObj l (.loop r4) := ⟨_, rfl⟩
    rw [← hw4]
    have hl4 : w4.heap[l]? = some (.loop r4) := by rw [hw4]; exact putLoop_self hl3'
    have hext : ∀ id rb2, ρ id = some rb2 → pullR sel ρ3 id = some rb2 := fun id rb2 hid => by
      have hlt2 : id < H0t.length + 1 := by
        by_cases h : id < H0t.length + 1
        · exact h
        · rw [hfr id (by simp; omega)] at hid; cases hid
      exact k2.ext id hlt2 rb2 (he3.ext id hlt2 rb2 (he1.ext id hlt2 rb2 hid))
    have hk0 : noObj (none :: H1t) = true := hno1
    have hheap4 : HRel (pullR sel ρ3) (hg (none :: H1t)) w4 := by
      rw [hw4]
      intro id b hb
      obtain ⟨rb2, g1, g2⟩ := k1.heap id b hb
      exact ⟨rb2, g1, g2.putLoop hl3' (fun y ey => noObj_get hk0 (by rw [← ey]; exact hb))⟩
    have sub1 : ∀ id b, id ≠ 0 → hg (some (.obj (obEnd R0 N ps as_ bd e)) :: H1t) id = some b → hg (none :: H1t) id = some b := fun id b hne hb => by
      cases id with
      | zero => exact absurd rfl hne
      | succ id => rw [hg_cons_succ] at hb ⊢; exact hb
    have hfoot : ∀ id b rb2 o, id ≠ 0 → hg (some (.obj (obEnd R0 N ps as_ bd e)) :: H1t) id = some b → pullR sel ρ3 id = some rb2 → ¬ foot rb2 b l o := by
      intro id b rb2 o hne hb hr hf
      have hb2 := sub1 id b hne hb
      obtain ⟨rb3, g1, g2⟩ := hheap4 id b hb2
      rw [hr] at g1; cases g1
      obtain ⟨c, t, fz, hc⟩ := foot_cells g2 (fun y ey => noObj_get hk0 (by rw [← ey]; exact hb2)) hf
      rw [hl4] at hc; cases hc
    have hfr : Fr (Owned ρ (hg (some (.obj (.loop R0 N ps as_ bd)) :: H0t))) w w4 := by
      have a1 : Fr (Owned ρ (hg (some (.obj (.loop R0 N ps as_ bd)) :: H0t))) w w1 := he1.fr.mono (fun k o _ h => hown0 k o h)
      have a2 : Fr (Owned ρ (hg (some (.obj (.loop R0 N ps as_ bd)) :: H0t))) w w2 := by
        rw [hw2]; exact a1.trans (Fr.putLoop hl1' ⟨0, hownl⟩) (fun _ _ _ h => h)
      have a3 : Fr (Owned ρ (hg (some (.obj (.loop R0 N ps as_ bd)) :: H0t))) w w3 := a2.trans he3.fr (fun k o hk h => by
        rcases he1.own k o h with h | h
        · exact hown0 k o h
        · omega)
      rw [hw4]; exact a3.trans (Fr.putLoop hl3' ⟨0, hownl⟩) (fun _ _ _ h => h)
    have hb0 : ORel (pullR sel ρ3) w4 l (obEnd R0 N ps as_ bd e) := by
      unfold obEnd
      rw [← hj]
      cases jump with
      | none =>
        have : r4 = r := by rw [hr4]; cases r; simp only at hst hpd; subst hst; subst hpd; rfl
        rw [this] at hl4
        exact ⟨r, hl4, hst, hpd, hrp, hra, hrbd, hsz, fun t v hv => (hrel t v hv).ext (fun id rb2 h => hext id rb2 h)⟩
      | some c => exact ⟨r4, hl4, by rw [hr4]; rfl, by rw [hr4]⟩
    refine ⟨pullR sel ρ3, ?_, ?_, ?_, ?_, ?_⟩
    · simp only [retEnd, Rel, hj]
    · intro id b hb
      by_cases h0 : id = 0
      · subst h0
        rw [hg_cons_zero] at hb; cases hb
        exact ⟨rb, hext 0 rb hrb, by rw [hlb] at hb0; exact hb0⟩
      · exact hheap4 id b (sub1 id b h0 hb)
    · intro i j bi bj ri rj hne hi hj' hri hrj hown k o ⟨hfi, hfj⟩
      by_cases h0 : i = 0
      · subst h0
        rw [hg_cons_zero] at hi; cases hi
        rw [hext 0 rb hrb] at hri; cases hri
        have hkl : k = l := by rw [hlb]; exact hfi
        subst hkl
        exact hfoot j bj rj o (fun e => hne e.symm) hj' hrj hfj
      · by_cases h1 : j = 0
        · subst h1
          rw [hg_cons_zero] at hj'; cases hj'
          rw [hext 0 rb hrb] at hrj; cases hrj
          have hkl : k = l := by rw [hlb]; exact hfj
          subst hkl
          exact hfoot i bi ri o h0 hi hri hfi
        · exact k1.sep i j bi bj ri rj hne (sub1 i bi h0 hi) (sub1 j bj h1 hj') hri hrj hown k o ⟨hfi, hfj⟩
    · intro id hid; exact k1.fresh id (by simpa using hid)
    · refine ⟨fun id _ rb2 h => hext id rb2 h, hfr, ?_⟩
      rintro k o ⟨id, b, rb2, h1, h2, h3, h4⟩
      by_cases h0 : id = 0
      · subst h0
        rw [hg_cons_zero] at h1; cases h1
        rw [hext 0 rb hrb] at h2; cases h2
        have hkl : k = l := by rw [hlb]; exact h4
        subst hkl
        exact .inl ⟨0, _, rb, hg_cons_zero _ _, hrb, rfl, hlb⟩
      · rcases k2.own k o ⟨id, b, rb2, sub1 id b h0 h1, h2, h3, h4⟩ with h | h
        · rcases he3.own k o h with h | h
          · rcases he1.own k o h with h | h
            · exact .inl (hown0 k o h)
            · exact .inr h
          · right
            have : w2.heap.size = w1.heap.size := by rw [hw2]; simp [World.putObj]
            have := he1.fr.size
            omega
        · right
          have h1 := he1.fr.size
          have h2 : w2.heap.size = w1.heap.size := by rw [hw2]; simp [World.putObj]
          have h3 := he3.fr.size
          omega
  rcases hex with rfl | rfl | ⟨i, rfl⟩
  · obtain ⟨w4, g1, g2⟩ := fin none rfl
    exact ⟨_, w4, g1, g2⟩
  · obtain ⟨w4, g1, g2⟩ := fin (some .ret) rfl
    exact ⟨_, w4, g1, g2⟩
  · obtain ⟨w4, g1, g2⟩ := fin (some (.exit i)) rfl
    exact ⟨_, w4, g1, g2⟩

/-! ### The statement -/

theorem hg_hput (H : HL) (id : Nat) (ob : Option SB) (i : Nat) : hg (hput H id ob) i = if i = id then ob else hg H i := by
  have h := congrFun (hg_hupd H [(id, ob)]) i
  have e : hput H id ob = hupd H [(id, ob)] := by rw [hput_eq]; rfl
  rw [e, h]
  by_cases hi : i = id
  · subst hi; simp [updW]
  · have : (i == id) = false := by simpa using hi
    simp [updW, List.lookup_cons, this, hi]

theorem hput_le {H : HL} {id L : Nat} {ob : Option SB} (h : H.length ≤ L) (hi : id < L) : (hput H id ob).length ≤ L := by
  have e : hput H id ob = hupd H [(id, ob)] := by rw [hput_eq]; rfl
  rw [e]
  exact hupd_le h (fun i o hm => by simp only [List.mem_singleton, Prod.mk.injEq] at hm; rw [hm.1]; exact hi)

/-- What becomes of the statement, by how the iterator was left. -/
def rangeK (L0 : Nat) (R : RL) (Q : Exit → RL → HL → Nat → Prop) (H : HL) (L : Nat) : Prop :=
  match hk H L0 with
  | some (.obj (.loop _ _ _ _ _)) => Q .normal R (hput H L0 none) L
  | some (.obj (.pend .ret)) => Q .ret R (hput H L0 none) L
  | some (.obj (.pend (.exit i))) => Q (.exit i) R (hput H L0 none) L
  | _ => False

def rangeQ (L0 : Nat) (R : RL) (Q : Exit → RL → HL → Nat → Prop) : Exit → RL → HL → Nat → Prop
  | .normal, _, H, L => rangeK L0 R Q H L
  | .ret, _, H, L => rangeK L0 R Q H L
  | _, _, _, _ => False

theorem leaves_void {P : Program} {fn : Func} (hr : fn.results = #[]) (tmps : Array Value) (w : World) : ∃ v, (results fn tmps).run P w = .ok v w := by
  refine ⟨.tuple #[], ?_⟩
  unfold results
  rw [hr]
  simp

theorem range_rule {P : Program} {N A : Nat} {g : Operand} {ps : List Nat} {as_ bd : Code} {Q : Exit → RL → HL → Nat → Prop} {R : RL} {H : HL} {L : Nat} {gf : Nat} {caps : List SV} {fn : Func} {c : Code}
    (hg0 : ev R g = some (.fn gf caps)) (hle : Nat.ble H.length L = true) (hA : Nat.ble A L = true) (hf : P.funcs[gf]? = some fn) (hb : fn.body = some c) (hnm : (fn.name == "runtime.NumGoroutine") = false) (hres : fn.results = #[]) (hnt : Nat.ble (caps.length + 1) fn.ntmps = true)
    (hwalk : SWp P (· = none) fn.ntmps (L + 1) c (rangeQ L R Q) (regs 0 (.yld L :: caps)) (hput H L (some (.obj (.loop R N ps as_ bd)))) (L + 1)) :
    SWp P (· = none) N A (.rangeFunc g ⟨ps⟩ as_ bd) Q R H L := by
  refine ⟨fun r n B ρ a w hM hs hl => ?_⟩
  subst hM
  have hHL := Nat.le_of_ble_eq_true hle
  have hgv : Rel ρ (.fn gf caps) (a.eval g) := by
    cases g with
    | tmp t => exact hs.regs t _ (by rw [rg, ← lk_eq]; exact hg0)
    | const u => exact (ofVal_rel hg0).1
    | func f => simp only [ev, Option.some.injEq] at hg0; cases hg0; simp only [Rel]; exact ⟨[], rfl, Rels.nil_iff.2 rfl⟩
    | global g => cases hg0
  simp only [Rel] at hgv
  obtain ⟨cs, hge, hcaps⟩ := hgv
  refine wpIn_rangeFunc ?_
  intro fid _
  obtain ⟨r0, hr0⟩ : ∃ r0 : Loop, r0 = { state := .ready, pending := none, fn := fid, tmps := a.tmps, params := ⟨ps⟩, assign := as_, body := bd, defers := w.heap.size } := ⟨_, rfl⟩
  obtain ⟨w1, hw1⟩ : ∃ w1, w1 = (w.alloc (.deferred (some []))).alloc (.loop r0) := ⟨_, rfl⟩
  have hL1 : w1.heap[w.heap.size + 1]? = some (.loop r0) := by
    rw [hw1]; have := World.alloc_heap_new (w.alloc (.deferred (some []))) (.loop r0); rwa [World.size_alloc] at this
  have hD1 : w1.heap[w.heap.size]? = some (.deferred (some [])) := by
    rw [hw1]; exact (RowKit.Below.heap_alloc _ _ _ (by simp)).trans (World.alloc_heap_new w _)
  have hfr1 : ∀ S, Fr S w w1 := fun S => by
    rw [hw1]; exact (Fr.alloc S w _).trans (Fr.alloc S _ _) (fun _ _ _ h => h)
  have hsz1 : w1.heap.size = w.heap.size + 2 := by rw [hw1]; simp
  have hfok : FnOk P gf := ⟨fn, hf, by rw [hb]; rfl, hnm⟩
  refine ⟨w.heap.size + 1, [{ target := .collected w.heap.size, args := #[] }], w1, { target := .fn (.func gf) ⟨cs⟩, args := #[.func (.yield (w.heap.size + 1)) #[] #[]] }, w1, gf,
    #[.func (.yield (w.heap.size + 1)) #[] #[]] ++ ⟨cs⟩, w1, ?_, ?_, fun _ _ => trivial, ?_, fun h => (by cases h), ?_⟩
  · rw [hw1, hr0]; exact run_enterLoop_outer _ _ _ _ _
  · simp only [resolve, hge]
    simp [go_sem]
  · simp only [invoke, run_callFunc hfok]
  · -- the iterator
    obtain ⟨ρ1, hρ1⟩ : ∃ ρ1 : Ren, ρ1 = setR ρ L ⟨w.heap.size + 1, 0, 0, false⟩ := ⟨_, rfl⟩
    have hρL : ρ1 L = some ⟨w.heap.size + 1, 0, 0, false⟩ := by rw [hρ1]; simp [setR]
    have hρne : ∀ id, id ≠ L → ρ1 id = ρ id := fun id h => by rw [hρ1]; simp [setR, h]
    have hfresh := hs.fresh
    have hext : Ext ρ ρ1 := fun id rb h => by
      have : id ≠ L := fun e => by subst e; rw [hfresh id (Nat.le_refl _)] at h; cases h
      rw [hρne id this]; exact h
    have hgp : ∀ id, hg (hput H L (some (.obj (.loop R N ps as_ bd)))) id = if id = L then some (.obj (.loop R N ps as_ bd)) else hg H id := fun id => by
      rw [hg_hput]
    have hlowH : ∀ id b, hg H id = some b → id ≠ L := fun id b h e => by
      subst e
      have := hk_lt hHL (by rw [hk_eq]; exact h)
      omega
    have hheap1 : HRel ρ1 (hg (hput H L (some (.obj (.loop R N ps as_ bd))))) w1 := by
      intro id b hb2
      rw [hgp] at hb2
      by_cases h : id = L
      · rw [if_pos h] at hb2; cases hb2; subst h
        exact ⟨_, hρL, r0, hL1, by rw [hr0], by rw [hr0], by rw [hr0], by rw [hr0], by rw [hr0], by rw [hr0]; exact hs.size, fun t v hv => by
          have := hs.regs t v hv
          rw [hr0]; exact this.ext hext⟩
      · rw [if_neg h] at hb2
        obtain ⟨rb, g1, g2⟩ := hs.heap id b hb2
        exact ⟨rb, hext _ _ g1, (g2.frame (hfr1 (fun _ _ => False)) (fun _ _ _ h => h)).ext hext⟩
    have hsep1 : Sep ρ1 (hg (hput H L (some (.obj (.loop R N ps as_ bd))))) := by
      intro i j bi bj ri rj hne hi hj hri hrj hown k o ⟨hfi, hfj⟩
      rw [hgp] at hi hj
      have low : ∀ id b rb, id ≠ L → hg H id = some b → ρ1 id = some rb → foot rb b k o → k < w.heap.size := fun id b rb hid hb2 hr hf => by
        rw [hρne id hid] at hr
        obtain ⟨rb2, g1, g2⟩ := hs.heap id b hb2
        rw [hr] at g1; cases g1
        exact g2.foot_lt hf
      by_cases h1 : i = L
      · rw [if_pos h1] at hi; cases hi
        by_cases h2 : j = L
        · exact hne (h1.trans h2.symm)
        · rw [if_neg h2] at hj
          have := low j bj rj h2 hj hrj hfj
          subst h1; rw [hρL] at hri; cases hri
          have : k = w.heap.size + 1 := hfi
          omega
      · rw [if_neg h1] at hi
        by_cases h2 : j = L
        · rw [if_pos h2] at hj; cases hj
          have := low i bi ri h1 hi hri hfi
          subst h2; rw [hρL] at hrj; cases hrj
          have : k = w.heap.size + 1 := hfj
          omega
        · rw [if_neg h2] at hj
          rw [hρne i h1] at hri
          rw [hρne j h2] at hrj
          exact hs.sep i j bi bj ri rj hne hi hj hri hrj hown k o ⟨hfi, hfj⟩
    have hvs : Rels ρ1 (.yld L :: caps) (.func (.yield (w.heap.size + 1)) #[] #[] :: cs) :=
      Rels.cons (by simp only [Rel]; exact ⟨_, hρL, rfl⟩) (Rels.ext hext caps hcaps)
    have hargsz : (#[.func (.yield (w.heap.size + 1)) #[] #[]] ++ ⟨cs⟩ : Array Value) = ⟨.func (.yield (w.heap.size + 1)) #[] #[] :: cs⟩ := by simp
    rw [hargsz]
    have hcl := hcaps.length
    have hnt' := Nat.le_of_ble_eq_true hnt
    have hsim : Sim fn.ntmps w1.heap.size (L + 1) ρ1 (rg (regs 0 (.yld L :: caps))) (hg (hput H L (some (.obj (.loop R N ps as_ bd)))))
        { tmps := (⟨.func (.yield (w.heap.size + 1)) #[] #[] :: cs⟩ : Array Value) ++ Array.replicate (fn.ntmps - (⟨.func (.yield (w.heap.size + 1)) #[] #[] :: cs⟩ : Array Value).size) undef, defers := [] } w1 := by
      refine ⟨by simp; omega, ?_, hheap1, hsep1, fun id hid => ?_, ⟨List.Pairwise.nil, fun d hd => by simp at hd, Nat.le_refl _⟩⟩
      · intro t v hv
        obtain ⟨_, h2⟩ := regs_get hv
        obtain ⟨u, hu, hr⟩ := hvs.get h2
        simp only [Nat.sub_zero] at hu
        have htl : t < (Value.func (Fn.yield (w.heap.size + 1)) #[] #[] :: cs).length := (List.getElem?_eq_some_iff.1 hu).1
        rw [Array.getD_eq_getD_getElem?, Array.getElem?_append_left (by simpa using htl)]
        simp only [List.getElem?_toArray, hu]
        exact hr
      · rw [hρne id (by omega)]; exact hfresh id (by omega)
    refine callsIn_of_wp_marks hf hb trivial ?_ rfl
    have hlen1 : (hput H L (some (.obj (.loop R N ps as_ bd)))).length ≤ L + 1 := hput_le (by omega) (by omega)
    refine wpIn_mono (hwalk.run none (n - 1) w1.heap.size ρ1 _ w1 rfl hsim hlen1) ?_
    rintro e a' w2 ⟨R2, H2, L2, ρ2, hq, hl2, hs2, he2⟩
    have main : rangeK L R Q H2 L2 → LeavesInM (Fw none) (n - 1) P fn a'.tmps (rangePost (Fw none) n P (w.heap.size + 1) (fun e a' w' => ∃ R' H' L' ρ', Q e R' H' L' ∧ H'.length ≤ L' ∧ Sim N B L' ρ' (rg R') (hg H') a' w' ∧ EvA A ρ (hg H) w ρ' (hg H') w')
        { a with defers := [{ target := .collected w.heap.size, args := #[] }] ++ a.defers }) a'.defers .returning w2 := by
      intro hq
      refine leaves_marks a'.defers w2 hs2.dfr (fun w3 hm => ?_)
      obtain ⟨v, hv⟩ := leaves_void (P := P) hres a'.tmps w3
      refine ⟨v, hv, ?_⟩
      have hAL := Nat.le_of_ble_eq_true hA
      have hρ2L : ρ2 L = some ⟨w.heap.size + 1, 0, 0, false⟩ := he2.ext L (by omega) _ hρL
      -- the record, behind the iterator
      have hrec : ∃ y, hg H2 L = some (.obj y) := by
        unfold rangeK at hq
        rw [hk_eq] at hq
        cases hh : hg H2 L with
        | none => rw [hh] at hq; exact hq.elim
        | some b => cases b with
          | obj y => exact ⟨y, rfl⟩
          | _ => rw [hh] at hq; exact hq.elim
      obtain ⟨y, hy⟩ := hrec
      obtain ⟨rb, hrb, hO⟩ := hs2.heap L _ hy
      rw [hρ2L] at hrb; cases hrb
      have hloop : ∃ r3 : Loop, w3.heap[w.heap.size + 1]? = some (.loop r3) ∧ r3.state ≠ .busy ∧ r3.pending = (match y with | .loop _ _ _ _ _ => none | .pend c => some c) := by
        cases y with
        | loop R3 N3 ps3 a3 b3 => obtain ⟨r3, g1, g2, g3, _⟩ := hO; exact ⟨r3, hm.loops _ _ g1, by rw [g2]; simp, g3⟩
        | pend c3 => obtain ⟨r3, g1, g2, g3⟩ := hO; exact ⟨r3, hm.loops _ _ g1, by rw [g2]; simp, g3⟩
      obtain ⟨r3, hr3, hnb, hpd⟩ := hloop
      obtain ⟨w4, hw4⟩ : ∃ w4, w4 = w3.putObj (w.heap.size + 1) (.loop { r3 with state := .exhausted }) := ⟨_, rfl⟩
      have hend := run_endLoop (P := P) hr3 hnb
      rw [← hw4] at hend
      -- the heap without the record
      have hgp2 : ∀ id, hg (hput H2 L none) id = if id = L then none else hg H2 id := fun id => by rw [hg_hput]
      have sub : ∀ id b, hg (hput H2 L none) id = some b → id ≠ L ∧ hg H2 id = some b := fun id b h => by
        rw [hgp2] at h
        by_cases e : id = L
        · rw [if_pos e] at h; cases h
        · rw [if_neg e] at h; exact ⟨e, h⟩
      have hobj : ∀ id y2, hg (hput H2 L none) id = some (.obj y2) → ∃ rb, ρ2 id = some rb ∧ rb.blk ≠ w.heap.size + 1 := fun id y2 h => by
        obtain ⟨hne, h2⟩ := sub id _ h
        obtain ⟨rb, g1, g2⟩ := hs2.heap id _ h2
        refine ⟨rb, g1, fun e => ?_⟩
        exact hs2.sep L id _ _ _ rb (fun e => hne e.symm) hy h2 hρ2L g1 rfl (w.heap.size + 1) 0 ⟨rfl, e.symm⟩
      have hheap4 : HRel ρ2 (hg (hput H2 L none)) w4 := by
        intro id b hb2
        obtain ⟨hne, h2⟩ := sub id b hb2
        obtain ⟨rb, g1, g2⟩ := hs2.heap id b h2
        refine ⟨rb, g1, ?_⟩
        rw [hw4]
        have g3 := g2.marks hm
        cases b with
        | obj y2 =>
          obtain ⟨rb3, q1, q2⟩ := hobj id y2 hb2
          rw [g1] at q1; cases q1
          have keep : (w3.putObj (w.heap.size + 1) (.loop { r3 with state := .exhausted })).heap[rb.blk]? = w3.heap[rb.blk]? := World.putObj_heap_other q2
          cases y2 with
          | loop R3 N3 ps3 a3 b3 => obtain ⟨r5, k1, k2⟩ := g3; exact ⟨r5, by rw [keep]; exact k1, k2⟩
          | pend c3 => obtain ⟨r5, k1, k2⟩ := g3; exact ⟨r5, by rw [keep]; exact k1, k2⟩
        | row t l => exact g3.putLoop hr3 (fun _ e => by cases e)
        | box l => exact g3.putLoop hr3 (fun _ e => by cases e)
        | ro l => exact g3.putLoop hr3 (fun _ e => by cases e)
      have hfr4 : Fr (Owned ρ (hg H)) w w4 := by
        have a2 : Fr (Owned ρ (hg H)) w w2 := (hfr1 _).trans he2.fr (fun k o hk h => by
          obtain ⟨id, b, rb, g1, g2, g3, g4⟩ := h
          rw [hgp] at g1
          by_cases e : id = L
          · rw [if_pos e] at g1; cases g1
            subst e; rw [hρL] at g2; cases g2
            have : k = w.heap.size + 1 := g4
            omega
          · rw [if_neg e] at g1
            rw [hρne id e] at g2
            exact ⟨id, b, rb, g1, g2, g3, g4⟩)
        have a3 : Fr (Owned ρ (hg H)) w w3 := by
          refine ⟨hm.os.trans a2.os, hm.tape.trans a2.tape, hm.output.trans a2.output, by rw [hm.size]; exact a2.size, fun k o ho => ?_⟩
          have hk : k < w.heap.size := (Array.getElem?_eq_some_iff.1 ho).1
          rw [hm.low k (by omega)]
          exact a2.blk k o ho
        refine ⟨by rw [hw4]; exact a3.os, by rw [hw4]; exact a3.tape, by rw [hw4]; exact a3.output, by rw [hw4]; simpa [World.putObj] using a3.size, fun k o ho => ?_⟩
        have hk : k < w.heap.size := (Array.getElem?_eq_some_iff.1 ho).1
        rw [hw4, World.putObj_heap_other (by omega)]
        exact a3.blk k o ho
      have hD4 : w4.heap[w.heap.size]? = some (.deferred (some [])) := by
        have d2 : w2.heap[w.heap.size]? = some (.deferred (some [])) := (he2.fr.blk _ _ hD1).fixed rfl (fun _ _ _ h => by cases h)
        have d3 : w3.heap[w.heap.size]? = some (.deferred (some [])) := by rw [hm.low _ (by omega)]; exact d2
        rw [hw4]; exact putLoop_dfr hr3 d3
      have hown4 : ∀ k o, Owned ρ2 (hg (hput H2 L none)) k o → Owned ρ (hg H) k o ∨ w.heap.size ≤ k := by
        rintro k o ⟨id, b, rb, g1, g2, g3, g4⟩
        obtain ⟨hne, h2⟩ := sub id b g1
        rcases he2.own k o ⟨id, b, rb, h2, g2, g3, g4⟩ with h | h
        · obtain ⟨id2, b2, rb2, q1, q2, q3, q4⟩ := h
          rw [hgp] at q1
          by_cases e : id2 = L
          · rw [if_pos e] at q1; cases q1
            subst e; rw [hρL] at q2; cases q2
            have : k = w.heap.size + 1 := q4
            exact .inr (by omega)
          · rw [if_neg e] at q1
            rw [hρne id2 e] at q2
            exact .inl ⟨id2, b2, rb2, q1, q2, q3, q4⟩
        · exact .inr (by omega)
      have hextA : ∀ id rb, ρ id = some rb → ρ2 id = some rb := fun id rb h => by
        have hid : id < L := by
          by_cases e : id < L
          · exact e
          · rw [hfresh id (by omega)] at h; cases h
        exact he2.ext id (by omega) rb (hext id rb h)
      have hsim4 : Sim N B L2 ρ2 (rg R) (hg (hput H2 L none)) { a with defers := [{ target := .collected w.heap.size, args := #[] }] ++ a.defers } w4 := by
        refine ⟨hs.size, fun t v hv => (hs.regs t v hv).ext (fun id rb h => hextA id rb h), hheap4, fun i j bi bj ri rj hne hi hj hri hrj hown => hs2.sep i j bi bj ri rj hne (sub i bi hi).2 (sub j bj hj).2 hri hrj hown, hs2.fresh, ?_⟩
        have hd0 : DfrOk B a.defers w4 := hs.dfr.fr hfr4
        refine ⟨?_, fun d hd => ?_, hd0.2.2⟩
        · simp only [List.singleton_append, List.map_cons, List.pairwise_cons]
          refine ⟨fun t ht k hk => ?_, hd0.1⟩
          cases hk
          intro e
          obtain ⟨d, hd, rfl⟩ := List.mem_map.1 ht
          obtain ⟨q, e2, _, hq2⟩ := hs.dfr.2.1 d hd
          rw [e2] at e
          simp only [Target.collected.injEq] at e
          subst e
          have := (Array.getElem?_eq_some_iff.1 hq2).1
          omega
        · rcases List.mem_append.1 hd with h | h
          · simp only [List.mem_singleton] at h
            subst h
            exact ⟨w.heap.size, rfl, hs.dfr.2.2, hD4⟩
          · exact hd0.2.1 d h
      have hev4 : EvA A ρ (hg H) w ρ2 (hg (hput H2 L none)) w4 := ⟨fun id _ rb h => hextA id rb h, hfr4, hown4⟩
      have hlen4 : (hput H2 L none).length ≤ L2 := hput_le hl2 (by have := hk_lt hl2 (by rw [hk_eq]; exact hy); omega)
      refine ⟨r3.pending, w4, hend, ?_⟩
      rw [hpd]
      unfold rangeK at hq
      rw [hk_eq, hy] at hq
      cases y with
      | loop R3 N3 ps3 a3 b3 => exact ⟨R, _, L2, ρ2, hq, hlen4, hsim4, hev4⟩
      | pend c3 =>
        cases c3 with
        | ret => exact wpIn_ret ⟨R, _, L2, ρ2, hq, hlen4, hsim4, hev4⟩
        | exit i => exact wpIn_exit ⟨R, _, L2, ρ2, hq, hlen4, hsim4, hev4⟩
        | _ => exact hq.elim
    cases e with
    | normal => exact main hq
    | ret => exact main hq
    | _ => exact hq.elim
end Go.Sh
/- Loads out of rows of numbers; small facts for walks, further. -/
namespace Go.Sh

theorem sload_map {α : Type} (f : α → SV) (d : α) {l : List α} {k i : Nat} (hk : k = i) (h : i < l.length) : sload false 1 (l.map f) k = some (f (l.getD i d)) := by
  subst hk
  simp [sload, h]
theorem sload_u8 {l : List UInt8} {k i : Nat} (hk : k = i) (h : i < l.length) : sload false 1 (l.map .u8) k = some (.u8 (l.getD i 0)) := sload_map _ _ hk h
theorem sload_u32 {l : List UInt32} {k i : Nat} (hk : k = i) (h : i < l.length) : sload false 1 (l.map .u32) k = some (.u32 (l.getD i 0)) := sload_map _ _ hk h
theorem sload_u64 {l : List UInt64} {k i : Nat} (hk : k = i) (h : i < l.length) : sload false 1 (l.map .u64) k = some (.u64 (l.getD i 0)) := sload_map _ _ hk h
theorem sload_i {l : List Int} {k i : Nat} (hk : k = i) (h : i < l.length) : sload false 1 (l.map .i) k = some (.i (l.getD i 0)) := sload_map _ _ hk h
theorem sload_all {l : List SV} {k sz : Nat} (hk : k = 0) (h : l.length = sz) : sload true sz l k = some (.agg l) := by
  subst hk; subst h
  simp only [sload, if_true]
  rw [if_pos (by omega), List.drop_zero, List.take_of_length_le (Nat.le_refl _)]
theorem sload_sub {α : Type} (f : α → SV) {l : List α} {k i sz : Nat} (hk : k = i) (h : i + sz ≤ l.length) : sload true sz (l.map f) k = some (.agg (((l.drop i).take sz).map f)) := by
  subst hk
  simp only [sload, if_true]
  rw [if_pos (by simpa using h), ← List.map_drop, ← List.map_take]
@[simp] theorem sput_agg_whole {l m : List SV} (h : m.length = l.length) : sput l 0 (.agg m) = m := by
  simp [sput, h]
theorem sput_all {l m : List SV} {k : Nat} (hk : k = 0) (h : m.length = l.length) : sput l k (.agg m) = m := by subst hk; exact sput_agg_whole h
theorem sput_m8 {l : List UInt8} {k i : Nat} {x : UInt8} (hk : k = i) : sput (l.map .u8) k (.u8 x) = (l.set i x).map .u8 := by subst hk; simp [sput, List.map_set]
theorem sput_mi {l : List Int} {k i : Nat} {x : Int} (hk : k = i) : sput (l.map .i) k (.i x) = (l.set i x).map .i := by subst hk; simp [sput, List.map_set]
theorem sput_m32 {l : List UInt32} {k i : Nat} {x : UInt32} (hk : k = i) : sput (l.map .u32) k (.u32 x) = (l.set i x).map .u32 := by subst hk; simp [sput, List.map_set]
theorem sput_m64 {l : List UInt64} {k i : Nat} {x : UInt64} (hk : k = i) : sput (l.map .u64) k (.u64 x) = (l.set i x).map .u64 := by subst hk; simp [sput, List.map_set]
theorem sload_pre8 {l : List UInt8} {r : List SV} {k i : Nat} (hk : k = i) (h : i < l.length) : sload false 1 (l.map .u8 ++ r) k = some (.u8 (l.getD i 0)) := by
  subst hk
  simp [sload, List.getElem?_append_left, h]
theorem sload_end {l : List SV} {x : SV} {k : Nat} (hk : k = l.length) : sload false 1 (l ++ [x]) k = some x := by
  subst hk; simp [sload]
theorem sput_end {l : List SV} {x y : SV} {k : Nat} (hk : k = l.length) (hy : y.atom = true) : sput (l ++ [x]) k y = l ++ [y] := by
  subst hk
  cases y <;> first | (simp [SV.atom] at hy; done) | simp [sput]
theorem bytesOf_cut {l r : List UInt8} {o n : Nat} (h : (l.drop o).take n = r) : bytesOf (((l.map SV.u8).drop o).take n) = some r := by
  subst h; rw [← List.map_drop, ← List.map_take, bytesOf_map]
theorem bytesOf_all {l : List UInt8} : bytesOf (((l.map SV.u8).drop 0).take l.length) = some l := by
  rw [List.drop_zero, take_map_len, bytesOf_map]
theorem set_map {α : Type} (f : α → SV) (l : List α) (k : Nat) (x : α) : (l.map f).set k (f x) = (l.set k x).map f := by simp [List.map_set]

theorem plainL_rep (n : Nat) {x : SV} (h : plainV x = true) : plainL (List.replicate n x) = true := by
  simp only [plainL, List.all_eq_true]; intro y hy; rw [List.eq_of_mem_replicate hy]; exact h
theorem ren_z8 {sel : List Nat} {n : Nat} {x : UInt8} : renL sel ((List.replicate n x).map .u8) = some (List.replicate n (.u8 x)) := by rw [List.map_replicate]; exact renL_plain sel (plainL_rep n rfl)
theorem ren_zi {sel : List Nat} {n : Nat} {x : Int} : renL sel ((List.replicate n x).map .i) = some (List.replicate n (.i x)) := by rw [List.map_replicate]; exact renL_plain sel (plainL_rep n rfl)
theorem ren_z32 {sel : List Nat} {n : Nat} {x : UInt32} : renL sel ((List.replicate n x).map .u32) = some (List.replicate n (.u32 x)) := by rw [List.map_replicate]; exact renL_plain sel (plainL_rep n rfl)
theorem ren_z64 {sel : List Nat} {n : Nat} {x : UInt64} : renL sel ((List.replicate n x).map .u64) = some (List.replicate n (.u64 x)) := by rw [List.map_replicate]; exact renL_plain sel (plainL_rep n rfl)
theorem ren_app {sel : List Nat} {a b c : List SV} (ha : plainL a = true) (h : renL sel b = some c) : renL sel (a ++ b) = some (a ++ c) := by
  induction a with
  | nil => exact h
  | cons x a ih =>
    simp only [plainL_cons, Bool.and_eq_true] at ha
    simp only [List.cons_append, renL, renV_plain sel ha.1, ih ha.2]
theorem ren_app2 {sel : List Nat} {a a' b c : List SV} (ha : plainL a = true) (e : a = a') (h : renL sel b = some c) : renL sel (a ++ b) = some (a' ++ c) := by subst e; exact ren_app ha h

/-! ### What stands in a register, as it is to stand -/
theorem wk_i {sel : List Nat} {n m : Int} (h : n = m) : renV sel (.i n) = some (.i m) := by subst h; rfl
theorem wk_u8 {sel : List Nat} {n m : UInt8} (h : n = m) : renV sel (.u8 n) = some (.u8 m) := by subst h; rfl
theorem wk_u32 {sel : List Nat} {n m : UInt32} (h : n = m) : renV sel (.u32 n) = some (.u32 m) := by subst h; rfl
theorem wk_u64 {sel : List Nat} {n m : UInt64} (h : n = m) : renV sel (.u64 n) = some (.u64 m) := by subst h; rfl
theorem wk_b {sel : List Nat} {n m : Bool} (h : n = m) : renV sel (.b n) = some (.b m) := by subst h; rfl
theorem wk_sl {sel : List Nat} {i j o o' n n' z : Nat} {f : Bool} (hi : sel[i]? = some j) (ho : o = o') (hn : n = n') : renV sel (.sl i o n z f) = some (.sl j o' n' z f) := by subst ho; subst hn; simp only [renV, hi]
theorem wk_tup {sel : List Nat} {l m : List SV} (h : renL sel l = some m) : renV sel (.tup l) = some (.tup m) := by simp only [renV, h]
theorem wk_agg {sel : List Nat} {l m : List SV} (h : renL sel l = some m) : renV sel (.agg l) = some (.agg m) := by simp only [renV, h]
theorem wk_cons {sel : List Nat} {x y : SV} {l m : List SV} (h : renV sel x = some y) (k : renL sel l = some m) : renL sel (x :: l) = some (y :: m) := by simp only [renL, h, k]
theorem wk_nil {sel : List Nat} : renL sel [] = some [] := rfl
theorem evb_i {R : RL} {d : Nat} {x : Operand} {n : Int} {m : Nat} (h : ev R x = some (.i n)) (hn : n = (m : Int)) : evb R d (some x) = some m := by
  subst hn; simp [evb, h, idxOf]
end Go.Sh
/- Yield, reckoned. -/
namespace Go.Sh

def sopYield (fl : List Bool) (R : RL) (H : HL) (L : Nat) (x : Operand) (args : List Operand) (id : Nat) (ss : List Nat) (args0 : List SV) (H0 : HL) (ret : SV) (H1 : HL) (k : K1) : Prop :=
  (match ev R x with
    | some (.yld i) => match evs R args with
      | some zs => i = id ∧ renL (id :: ss) args0 = some zs
      | none => False
    | _ => False) ∧ okH (id :: ss) H (id :: ss) H0 ∧ plainHf fl H1 = true ∧
  match Nat.beq (id :: ss).length H0.length with
  | true => match dupOk (id :: ss) 0 (id :: ss) H0 with
    | true => match cWf (id :: ss ++ newSel L (H1.length - H0.length)) fl (id :: ss ++ newSel L (H1.length - H0.length)) H0 H1 with
      | some W => match renV (id :: ss ++ newSel L (H1.length - H0.length)) ret with
        | some z => k (some z) W (id :: ss) (L + (H1.length - H0.length))
        | none => False
      | none => False
    | false => False
  | false => False

theorem ok1_yield {P : Program} {o : Oper} {R : RL} {H : HL} {L : Nat} {k : K1} {x : Operand} {args : Array Operand} {tys : Array TypeId} {args0 : List SV} {H0 H1 : HL} {ret : SV} (id : Nat) (ss : List Nat) (fl : List Bool)
    (hc : SYield P args0 H0 ret H1) (ho : o.op = .call ⟨.value x, args, tys⟩) (hle : Nat.ble H.length L = true) (h : sopYield fl R H L x args.toList id ss args0 H0 ret H1 k) : Ok1 P o R H L k := by
  have hl := Nat.le_of_ble_eq_true hle
  obtain ⟨h1, h2, hp, h3⟩ := h
  split at h1
  · rename_i i hx
    split at h1
    · rename_i zs hzs
      obtain ⟨rfl, hren⟩ := h1
      split at h3
      · rename_i hlen
        split at h3
        · rename_i hd
          split at h3
          · rename_i W hWf
            split at h3
            · rename_i z hz
              have hW := cWf_eq _ _ _ _ _ _ hp hWf
              obtain ⟨w1, w2, w3, w4, w5⟩ := cW_spec hW
              refine ⟨_, _, _, _, lt_yield hl ho (ev_some hx) (evs_eq hzs) hc hren (beqE hlen) h2 hd hW hz, by omega, ?_, h3⟩
              intro j ob hm
              obtain ⟨q, hj, hent⟩ := w3 j ob hm
              have hl0 := beqE hlen
              by_cases hjs : q < H0.length
              · rw [List.getElem?_append_left (by omega)] at hj
                obtain ⟨b0, hb0⟩ := w5 q hjs
                obtain ⟨s, b, e1, e2, _⟩ := okH_get h2 hb0
                rw [hj] at e1; cases e1
                have := hk_lt hl (by rw [hk_eq]; exact e2 : hk H _ = some b)
                exact ⟨by omega, fun hn => absurd (List.mem_of_getElem? hj) hn⟩
              · rw [List.getElem?_append_right (by omega), newSel_get] at hj
                split at hj
                · have := Option.some.inj hj
                  exact ⟨by omega, fun _ => by omega⟩
                · cases hj
            · exact h3.elim
          · exact h3.elim
        · exact h3.elim
      · exact h3.elim
    · exact h1.elim
  · exact h1.elim
end Go.Sh
/- Lists that are filled from the front. -/
namespace Go.Sh
variable {α : Type}
/-- The first i of n places have f, the others g. -/
def fil (n i : Nat) (f g : Nat → α) : List α := (List.range n).map (fun j => if j < i then f j else g j)
theorem fil_len (n i : Nat) (f g : Nat → α) : (fil n i f g).length = n := by simp [fil]
theorem fil_zero (n : Nat) (f : Nat → α) (z : α) : fil n 0 f (fun _ => z) = List.replicate n z := by
  apply List.ext_getElem?; intro j; by_cases h : j < n <;> simp [fil, h]
theorem fil_full (n : Nat) (f g : Nat → α) : fil n n f g = (List.range n).map f := by
  unfold fil; apply List.map_congr_left; intro j hj; rw [if_pos (by simpa using hj)]
theorem fil_getD {n i j : Nat} {f g : Nat → α} {d : α} (h : j < n) : (fil n i f g).getD j d = if j < i then f j else g j := by
  rw [List.getD_eq_getElem?_getD]; simp [fil, h]
theorem fil_set {n i : Nat} {f g : Nat → α} (h : i < n) : (fil n i f g).set i (f i) = fil n (i + 1) f g := by
  apply List.ext_getElem?; intro j
  rw [List.getElem?_set]
  by_cases hj : i = j
  · subst hj; simp [fil, h]
  · rw [if_neg hj]
    by_cases h2 : j < n
    · simp only [fil, List.getElem?_map, List.getElem?_range h2, Option.map_some]
      by_cases h3 : j < i
      · rw [if_pos h3, if_pos (by omega)]
      · rw [if_neg h3, if_neg (by omega)]
    · simp [fil, h2]
theorem fil_setx {n i : Nat} {f g : Nat → α} {x : α} (h : i < n) (hx : x = f i) : (fil n i f g).set i x = fil n (i + 1) f g := by subst hx; exact fil_set h
theorem fil_same {n i : Nat} {f g : Nat → α} {x : α} (h : i < n) (hx : x = g i) : (fil n i f g).set i x = fil n i f g := by
  apply List.ext_getElem?; intro j
  rw [List.getElem?_set]
  by_cases hj : i = j
  · subst hj; subst hx; simp [fil, h]
  · rw [if_neg hj]
theorem fil_of_list {n : Nat} {f : Nat → α} {l : List α} {d : α} (h : l.length = n) : fil n 0 f (fun j => l.getD j d) = l := by
  apply List.ext_getElem?; intro j
  by_cases h2 : j < n
  · simp only [fil, List.getElem?_map, List.getElem?_range h2, Option.map_some, Nat.not_lt_zero, if_false]
    rw [List.getD_eq_getElem?_getD, List.getElem?_eq_getElem (by omega)]; rfl
  · rw [List.getElem?_eq_none (by simp [fil_len]; omega), List.getElem?_eq_none (by omega)]
theorem rng_getD {n j : Nat} {f : Nat → α} {d : α} (h : j < n) : ((List.range n).map f).getD j d = f j := by
  rw [List.getD_eq_getElem?_getD]; simp [h]
theorem rng_len {n : Nat} {f : Nat → α} : ((List.range n).map f).length = n := by simp
theorem rng_succ {n : Nat} {f : Nat → α} : (List.range (n + 1)).map f = (List.range n).map f ++ [f n] := by rw [List.range_succ]; simp
theorem set_get_set {l : List UInt8} {i : Nat} {x c : UInt8} (h : i < l.length) : (l.set i x).set i ((l.set i x).getD i 0 + c) = l.set i (x + c) := by
  rw [List.getD_eq_getElem?_getD, List.getElem?_set]; simp [h]
theorem getD_app_l {l m : List α} {i : Nat} {d : α} (h : i < l.length) : (l ++ m).getD i d = l.getD i d := by
  rw [List.getD_eq_getElem?_getD, List.getD_eq_getElem?_getD, List.getElem?_append_left h]
theorem getD_app_r {l m : List α} {i j : Nat} {d : α} (h : i = l.length + j) : (l ++ m).getD i d = m.getD j d := by
  subst h; rw [List.getD_eq_getElem?_getD, List.getD_eq_getElem?_getD, List.getElem?_append_right (by omega)]; congr 2; omega
theorem ren_m8 {sel : List Nat} {l m : List UInt8} (h : l = m) : renL sel (l.map .u8) = some (m.map .u8) := by subst h; exact renL_plain sel (plainL_u8 l)
theorem ren_m32 {sel : List Nat} {l m : List UInt32} (h : l = m) : renL sel (l.map .u32) = some (m.map .u32) := by subst h; exact renL_plain sel (plainL_u32 l)
theorem ren_m64 {sel : List Nat} {l m : List UInt64} (h : l = m) : renL sel (l.map .u64) = some (m.map .u64) := by subst h; exact renL_plain sel (plainL_u64 l)
theorem ren_mi {sel : List Nat} {l m : List Int} (h : l = m) : renL sel (l.map .i) = some (m.map .i) := by subst h; exact renL_plain sel (plainL_i l)
theorem app1 {l : List UInt8} {n : Nat} {y : UInt8} (h : l.length = n) : List.take (n * 1) (List.drop 0 (l.map SV.u8)) ++ List.take (1 * 1) (List.drop 0 [SV.u8 y]) = (l ++ [y]).map SV.u8 := by
  rw [List.drop_zero, List.take_of_length_le (by simp; omega)]; simp
end Go.Sh
/- Bits of words; a word turned round. -/
namespace Go.Sh
set_option maxHeartbeats 4000000
set_option linter.unusedSimpArgs false

def b64 (x : UInt64) (i : Nat) : Bool := x.toNat.testBit i
theorem b64_or (x y : UInt64) (i : Nat) : b64 (x ||| y) i = (b64 x i || b64 y i) := by unfold b64; rw [UInt64.toNat_or, Nat.testBit_or]
theorem b64_and (x y : UInt64) (i : Nat) : b64 (x &&& y) i = (b64 x i && b64 y i) := by unfold b64; rw [UInt64.toNat_and, Nat.testBit_and]
theorem b64_xor (x y : UInt64) (i : Nat) : b64 (x ^^^ y) i = (b64 x i ^^ b64 y i) := by unfold b64; rw [UInt64.toNat_xor, Nat.testBit_xor]
theorem b64_ge (x : UInt64) (i : Nat) (h : 64 ≤ i) : b64 x i = false := by
  unfold b64
  apply Nat.testBit_lt_two_pow
  exact Nat.lt_of_lt_of_le (UInt64.toNat_lt x) (Nat.pow_le_pow_right (by decide) h)
theorem b64_shr (x : UInt64) (n i : Nat) (h : n < 64) : b64 (shr64 x n) i = b64 x (n + i) := by
  unfold b64 shr64
  rw [if_pos h, UInt64.toNat_shiftRight, UInt64.toNat_ofNat', Nat.testBit_shiftRight]
  congr 2
  omega
theorem b64_shl (x : UInt64) (n i : Nat) (h : n < 64) : b64 (shl64 x n) i = (decide (i < 64) && decide (n ≤ i) && b64 x (i - n)) := by
  unfold b64 shl64
  rw [if_pos h, UInt64.toNat_shiftLeft, UInt64.toNat_ofNat', show n % 2 ^ 64 % 64 = n by omega, Nat.testBit_mod_two_pow, Nat.testBit_shiftLeft, Bool.and_assoc]
theorem b64_ext {x y : UInt64} (h : ∀ i, i < 64 → b64 x i = b64 y i) : x = y := by
  apply UInt64.toNat_inj.mp
  apply Nat.eq_of_testBit_eq
  intro i
  by_cases hi : i < 64
  · exact h i hi
  · have h1 := b64_ge x i (by omega)
    have h2 := b64_ge y i (by omega)
    unfold b64 at h1 h2
    rw [h1, h2]
theorem b64_zero (i : Nat) : b64 0 i = false := by unfold b64; exact Nat.zero_testBit i

/-- Groups of s bits, changed for one another. -/
def swp (s : Nat) (m : UInt64) (x : UInt64) : UInt64 := (shr64 x s &&& m) ||| shl64 (x &&& m) s
theorem b64_swp (s : Nat) (m x : UInt64) (hs : s < 64) (hm : ∀ i, i < 64 → b64 m i = decide (i / s % 2 = 0)) (i : Nat) (hi : i < 64) (h0 : 0 < s) : b64 (swp s m x) i = b64 x (if i / s % 2 = 0 then i + s else i - s) := by
  unfold swp
  rw [b64_or, b64_and, b64_shr _ _ _ hs, b64_shl _ _ _ hs, b64_and, hm i hi]
  by_cases h : i / s % 2 = 0
  · have e : (decide (i < 64) && decide (s ≤ i) && (b64 x (i - s) && b64 m (i - s))) = false := by
      by_cases hsi : s ≤ i
      · rw [hm (i - s) (by omega)]
        have : ¬ (i - s) / s % 2 = 0 := by
          have e1 : (i - s) / s = i / s - 1 := by
            have := Nat.sub_mul_div i s 1
            simpa using this
          have : 1 ≤ i / s := (Nat.one_le_div_iff h0).2 hsi
          omega
        simp [this]
      · simp [hsi]
    rw [e, if_pos h]
    simp [h, Nat.add_comm]
  · rw [if_neg h]
    have hsi : s ≤ i := by
      apply Decidable.byContradiction
      intro hn
      exact h (by rw [Nat.div_eq_of_lt (by omega)])
    rw [hm (i - s) (by omega)]
    have e1 : (i - s) / s = i / s - 1 := by
      have := Nat.sub_mul_div i s 1
      simpa using this
    have h3 : (i - s) / s % 2 = 0 := by
      have : 1 ≤ i / s := (Nat.one_le_div_iff h0).2 hsi
      omega
    simp [h, h3, hsi, hi]

/-- A word's bytes, and bits, the other way round. -/
def rvb64 (x : UInt64) : UInt64 := shr64 (swp 16 281470681808895 (swp 8 71777214294589695 x)) 32 ||| shl64 (swp 16 281470681808895 (swp 8 71777214294589695 x)) 32
def rev64 (x : UInt64) : UInt64 := rvb64 (swp 4 1085102592571150095 (swp 2 3689348814741910323 (swp 1 6148914691236517205 x)))

theorem all64 {p : Nat → Prop} [DecidablePred p] (h : ∀ i, i < 64 → p i) (i : Nat) (hi : i < 64) : p i := h i hi
theorem m1 : ∀ i, i < 64 → b64 6148914691236517205 i = decide (i / 1 % 2 = 0) := by decide +kernel
theorem m2 : ∀ i, i < 64 → b64 3689348814741910323 i = decide (i / 2 % 2 = 0) := by decide +kernel
theorem m4 : ∀ i, i < 64 → b64 1085102592571150095 i = decide (i / 4 % 2 = 0) := by decide +kernel
theorem m8 : ∀ i, i < 64 → b64 71777214294589695 i = decide (i / 8 % 2 = 0) := by decide +kernel
theorem m16 : ∀ i, i < 64 → b64 281470681808895 i = decide (i / 16 % 2 = 0) := by decide +kernel
def sx (s i : Nat) : Nat := if i / s % 2 = 0 then i + s else i - s
theorem sx_lt : ∀ i, i < 64 → sx 1 i < 64 ∧ sx 2 i < 64 ∧ sx 4 i < 64 ∧ sx 8 i < 64 ∧ sx 16 i < 64 := by decide +kernel
theorem sx_all : ∀ i, i < 64 → sx 1 (sx 2 (sx 4 (sx 8 (sx 16 (if i < 32 then i + 32 else i - 32))))) = 63 - i := by decide +kernel
theorem b64_rev (x : UInt64) (i : Nat) (hi : i < 64) : b64 (rev64 x) i = b64 x (63 - i) := by
  unfold rev64 rvb64
  obtain ⟨y, hy⟩ : ∃ y, y = swp 16 281470681808895 (swp 8 71777214294589695 (swp 4 1085102592571150095 (swp 2 3689348814741910323 (swp 1 6148914691236517205 x)))) := ⟨_, rfl⟩
  have h16 : ∀ j, j < 64 → b64 y j = b64 x (sx 1 (sx 2 (sx 4 (sx 8 (sx 16 j))))) := by
    intro j hj
    have a16 := (sx_lt j hj).2.2.2.2
    have a8 := (sx_lt _ a16).2.2.2.1
    have a4 := (sx_lt _ a8).2.2.1
    have a2 := (sx_lt _ a4).2.1
    rw [hy, b64_swp 16 _ _ (by decide) m16 j hj (by decide)]
    show b64 _ (sx 16 j) = _
    rw [b64_swp 8 _ _ (by decide) m8 _ a16 (by decide)]
    show b64 _ (sx 8 (sx 16 j)) = _
    rw [b64_swp 4 _ _ (by decide) m4 _ a8 (by decide)]
    show b64 _ (sx 4 (sx 8 (sx 16 j))) = _
    rw [b64_swp 2 _ _ (by decide) m2 _ a4 (by decide)]
    show b64 _ (sx 2 (sx 4 (sx 8 (sx 16 j)))) = _
    rw [b64_swp 1 _ _ (by decide) m1 _ a2 (by decide)]
    rfl
  rw [← hy, ← sx_all i hi]
  rw [b64_or, b64_shr _ _ _ (by decide), b64_shl _ _ _ (by decide)]
  by_cases h : i < 32
  · rw [if_pos h, ← h16 _ (by omega)]
    have : decide (32 ≤ i) = false := by simp; omega
    rw [this]; simp [Nat.add_comm]
  · rw [if_neg h, ← h16 _ (by omega)]
    have h1 := b64_ge y (32 + i) (by omega)
    have : decide (32 ≤ i) = true := by simp; omega
    rw [h1, this]; simp [hi]
theorem rev_rev (x : UInt64) : rev64 (rev64 x) = x := b64_ext fun i hi => by rw [b64_rev _ _ hi, b64_rev _ _ (by omega), show 63 - (63 - i) = i by omega]
end Go.Sh
/- A promise about a slice of a block that is only read holds of the slice as a part of a longer block. -/
namespace Go.Sh
set_option linter.unusedSimpArgs false

theorem rel_plain {ρ ρ' : Ren} {x : SV} {v : Value} (h : plainV x = true) (hr : Rel ρ x v) : Rel ρ' x v := by
  cases x <;> simp only [plainV, Bool.false_eq_true] at h <;> simpa only [Rel] using hr
theorem rels_plain {ρ ρ' : Ren} : ∀ {l : List SV} {vs : List Value}, plainL l = true → Rels ρ l vs → Rels ρ' l vs
  | [], _, _, h => by simpa only [Rels] using h
  | x :: l, vs, hp, h => by
    simp only [plainL, List.all_cons, Bool.and_eq_true] at hp
    simp only [Rels] at h ⊢
    obtain ⟨y, ys, e, hy, hys⟩ := h
    exact ⟨y, ys, e, rel_plain hp.1 hy, rels_plain (by simpa [plainL] using hp.2) hys⟩

def skp (j n : Nat) : List Nat := (List.range n).map fun k => if k = j then 1000000 else k
theorem pull_skp {j n : Nat} {ρ ρ' : Ren} (h : ∀ id, id ≠ j → ρ id = ρ' id) (hj : j ≠ 1000000) : pullR (skp j n) ρ = pullR (skp j n) ρ' := by
  funext k
  simp only [pullR, skp, List.getElem?_map]
  by_cases hk : k < n
  · rw [List.getElem?_range hk]
    simp only [Option.map_some]
    by_cases hkj : k = j
    · rw [if_pos hkj]; exact h _ (fun e => hj e.symm)
    · rw [if_neg hkj]; exact h _ hkj
  · rw [List.getElem?_eq_none (by simp; omega)]; rfl

def shA (j o : Nat) : SV → SV
  | .sl id q n sz f => match Nat.beq id j with | true => .sl id (o + q) n sz f | false => .sl id q n sz f
  | x => x

def isSl (j : Nat) : SV → Bool
  | .sl id _ _ _ _ => Nat.beq id j
  | _ => false
def argOk (j n : Nat) : List SV → Prop
  | [] => True
  | x :: xs => (isSl j x = true ∨ (isSl j x = false ∧ renV (skp j n) x = some x)) ∧ argOk j n xs
def blkOk (j n : Nat) : Nat → HL → Prop
  | _, [] => True
  | k, none :: H => blkOk j n (k + 1) H
  | k, some b :: H => (k = j ∨ plainB b = true ∨ renB (skp j n) b = some b) ∧ blkOk j n (k + 1) H

theorem blkOk_get {j n : Nat} : ∀ {H : HL} {k id : Nat} {b : SB}, blkOk j n k H → hg H id = some b → k + id = j ∨ renB (skp j n) b = some b
  | [], k, id, b, _, h => by simp [hg] at h
  | none :: H, k, 0, b, _, h => by simp [hg] at h
  | none :: H, k, id + 1, b, ho, h => by
    have := blkOk_get (H := H) (k := k + 1) (id := id) ho (by simpa [hg] using h)
    rcases this with e | e
    · exact .inl (by omega)
    · exact .inr e
  | some b1 :: H, k, 0, b, ho, h => by
    have e : b1 = b := by simpa [hg] using h
    subst e
    rcases ho.1 with h1 | h1 | h1
    · exact .inl (by omega)
    · exact .inr (renB_plain _ h1)
    · exact .inr h1
  | some b1 :: H, k, id + 1, b, ho, h => by
    have := blkOk_get (H := H) (k := k + 1) (id := id) ho.2 (by simpa [hg] using h)
    rcases this with e | e
    · exact .inl (by omega)
    · exact .inr e

theorem hg_set {H : HL} {j id : Nat} {b : SB} (hj : j < H.length) : hg (H.set j (some b)) id = if id = j then some b else hg H id := by
  unfold hg
  rw [List.getElem?_set]
  by_cases h : j = id
  · subst h; simp [hj]
  · rw [if_neg h, if_neg (fun e => h e.symm)]

theorem SCall.sub {P : Program} {f : Nat} {args : List SV} {H0 : HL} {ret : SV} {H1 : HL} (h : SCall P f args H0 ret H1) (j o : Nat) (L l0 : List SV) (n : Nat)
    (hj0 : hg H0 j = some (.ro l0)) (hj1 : hg H1 j = some (.ro l0)) (hL : (L.drop o).take l0.length = l0) (hp : plainL L = true) (hp0 : plainL l0 = true) (hjn : j ≠ 1000000)
    (ha : argOk j n args) (hr : renV (skp j n) ret = some ret) (h0 : blkOk j n 0 H0) (h1 : blkOk j n 0 H1) :
    SCall P f (args.map (shA j o)) (H0.set j (some (.ro L))) ret (H1.set j (some (.ro L))) := by
  have hjl0 : j < H0.length := by unfold hg at hj0; rcases Nat.lt_or_ge j H0.length with h | h; exact h; rw [List.getElem?_eq_none h] at hj0; simp at hj0
  have hjl1 : j < H1.length := by unfold hg at hj1; rcases Nat.lt_or_ge j H1.length with h | h; exact h; rw [List.getElem?_eq_none h] at hj1; simp at hj1
  have hlen : l0.length ≤ L.length - o := by have := congrArg List.length hL; simp at this; omega
  refine ⟨h.fn, fun nn ρ w vs hA hH hS hF => ?_⟩
  obtain ⟨rb, hρ, hB⟩ := hH j (.ro L) (by rw [hg_set hjl0, if_pos rfl])
  let rbs : RB := { rb with off := rb.off + o, cap := rb.cap - o }
  let ρs : Ren := fun id => if id = j then some rbs else ρ id
  have hρs : ∀ id, id ≠ j → ρs id = ρ id := fun id hid => if_neg hid
  have hsj : ρs j = some rbs := if_pos rfl
  have tr : ∀ {ρa ρb : Ren} {x : SV} {v : Value}, (∀ id, id ≠ j → ρa id = ρb id) → renV (skp j n) x = some x → Rel ρa x v → Rel ρb x v := by
    intro ρa ρb x v e hx hv
    have h1 := (rel_ren x hx (ρ := ρa)).2 hv
    rw [pull_skp e hjn] at h1
    exact (rel_ren x hx (ρ := ρb)).1 h1
  have trB : ∀ {ρa ρb : Ren} {b : SB} {w : World} {r : RB}, (∀ id, id ≠ j → ρa id = ρb id) → renB (skp j n) b = some b → BRel ρa w r b → BRel ρb w r b := by
    intro ρa ρb b w r e hx hv
    have h1 := (brel_ren hx (ρ := ρa) (w := w) (rb := r)).2 hv
    rw [pull_skp e hjn] at h1
    exact (brel_ren hx).1 h1
  -- the arguments
  have hA' : Rels ρs args vs := by
    have : ∀ (xs : List SV) (us : List Value), argOk j n xs → Rels ρ (xs.map (shA j o)) us → Rels ρs xs us := by
      intro xs
      induction xs with
      | nil => intro us _ h; simpa only [List.map_nil, Rels] using h
      | cons x xs ih =>
        intro us hok h
        simp only [List.map_cons, Rels] at h ⊢
        obtain ⟨y, ys, e, hy, hys⟩ := h
        refine ⟨y, ys, e, ?_, ih ys hok.2 hys⟩
        rcases hok.1 with hx | ⟨hx0, hx⟩
        · cases x with
          | sl id q nn2 sz full =>
            simp only [isSl] at hx
            have hid : id = j := Nat.eq_of_beq_eq_true hx
            subst hid
            simp only [shA, hx, Rel] at hy
            obtain ⟨rb2, a, c, g1, g2, g3, g4, g5⟩ := hy
            rw [hρ] at g1; cases g1
            simp only [Rel]
            refine ⟨rbs, a, c, hsj, g2, g3, g4, ?_⟩
            rcases g5 with g5 | ⟨g5, g6, g7⟩
            · exact .inl g5
            · exact .inr ⟨g5, by rw [g6]; simp only [rbs, Nat.add_assoc], by simp only [rbs]; omega⟩
          | _ => simp [isSl] at hx
        · have e2 : shA j o x = x := by
            cases x <;> first | rfl | (simp only [isSl] at hx0; simp only [shA, hx0])
          rw [e2] at hy
          exact tr (fun id hid => (hρs id hid).symm) hx hy
    exact this args vs ha hA
  -- the block
  have hBs : ∀ {ρ1 : Ren} {w1 : World}, BRel ρ1 w1 rb (.ro L) → BRel ρs w1 rbs (.ro l0) := by
    intro ρ1 w1 hb
    by_cases hl0 : l0 = []
    · exact .inl hl0
    have hpos : 0 < l0.length := List.length_pos_iff.2 hl0
    rcases hb with rfl | ⟨⟨c, t, fz, g1, g2, g3, g4, g5⟩, g6, g7⟩
    · exact absurd (List.eq_nil_of_length_eq_zero (by simpa using hlen)) hl0
    · right
      refine ⟨⟨c, t, fz, g1, ?_, ?_, fun h => (by cases h), ?_⟩, by simp only [rbs]; omega, g7⟩
      · have : ∀ l : List SV, plainL l = true → atoms l = true := by
          intro l; induction l with
          | nil => intro _; rfl
          | cons x xs ih =>
            intro h
            simp only [plainL, List.all_cons, Bool.and_eq_true] at h
            simp only [atoms, List.all_cons, Bool.and_eq_true]
            exact ⟨by cases x <;> simp_all [plainV, SV.atom], by simpa [atoms] using ih (by simpa [plainL] using h.2)⟩
        exact this l0 hp0
      · have := Rels.take l0.length (Rels.drop o g3)
        rw [hL] at this
        have e : List.take l0.length (List.drop o (List.take L.length (List.drop rb.off c.toList))) = List.take l0.length (List.drop rbs.off c.toList) := by
          simp only [rbs]
          rw [List.drop_take, List.drop_drop, List.take_take]
          congr 1; omega
        rw [e] at this
        exact rels_plain hp0 this
      · simp only [rbs]; omega
  have hgt : ∀ {H : HL} {b : SB}, j < H.length → hg (H.set j (some b)) j = some b := fun {H b} hl => by rw [hg_set hl, if_pos rfl]
  have hgo : ∀ {H : HL} {b : SB} {id : Nat}, j < H.length → id ≠ j → hg (H.set j (some b)) id = hg H id := fun {H b id} hl hid => by rw [hg_set hl, if_neg hid]
  have hHs : HRel ρs (hg H0) w := by
    intro id b hb
    by_cases hid : id = j
    · subst hid
      rw [hj0] at hb; cases hb
      exact ⟨rbs, hsj, hBs hB⟩
    · obtain ⟨r, e1, e2⟩ := hH id b (by rw [hgo hjl0 hid]; exact hb)
      exact ⟨r, by rw [hρs id hid]; exact e1, trB (fun id hid => (hρs id hid).symm) ((blkOk_get h0 hb).resolve_left (by omega)) e2⟩
  have hfoot : ∀ k q, foot rbs (.ro l0) k q → foot rb (.ro L) k q := fun k q ⟨e1, e2, e3⟩ => by
    simp only [rbs] at e1 e2 e3
    exact ⟨e1, by omega, by omega⟩
  have hown : ∀ k q, Owned ρs (hg H0) k q → Owned ρ (hg (H0.set j (some (.ro L)))) k q ∧ ¬ foot rb (.ro L) k q := by
    rintro k q ⟨id, b, r, e1, e2, e3, e4⟩
    have hid : id ≠ j := fun e => by subst e; rw [hj0] at e1; cases e1; cases e3
    rw [hρs id hid] at e2
    exact ⟨⟨id, b, r, by rw [hgo hjl0 hid]; exact e1, e2, e3, e4⟩, fun hf => hS id j b (.ro L) r rb hid (by rw [hgo hjl0 hid]; exact e1) (hgt hjl0) e2 hρ e3 k q ⟨e4, hf⟩⟩
  have hSs : Sep ρs (hg H0) := by
    intro i k bi bk ri rk hne hi hk hri hrk hw q p ⟨hfi, hfk⟩
    have hij : i ≠ j := fun e => by subst e; rw [hj0] at hi; cases hi; cases hw
    rw [hρs i hij] at hri
    by_cases hkj : k = j
    · subst hkj
      rw [hj0] at hk; cases hk
      rw [hsj] at hrk; cases hrk
      exact hS i k bi (.ro L) ri rb hne (by rw [hgo hjl0 hij]; exact hi) (hgt hjl0) hri hρ hw q p ⟨hfi, hfoot q p hfk⟩
    · rw [hρs k hkj] at hrk
      exact hS i k bi bk ri rk hne (by rw [hgo hjl0 hij]; exact hi) (by rw [hgo hjl0 hkj]; exact hk) hri hrk hw q p ⟨hfi, hfk⟩
  have hFs : ∀ id, H0.length ≤ id → ρs id = none := fun id hid => by
    rw [hρs id (by omega)]; exact hF id (by simpa using hid)
  refine (h.call nn ρs w vs hA' hHs hSs hFs).mono fun e w' hR => ?_
  cases e with
  | returned v =>
    obtain ⟨ρ1, q1, q2, q3, q4, q5⟩ := hR
    let ρ2 : Ren := fun id => if id = j then some rb else ρ1 id
    have h21 : ∀ id, id ≠ j → ρ2 id = ρ1 id := fun id hid => if_neg hid
    have h2j : ρ2 j = some rb := if_pos rfl
    have hB2 : BRel ρ2 w' rb (.ro L) := by
      rcases hB with hB | ⟨⟨c, t, fz, g1, g2, g3, g4, g5⟩, g6, g7⟩
      · exact .inl hB
      · obtain ⟨c', k1, k2, k3⟩ := q5.fr.blk rb.blk _ g1
        have hsame : ∀ i, rb.off ≤ i → i < rb.off + L.length → c'[i]? = c[i]? := fun i h1 h2 => k3 i fun ho => (hown _ _ ho).2 ⟨rfl, h1, h2⟩
        have e : List.take L.length (List.drop rb.off c'.toList) = List.take L.length (List.drop rb.off c.toList) := by
          apply List.ext_getElem?
          intro i
          by_cases hi : i < L.length
          · rw [List.getElem?_take_of_lt hi, List.getElem?_take_of_lt hi, List.getElem?_drop, List.getElem?_drop, Array.getElem?_toList, Array.getElem?_toList]
            exact hsame _ (by omega) (by omega)
          · rw [List.getElem?_eq_none (by simp; omega), List.getElem?_eq_none (by simp; omega)]
        exact .inr ⟨⟨c', t, fz, k1, g2, by rw [e]; exact rels_plain hp g3, fun h => (by cases h), by omega⟩, g6, g7⟩
    refine ⟨ρ2, tr (fun id hid => (h21 id hid).symm) hr q1, ?_, ?_, ?_, ?_, ?_, ?_⟩
    · intro id b hb
      by_cases hid : id = j
      · subst hid
        rw [hgt hjl1] at hb; cases hb
        exact ⟨rb, h2j, hB2⟩
      · rw [hgo hjl1 hid] at hb
        obtain ⟨r, e1, e2⟩ := q2 id b hb
        exact ⟨r, by rw [h21 id hid]; exact e1, trB (fun id hid => (h21 id hid).symm) ((blkOk_get h1 hb).resolve_left (by omega)) e2⟩
    · intro i k bi bk ri rk hne hi hk hri hrk hw q p ⟨hfi, hfk⟩
      have hij : i ≠ j := fun e => by subst e; rw [hgt hjl1] at hi; cases hi; cases hw
      rw [h21 i hij] at hri
      rw [hgo hjl1 hij] at hi
      by_cases hkj : k = j
      · subst hkj
        rw [hgt hjl1] at hk; cases hk
        rw [h2j] at hrk; cases hrk
        have hb := q5.own q p ⟨i, bi, ri, hi, hri, hw, hfi⟩
        rcases hb with hb | hb
        · exact (hown _ _ hb).2 hfk
        · rcases hB with hB | ⟨⟨c, t, fz, g1, _⟩, _⟩
          · subst hB; have := hfk.2; simp at this; omega
          · have hlt := (Array.getElem?_eq_some_iff.1 g1).1
            have := hfk.1
            omega
      · rw [h21 k hkj] at hrk
        rw [hgo hjl1 hkj] at hk
        exact q3 i k bi bk ri rk hne hi hk hri hrk hw q p ⟨hfi, hfk⟩
    · intro id hid
      rw [List.length_set] at hid
      rw [h21 id (by omega)]; exact q4 id hid
    · intro id hid r hr2
      rw [List.length_set] at hid
      by_cases hij : id = j
      · subst hij; rw [hρ] at hr2; cases hr2; exact h2j
      · rw [h21 id hij]; exact q5.ext id hid r (by rw [hρs id hij]; exact hr2)
    · exact q5.fr.mono (fun k q _ ho => (hown k q ho).1)
    · rintro k q ⟨id, b, r, e1, e2, e3, e4⟩
      have hij : id ≠ j := fun e => by subst e; rw [hgt hjl1] at e1; cases e1; cases e3
      rw [hgo hjl1 hij] at e1
      rw [h21 id hij] at e2
      exact (q5.own k q ⟨id, b, r, e1, e2, e3, e4⟩).imp (fun ho => (hown k q ho).1) (fun h => h)
  | _ => exact hR
end Go.Sh
/- Calls whose blocks are told outright. -/
namespace Go.Sh
set_option linter.unusedSimpArgs false

/-- The blocks under the caller's names. -/
def renHs (sel : List Nat) : HL → HL → Prop
  | [], [] => True
  | none :: a, none :: b => renHs sel a b
  | some x :: a, some y :: b => (y.own = x.own ∧ match x.own with | true => renB sel x = some y | false => True) ∧ renHs sel a b
  | _, _ => False

theorem cW_renHs {sel : List Nat} : ∀ (ss : List Nat) (H0 H1 H1r : HL) (W : Upd), renHs sel H1 H1r → cWp ss H0 H1r = some W → cW sel ss H0 H1 = some W
  | s :: ss, some b0 :: H0, none :: H1, none :: H1r, W, h, hw => by
    simp only [renHs] at h
    simp only [cWp] at hw
    split at hw
    · rename_i W2 hw2
      simp only [cW, cW_renHs ss H0 H1 H1r W2 h hw2]
      exact hw
    · cases hw
  | s :: ss, some b0 :: H0, some x :: H1, some y :: H1r, W, h, hw => by
    simp only [renHs] at h
    obtain ⟨⟨h1, h2⟩, h3⟩ := h
    simp only [cWp] at hw
    split at hw
    · rename_i W2 hw2
      simp only [cW, cW_renHs ss H0 H1 H1r W2 h3 hw2]
      cases hb : b0.own with
      | false => rw [hb] at hw; exact hw
      | true =>
        rw [hb] at hw
        simp only at hw ⊢
        rw [h1] at hw
        cases hx : x.own with
        | true => rw [hx] at h2 hw; simp only at h2 hw ⊢; rw [h2]; exact hw
        | false => rw [hx] at hw; cases hw
    · cases hw
  | s :: ss, [], none :: H1, none :: H1r, W, h, hw => by
    simp only [renHs] at h
    simp only [cWp] at hw
    split at hw
    · rename_i W2 hw2
      simp only [cW, cW_renHs ss [] H1 H1r W2 h hw2]
      exact hw
    · cases hw
  | s :: ss, [], some x :: H1, some y :: H1r, W, h, hw => by
    simp only [renHs] at h
    obtain ⟨⟨h1, h2⟩, h3⟩ := h
    simp only [cWp] at hw
    split at hw
    · rename_i W2 hw2
      simp only [cW, cW_renHs ss [] H1 H1r W2 h3 hw2]
      rw [h1] at hw
      cases hx : x.own with
      | true => rw [hx] at h2 hw; simp only at h2 hw ⊢; rw [h2]; exact hw
      | false => rw [hx] at hw; cases hw
    · cases hw
  | [], [], [], [], W, _, hw => by simpa only [cW, cWp] using hw
  | _, _, [], _ :: _, _, h, _ => by simp only [renHs] at h
  | _, _, _ :: _, [], _, h, _ => by simp [renHs] at h
  | _, _, none :: _, some _ :: _, _, h, _ => by simp only [renHs] at h
  | _, _, some _ :: _, none :: _, _, h, _ => by simp only [renHs] at h
  | [], _ :: _, [], [], _, _, hw => by simp [cWp] at hw
  | [], _, none :: _, none :: _, _, _, hw => by simp [cWp] at hw
  | [], _, some _ :: _, some _ :: _, _, _, hw => by simp [cWp] at hw
  | _ :: _, none :: _, _, _, _, _, hw => by simp [cWp] at hw
  | _ :: _, [], [], [], _, _, hw => by simp [cWp] at hw
  | _ :: _, some _ :: _, [], [], _, _, hw => by simp [cWp] at hw

theorem rb_boxa {sel : List Nat} {a b c : List SV} (ha : plainL a = true) (h : renL sel b = some c) : renB sel (.box (a ++ b)) = some (.box (a ++ c)) := by
  simp only [renB, ren_app ha h]

def sopCallE (H1r : HL) (z : SV) (R : RL) (H : HL) (L : Nat) (x : Operand) (args : List Operand) (f : Nat) (sel : List Nat) (args0 : List SV) (H0 : HL) (ret : SV) (H1 : HL) (k : K1) : Prop :=
  (match ev R x with
    | some (.fn g caps) => match evs R args with
      | some zs => g = f ∧ renL sel args0 = some (zs ++ caps)
      | none => False
    | _ => False) ∧ okH sel H sel H0 ∧ renHs (sel ++ newSel L (H1.length - H0.length)) H1 H1r ∧ renV (sel ++ newSel L (H1.length - H0.length)) ret = some z ∧
  match Nat.beq sel.length H0.length with
  | true => match dupOk sel 0 sel H0 with
    | true => match cWp (sel ++ newSel L (H1.length - H0.length)) H0 H1r with
      | some W => k (some z) W sel (L + (H1.length - H0.length))
      | none => False
    | false => False
  | false => False

theorem ok1_callE {P : Program} {o : Oper} {R : RL} {H : HL} {L : Nat} {k : K1} {x : Operand} {args : Array Operand} {tys : Array TypeId} {f : Nat} {args0 : List SV} {H0 H1 : HL} {ret : SV} (sel : List Nat) (H1r : HL) (z : SV)
    (hc : SCall P f args0 H0 ret H1) (ho : o.op = .call ⟨.value x, args, tys⟩) (hle : Nat.ble H.length L = true) (h : sopCallE H1r z R H L x args.toList f sel args0 H0 ret H1 k) : Ok1 P o R H L k := by
  obtain ⟨h1, h2, hp, hr, h3⟩ := h
  refine ok1_call sel hc ho hle ⟨h1, h2, ?_⟩
  cases hl : Nat.beq sel.length H0.length with
  | false => rw [hl] at h3; exact h3.elim
  | true =>
    rw [hl] at h3
    simp only at h3 ⊢
    cases hd : dupOk sel 0 sel H0 with
    | false => rw [hd] at h3; exact h3.elim
    | true =>
      rw [hd] at h3
      simp only at h3 ⊢
      cases hw : cWp (sel ++ newSel L (H1.length - H0.length)) H0 H1r with
      | none => rw [hw] at h3; exact h3.elim
      | some W =>
        rw [hw] at h3
        rw [cW_renHs _ _ _ _ _ hp hw]
        simp only [hr]
        exact h3
end Go.Sh
/- clear, of a slice of one-cell values. -/
namespace Go.Sh
section
variable {P : Program} {ρ : Ren} {H : Heap} {w : World}

theorem zeroCells_one (v : Value) (n : Nat) : (Builtin.zeroCells #[v] n).toList = List.replicate n v := by
  apply List.ext_getElem?
  intro j
  unfold Builtin.zeroCells
  by_cases h : j < n
  · simp [h, Nat.mod_one]
  · simp [h]

theorem clear_ok {o : Oper} {x : Operand} {t el id k n : Nat} {full : Bool} {b : SB} {z : SV} {rb : RB} {e : Operand → Value} (ho : o.op = .call { callee := .builtin .clear, args := #[x], argTypes := #[t] })
    (hT : P.underlying t = some (.slice el)) (hz : pzero P el = some z) (hza : z.atom = true) (hx : Rel ρ (.sl id k n 1 full) (e x)) (hid : H id = some b) (hr : ρ id = some rb) (hb : BRel ρ w rb b) (hown : b.own = true) (hin : k + n ≤ b.cells.length)
    (h0 : 0 < b.cells.length) :
    ∃ w', (execOp e o).run P w = .ok (.value (.tuple #[])) w' ∧ Chg ρ H w [(id, some (b.with (sput b.cells k (.agg (List.replicate n z)))))] ρ w' := by
  obtain ⟨zv, hzv, hzr, _⟩ := run_zero (w := w) hz
  have hrel : Rel ρ (.agg (List.replicate n z)) (.agg ⟨List.replicate n zv⟩) := by
    simp only [Rel]
    refine ⟨_, rfl, ?_, Rels.replicate (hzr ρ) n⟩
    simp only [atoms, List.all_eq_true]
    exact fun y hy => by rw [(List.mem_replicate.1 hy).2]; exact hza
  obtain ⟨p1, p2, p3⟩ := hb.put (k := k) hown hrel (by simp) (by simpa [SV.cells] using hin) h0
  simp only [Rel] at hx
  obtain ⟨rb', a, cap, hr', he, hnc, hfull, hdis⟩ := hx
  rw [hr] at hr'; cases hr'
  have hzc : zv.cells = #[zv] := (hzr ρ).cells hza
  have hclear : ∀ w', (match a with | some a => if n = 0 then Result.ok () w else (storeCells a (List.replicate n zv)).run P w | none => Result.ok () w) = .ok () w' → (execOp e o).run P w = .ok (.value (.tuple #[])) w' := fun w' hst => by
    simp only [execOp, ho, resolve, invoke, builtin, Sem.run_bind, Sem.run_pure, Result.andThen_ok, List.map_toArray, List.map_cons, List.map_nil, Builtin.clear_, List.getElem?_toArray, List.getElem?_cons_zero, run_und hT, he]
    cases a with
    | none => simp only at hst; cases hst; rfl
    | some a =>
      cases n with
      | zero => simp only [if_true] at hst; cases hst; rfl
      | succ n =>
        simp only [Nat.add_one_ne_zero, if_false] at hst
        simp only [Sem.run_bind, hzv, Result.andThen_ok, hzc, zeroCells_one, hst, Sem.run_pure]
  by_cases hz0 : n = 0
  · subst hz0
    refine ⟨w, hclear w ?_, ?_⟩
    · cases a <;> rfl
    · have : World.putCells w rb.blk (rb.off + k) (Value.cells (.agg ⟨List.replicate 0 zv⟩)).toList = w := putCells_nil w _ _
      rw [this] at p1 p2
      exact Chg.put hid hr hown p3 p1 p2
  · obtain ⟨hv, ha2, hcapb⟩ := hdis.resolve_left (by omega)
    obtain ⟨⟨ca, ty, fz, hca, _, hrl, hzz, hsz⟩, _⟩ := hb.cellsAt h0
    rw [hown] at hzz
    have hst := run_puts (P := P) (o := rb.off + k) (List.replicate n zv) 0 hca (hzz rfl) (by have := hrl.length; simp at this ⊢; omega) (fun v hv => by rw [(List.mem_replicate.1 hv).2]; exact (hzr ρ).oneCell hza)
    exact ⟨_, hclear _ (by rw [ha2]; simp only [hz0, if_false]; exact hst), Chg.put hid hr hown p3 p1 p2⟩
end
theorem lt_clear {P : Program} {H : Heap} {o : Oper} {R : Env} {x : Operand} {t el n id k : Nat} {full : Bool} {b : SB} {z : SV} (ho : o.op = .call { callee := .builtin .clear, args := #[x], argTypes := #[t] })
    (hT : P.underlying t = some (.slice el)) (hz : pzero P el = some z) (hza : z.atom = true) (hx : evO R x = some (.sl id k n 1 full)) (hid : H id = some b) (hown : b.own = true) (hin : k + n ≤ b.cells.length) (h0 : 0 < b.cells.length) :
    LT P o R H [id] [(id, some (b.with (sput b.cells k (.agg (List.replicate n z)))))] (some (.tup [])) := by
  refine LT.of_run (by simp [ho]) fun e w ρ h1 h2 _ hfresh => ?_
  have hx2 := h1 x (by simp [ho, Op.operands, Call.operands]) _ hx
  obtain ⟨rb, hr, hbr⟩ := h2 id (by simp) _ hid
  obtain ⟨w', a1, a2⟩ := clear_ok (w := w) (H := H) ho hT hz hza hx2 hid hr hbr hown hin h0
  exact ⟨_, w', ρ, a1, a2, .inl ⟨_, rfl, fun u hu => by cases hu; simp only [Rel]; exact ⟨[], rfl, by simp only [Rels]⟩⟩⟩

/-- clear, in a walk. -/
theorem ok1_clear {P : Program} {o : Oper} {R : RL} {H : HL} {L : Nat} {k : K1} {x : Operand} {t : Nat} (el id off n e : Nat) (full : Bool) (l : List SV) (z : SV) (ho : o.op = .call { callee := .builtin .clear, args := #[x], argTypes := #[t] })
    (hT : P.underlying t = some (.slice el)) (hz : pzero P el = some z) (hza : z.atom = true) (hx : ev R x = some (.sl id off n 1 full)) (hid : hk H id = some (.row e l)) (hin : off + n ≤ l.length) (h0 : 0 < l.length) (hl : H.length ≤ L)
    (h : k (some (.tup [])) [(id, some (.row e (sput l off (.agg (List.replicate n z)))))] [id] L) : Ok1 P o R H L k :=
  ok1_put (hk_lt hl hid) (by simp) (lt_clear ho hT hz hza (ev_some hx) (hk_some hid) rfl hin h0) h
end Go.Sh
/- A range over a function, its round's code under names. -/
namespace Go.Sh
theorem range_named {P : Program} {N A : Nat} {g : Operand} {ps : List Nat} {as_ bd : Code} {Q : Exit → RL → HL → Nat → Prop} {R : RL} {H : HL} {L : Nat} {gf : Nat} {caps : List SV} {fn : Func} {c : Code}
    (hg0 : ev R g = some (.fn gf caps)) (hle : Nat.ble H.length L = true) (hA : Nat.ble A L = true) (hf : P.funcs[gf]? = some fn) (hb : fn.body = some c) (hnm : (fn.name == "runtime.NumGoroutine") = false) (hres : fn.results = #[]) (hnt : Nat.ble (caps.length + 1) fn.ntmps = true)
    (hwalk : ∀ a b, a = as_ → b = bd → SWp P (· = none) fn.ntmps (L + 1) c (rangeQ L R Q) (regs 0 (.yld L :: caps)) (hput H L (some (.obj (.loop R N ps a b)))) (L + 1)) :
    SWp P (· = none) N A (.rangeFunc g ⟨ps⟩ as_ bd) Q R H L := range_rule hg0 hle hA hf hb hnm hres hnt (hwalk _ _ rfl rfl)
end Go.Sh
/- gcm: small functions. -/
namespace Go.Sh
open Go.Proofs
set_option maxHeartbeats 4000000
set_option linter.unusedSimpArgs false

theorem f107 (x : UInt64) : SCall Try.prog 107 [.u64 x] [] (.u64 (rvb64 x)) [] := by
  refine scall_of ttOk (by kernel_rfl : Try.prog.funcs[107]? = some Try.f107) rfl rfl rfl ?_
  refine sw_ok ttOk mixed (by kernel_rfl) ?_
  conv => whnf
  repeat (fail)
  refine ⟨[], ?_, rfl, rfl, ?_, rfl⟩
  · (repeat' (fail)) <;> first | rfl | fail
  · (repeat' (first | exact trivial | fail)) <;> fail
theorem f103 (x : UInt64) : SCall Try.prog 103 [.u64 x] [] (.u64 (rev64 x)) [] := by
  refine scall_of ttOk (by kernel_rfl : Try.prog.funcs[103]? = some Try.f103) rfl rfl rfl ?_
  refine sw_ok ttOk mixed (by kernel_rfl) ?_
  conv => whnf
  repeat (fail)
  refine ok1_callP [] (f107 (swp 4 1085102592571150095 (swp 2 3689348814741910323 (swp 1 6148914691236517205 x)))) rfl rfl ⟨⟨rfl, by first | rfl | fail⟩, trivial, by first | rfl | fail, ?_⟩
  conv => whnf
  repeat (fail)
  refine ⟨[], ?_, rfl, rfl, ?_, rfl⟩
  · (repeat' (fail)) <;> first | rfl | fail
  · (repeat' (first | exact trivial | fail)) <;> fail
theorem f91 (a b c d : UInt64) : SCall Try.prog 91 [.agg [.u64 a, .u64 b], .agg [.u64 c, .u64 d]] [] (.agg [.u64 (a ^^^ c), .u64 (b ^^^ d)]) [] := by
  refine scall_of ttOk (by kernel_rfl : Try.prog.funcs[91]? = some Try.f91) rfl rfl rfl ?_
  refine sw_ok ttOk mixed (by kernel_rfl) ?_
  conv => whnf
  repeat (first | (refine Exists.intro _ (And.intro (sload_all rfl (by first | rfl | fail)) ?_); conv => whnf) | (refine Exists.intro _ (And.intro (sput_all rfl (by first | rfl | fail)) ?_); conv => whnf) | (refine Exists.intro _ (And.intro rfl ?_); conv => whnf) | (refine And.intro (by first | (simp; done) | fail) ?_; conv => whnf) | fail)
  refine ⟨[], ?_, rfl, rfl, ?_, rfl⟩
  · (repeat' (first | (refine wk_agg ?_) | (refine wk_cons ?_ ?_))) <;> first | rfl | fail
  · (repeat' (first | exact trivial | fail)) <;> fail
end Go.Sh
/- ctr: the next counter, plainly. -/
namespace Go.Sh
open Go.Proofs
set_option maxHeartbeats 8000000
set_option linter.unusedSimpArgs false

def inc4 (a b c d : UInt8) : List UInt8 :=
  if d + 1 ≠ 0 then [a, b, c, d + 1] else if c + 1 ≠ 0 then [a, b, c + 1, d + 1] else if b + 1 ≠ 0 then [a, b + 1, c + 1, d + 1] else [a + 1, b + 1, c + 1, d + 1]
/-- The next counter. -/
def nextC (l : List UInt8) : List UInt8 := l.take 12 ++ inc4 (l.getD 12 0) (l.getD 13 0) (l.getD 14 0) (l.getD 15 0)
theorem inc4_len (a b c d : UInt8) : (inc4 a b c d).length = 4 := by unfold inc4; split <;> (try split) <;> (try split) <;> rfl
theorem nextC_len {l : List UInt8} (h : l.length = 16) : (nextC l).length = 16 := by unfold nextC; rw [List.length_append, inc4_len]; simp; omega

/-- A counter's number. -/
def cnum (a b c d : UInt8) : Nat := ((a.toNat * 256 + b.toNat) * 256 + c.toNat) * 256 + d.toNat
def cbyt (n : Nat) : List UInt8 := [UInt8.ofNat (n / 16777216), UInt8.ofNat (n / 65536 % 256), UInt8.ofNat (n / 256 % 256), UInt8.ofNat (n % 256)]
theorem u8_p1 (x : UInt8) : (x + 1).toNat = (x.toNat + 1) % 256 := by rw [UInt8.toNat_add]; rfl
theorem u8_nz (x : UInt8) : x + 1 ≠ 0 ↔ x.toNat ≠ 255 := by
  have hx : x.toNat < 256 := UInt8.toNat_lt _
  constructor
  · intro h e; apply h; apply UInt8.toNat_inj.mp; rw [u8_p1, e]; rfl
  · intro h e; have := congrArg UInt8.toNat e; rw [u8_p1] at this; simp at this; omega
theorem inc4_num (a b c d : UInt8) : inc4 a b c d = cbyt ((cnum a b c d + 1) % 4294967296) := by
  have ha : a.toNat < 256 := UInt8.toNat_lt _
  have hb : b.toNat < 256 := UInt8.toNat_lt _
  have hc : c.toNat < 256 := UInt8.toNat_lt _
  have hd : d.toNat < 256 := UInt8.toNat_lt _
  have e : ∀ (x : UInt8) (n : Nat), x.toNat = n % 256 → x = UInt8.ofNat n := fun x n h => by apply UInt8.toNat_inj.mp; rw [h]; simp
  unfold inc4 cbyt cnum
  simp only [u8_nz]
  split
  · simp only [List.cons.injEq, and_true]
    refine ⟨e _ _ ?_, e _ _ ?_, e _ _ ?_, e _ _ ?_⟩ <;> (try rw [u8_p1]) <;> omega
  · split
    · simp only [List.cons.injEq, and_true]
      refine ⟨e _ _ ?_, e _ _ ?_, e _ _ ?_, e _ _ ?_⟩ <;> (try rw [u8_p1]) <;> omega
    · split
      · simp only [List.cons.injEq, and_true]
        refine ⟨e _ _ ?_, e _ _ ?_, e _ _ ?_, e _ _ ?_⟩ <;> (try rw [u8_p1]) <;> omega
      · simp only [List.cons.injEq, and_true]
        refine ⟨e _ _ ?_, e _ _ ?_, e _ _ ?_, e _ _ ?_⟩ <;> (try rw [u8_p1]) <;> omega
end Go.Sh
namespace Go.Sh
open Go.Proofs

theorem f85 (x : UInt8) : SCall Try.prog 85 [.u8 x] [] (.u8 (shl8 x 1 ^^^ (shr8 x 7 * 27))) [] := by
  refine scall_of ttOk (by kernel_rfl : Try.prog.funcs[85]? = some Try.f85) rfl rfl rfl ?_
  refine sw_ok ttOk mixed rfl ?_
  conv => whnf
  exact ⟨[], rfl, rfl, rfl, trivial, rfl⟩
end Go.Sh
/- aes.logs, aes.box, aes.S, walked. -/
namespace Go.Sh
open Go.Proofs
set_option maxHeartbeats 4000000
set_option linter.unusedSimpArgs false

def dbl (x : UInt8) : UInt8 := shl8 x 1 ^^^ (shr8 x 7 * 27)
/-- How far the powers of 3 have come. -/
def lgSt : Nat → UInt8 × List UInt8 × List Int
  | 0 => (1, List.replicate 255 0, List.replicate 256 0)
  | i + 1 => ((lgSt i).1 ^^^ dbl (lgSt i).1, (lgSt i).2.1.set i (lgSt i).1, (lgSt i).2.2.set (lgSt i).1.toNat (i : Int))

theorem lgSt_len : ∀ i, (lgSt i).2.1.length = 255 ∧ (lgSt i).2.2.length = 256
  | 0 => ⟨List.length_replicate, List.length_replicate⟩
  | i + 1 => by
    have h := lgSt_len i
    exact ⟨(List.length_set ..).trans h.1, (List.length_set ..).trans h.2⟩
theorem lg1 (i : Nat) : (lgSt (i + 1)).1 = (lgSt i).1 ^^^ dbl (lgSt i).1 := rfl
theorem lg2 (i : Nat) : (lgSt (i + 1)).2.1 = (lgSt i).2.1.set i (lgSt i).1 := rfl
theorem lg3 (i : Nat) : (lgSt (i + 1)).2.2 = (lgSt i).2.2.set (lgSt i).1.toNat (i : Int) := rfl
theorem lg0 : lgSt 0 = (1, List.replicate 255 0, List.replicate 256 0) := rfl
attribute [irreducible] lgSt

theorem f100 : SCall Try.prog 100 [] [] (.tup [.agg ((lgSt 255).2.1.map .u8), .agg ((lgSt 255).2.2.map .i)]) [] := by
  refine scall_of ttOk (by kernel_rfl : Try.prog.funcs[100]? = some Try.f100) rfl rfl rfl ?_
  refine sw_ok ttOk mixed (by kernel_rfl) ?_
  conv => whnf
  repeat (fail)
  refine loop_rule ttOk mixed (by kernel_rfl) (ι := { i : Nat // i ≤ 255 }) (fun i => [(0, .p 0 0), (1, .p 1 0), (2, .u8 (lgSt i.1).1), (4, .i (i.1 : Int))]) (fun i => [some (.box ((lgSt i.1).2.1.map .u8)), some (.box ((lgSt i.1).2.2.map .i))]) (fun _ => 2) (fun i => 255 - i.1) ⟨0, by omega⟩ ?_ ?_
  · refine Weak.sel [0, 1] rfl rfl ⟨rfl, rfl, ?_, rfl, trivial⟩ ⟨?_, ?_, trivial⟩ rfl rfl
    · show renV _ (.u8 (lgSt 0).1) = _
      rw [lg0]; rfl
    · show renL _ ((lgSt 0).2.1.map .u8) = some (List.replicate 255 (.u8 0))
      rw [lg0]; exact ren_z8
    · show renL _ ((lgSt 0).2.2.map .i) = some (List.replicate 256 (.i 0))
      rw [lg0]; exact ren_zi
  · rintro ⟨i, hi⟩
    obtain ⟨l1, l2⟩ := lgSt_len i
    dsimp only
    conv => whnf
    refine ⟨fun hc => ?_, fun hc => ?_⟩
    · have hi2 : i < 255 := by simp at hc; omega
      have hx : (lgSt i).1.toNat < 256 := UInt8.toNat_lt _
      have hw : w64 ((i : Int) + 1) = ((i + 1 : Nat) : Int) := by simp only [w64_eq]; omega
      have g2 := lg2 i
      have g3 := lg3 i
      conv => whnf
      repeat (first | (refine Exists.intro _ (And.intro (sput_m8 (i := i) (by first | rfl | (simp; done))) ?_); conv => whnf) | (refine Exists.intro _ (And.intro (idx_i (m := i) (by first | rfl)) ?_); conv => whnf) | (refine Exists.intro _ (And.intro rfl ?_); conv => whnf) | (refine And.intro (by first | omega | (simp; omega)) ?_; conv => whnf))
      refine ok1_callP [] (f85 (lgSt i).1) rfl rfl ⟨⟨rfl, by first | rfl⟩, trivial, by first | rfl, ?_⟩
      conv => whnf
      repeat (fail)
      refine ⟨⟨i + 1, by omega⟩, by simp only; omega, ?_⟩
      refine Weak.sel [0, 1] rfl rfl ?_ ?_ rfl rfl
      · (repeat' (first | exact trivial | refine And.intro ?_ ?_)) <;> first | rfl | exact wk_i (by first | rfl | exact hw.symm) | exact wk_u8 (by first | (simp [hw, lg1, dbl, g2, g3]; done))
      · (repeat' (first | exact trivial | refine And.intro ?_ ?_)) <;> first | exact ren_eq (by first | (simp; done)) (by first | (simp [hw, lg1, dbl, g2, g3]; done))
    · have hi2 : i = 255 := by simp at hc; omega
      subst hi2
      conv => whnf
      repeat (first | (refine Exists.intro _ (And.intro (sload_all rfl (by first | rfl | (simp [l1, l2]; done))) ?_); conv => whnf) | (refine Exists.intro _ (And.intro (sput_all rfl (by first | rfl)) ?_); conv => whnf) | (refine And.intro (by first | omega | (simp; omega)) ?_; conv => whnf) | (refine And.intro (by kernel_rfl) ?_; conv => whnf))
      refine ⟨[], ?_, rfl, rfl, ?_, rfl⟩
      · (repeat' (first | (refine wk_tup ?_) | (refine wk_agg ?_) | (refine wk_cons ?_ ?_))) <;> first | rfl | exact ren_eq (by first | (simp; done)) (by first | rfl)
      · (repeat' (first | exact trivial)) <;> fail
end Go.Sh
/- aes.box, aes.S, walked. -/
namespace Go.Sh
open Go.Proofs
set_option maxHeartbeats 4000000
set_option maxRecDepth 100000
set_option linter.unusedSimpArgs false

def pwL : List UInt8 := [1, 3, 5, 15, 17, 51, 85, 255, 26, 46, 114, 150, 161, 248, 19, 53, 95, 225, 56, 72, 216, 115, 149, 164, 247, 2, 6, 10, 30, 34, 102, 170, 229, 52, 92, 228, 55, 89, 235, 38, 106, 190, 217, 112, 144, 171, 230, 49, 83, 245, 4, 12, 20, 60, 68, 204, 79, 209, 104, 184, 211, 110, 178, 205, 76, 212, 103, 169, 224, 59, 77, 215, 98, 166, 241, 8, 24, 40, 120, 136, 131, 158, 185, 208, 107, 189, 220, 127, 129, 152, 179, 206, 73, 219, 118, 154, 181, 196, 87, 249, 16, 48, 80, 240, 11, 29, 39, 105, 187, 214, 97, 163, 254, 25, 43, 125, 135, 146, 173, 236, 47, 113, 147, 174, 233, 32, 96, 160, 251, 22, 58, 78, 210, 109, 183, 194, 93, 231, 50, 86, 250, 21, 63, 65, 195, 94, 226, 61, 71, 201, 64, 192, 91, 237, 44, 116, 156, 191, 218, 117, 159, 186, 213, 100, 172, 239, 42, 126, 130, 157, 188, 223, 122, 142, 137, 128, 155, 182, 193, 88, 232, 35, 101, 175, 234, 37, 111, 177, 200, 67, 197, 84, 252, 31, 33, 99, 165, 244, 7, 9, 27, 45, 119, 153, 176, 203, 70, 202, 69, 207, 74, 222, 121, 139, 134, 145, 168, 227, 62, 66, 198, 81, 243, 14, 18, 54, 90, 238, 41, 123, 141, 140, 143, 138, 133, 148, 167, 242, 13, 23, 57, 75, 221, 124, 132, 151, 162, 253, 28, 36, 108, 180, 199, 82, 246]
def lgL : List Int := [0, 0, 25, 1, 50, 2, 26, 198, 75, 199, 27, 104, 51, 238, 223, 3, 100, 4, 224, 14, 52, 141, 129, 239, 76, 113, 8, 200, 248, 105, 28, 193, 125, 194, 29, 181, 249, 185, 39, 106, 77, 228, 166, 114, 154, 201, 9, 120, 101, 47, 138, 5, 33, 15, 225, 36, 18, 240, 130, 69, 53, 147, 218, 142, 150, 143, 219, 189, 54, 208, 206, 148, 19, 92, 210, 241, 64, 70, 131, 56, 102, 221, 253, 48, 191, 6, 139, 98, 179, 37, 226, 152, 34, 136, 145, 16, 126, 110, 72, 195, 163, 182, 30, 66, 58, 107, 40, 84, 250, 133, 61, 186, 43, 121, 10, 21, 155, 159, 94, 202, 78, 212, 172, 229, 243, 115, 167, 87, 175, 88, 168, 80, 244, 234, 214, 116, 79, 174, 233, 213, 231, 230, 173, 232, 44, 215, 117, 122, 235, 22, 11, 245, 89, 203, 95, 176, 156, 169, 81, 160, 127, 12, 246, 111, 23, 196, 73, 236, 216, 67, 31, 45, 164, 118, 123, 183, 204, 187, 62, 90, 251, 96, 177, 134, 59, 82, 161, 108, 170, 85, 41, 157, 151, 178, 135, 144, 97, 190, 220, 252, 188, 149, 207, 205, 55, 63, 91, 209, 83, 57, 132, 60, 65, 162, 109, 71, 20, 42, 158, 93, 86, 242, 211, 171, 68, 17, 146, 217, 35, 32, 46, 137, 180, 124, 184, 38, 119, 153, 227, 165, 103, 74, 237, 222, 197, 49, 254, 24, 13, 99, 140, 128, 192, 247, 112, 7]
def sbx : List UInt8 := [99, 124, 119, 123, 242, 107, 111, 197, 48, 1, 103, 43, 254, 215, 171, 118, 202, 130, 201, 125, 250, 89, 71, 240, 173, 212, 162, 175, 156, 164, 114, 192, 183, 253, 147, 38, 54, 63, 247, 204, 52, 165, 229, 241, 113, 216, 49, 21, 4, 199, 35, 195, 24, 150, 5, 154, 7, 18, 128, 226, 235, 39, 178, 117, 9, 131, 44, 26, 27, 110, 90, 160, 82, 59, 214, 179, 41, 227, 47, 132, 83, 209, 0, 237, 32, 252, 177, 91, 106, 203, 190, 57, 74, 76, 88, 207, 208, 239, 170, 251, 67, 77, 51, 133, 69, 249, 2, 127, 80, 60, 159, 168, 81, 163, 64, 143, 146, 157, 56, 245, 188, 182, 218, 33, 16, 255, 243, 210, 205, 12, 19, 236, 95, 151, 68, 23, 196, 167, 126, 61, 100, 93, 25, 115, 96, 129, 79, 220, 34, 42, 144, 136, 70, 238, 184, 20, 222, 94, 11, 219, 224, 50, 58, 10, 73, 6, 36, 92, 194, 211, 172, 98, 145, 149, 228, 121, 231, 200, 55, 109, 141, 213, 78, 169, 108, 86, 244, 234, 101, 122, 174, 8, 186, 120, 37, 46, 28, 166, 180, 198, 232, 221, 116, 31, 75, 189, 139, 138, 112, 62, 181, 102, 72, 3, 246, 14, 97, 53, 87, 185, 134, 193, 29, 158, 225, 248, 152, 17, 105, 217, 142, 148, 155, 30, 135, 233, 206, 85, 40, 223, 140, 161, 137, 13, 191, 230, 66, 104, 65, 153, 45, 15, 176, 84, 187, 22]
theorem pw_eq : (lgSt 255).2.1 = pwL := by kernel_rfl
theorem lg_eq : (lgSt 255).2.2 = lgL := by kernel_rfl
theorem lg_all : lgL.all (fun n => decide (0 ≤ n ∧ n ≤ 254)) = true := by kernel_rfl
theorem pwL_len : pwL.length = 255 := by kernel_rfl
theorem lgL_len : lgL.length = 256 := by kernel_rfl
theorem sbx_len : sbx.length = 256 := by kernel_rfl
def rot1 (y : UInt8) : UInt8 := shl8 y 1 ||| shr8 y 7
def aff (y : UInt8) : UInt8 := 99 ^^^ y ^^^ rot1 y ^^^ rot1 (rot1 y) ^^^ rot1 (rot1 (rot1 y)) ^^^ rot1 (rot1 (rot1 (rot1 y)))
def binv (i : Nat) : UInt8 := if 0 < i then pwL.getD ((255 - (lgL.getD i 0).toNat) % 255) 0 else 0
def bxSt : Nat → List UInt8
  | 0 => List.replicate 256 0
  | i + 1 => (bxSt i).set i (aff (binv i))
theorem bx_eq : bxSt 256 = sbx := by kernel_rfl
theorem bxSt_len : ∀ i, (bxSt i).length = 256
  | 0 => List.length_replicate
  | i + 1 => (List.length_set ..).trans (bxSt_len i)
theorem bx1 (i : Nat) : bxSt (i + 1) = (bxSt i).set i (aff (binv i)) := rfl
theorem bx0 : bxSt 0 = List.replicate 256 0 := rfl
attribute [irreducible] bxSt pwL lgL sbx

theorem lg_lt (i : Nat) (h : i < 256) : ∃ v : Nat, lgL.getD i 0 = (v : Int) ∧ v ≤ 254 := by
  have hm := List.all_eq_true.1 lg_all (lgL.getD i 0) (by
    rw [List.getD_eq_getElem?_getD, List.getElem?_eq_getElem (by rw [lgL_len]; exact h)]
    exact List.getElem_mem _)
  simp only [decide_eq_true_eq] at hm
  exact ⟨(lgL.getD i 0).toNat, by omega, by omega⟩

theorem f80 : SCall Try.prog 80 [] [] (.agg (sbx.map .u8)) [] := by
  have h100 := f100
  rw [pw_eq, lg_eq] at h100
  have lp := pwL_len
  have ll := lgL_len
  refine scall_of ttOk (by kernel_rfl : Try.prog.funcs[80]? = some Try.f80) rfl rfl rfl ?_
  refine sw_ok ttOk mixed (by kernel_rfl) ?_
  conv => whnf
  repeat (fail)
  refine ok1_callF [] [true, true, true, true, true, true, true, true, true, true, true, true] true (h100) rfl rfl ⟨⟨rfl, by first | rfl⟩, trivial, by first | rfl, by first | simp [plainRf, plainR, plainT, plainW], ?_⟩
  conv => whnf
  repeat (first | (refine Exists.intro _ (And.intro (sput_all rfl (by first | rfl | (simp; omega))) ?_); conv => whnf) | (refine And.intro (by first | omega | (simp; omega)) ?_; conv => whnf))
  refine loop_rule ttOk mixed (by kernel_rfl) (ι := { i : Nat // i ≤ 256 }) (fun i => [(0, .p 0 0), (1, .p 1 0), (2, .p 2 0), (3, .p 3 0), (11, .i (i.1 : Int))]) (fun i => [some (.box (List.replicate 256 (.u8 0))), some (.box (pwL.map .u8)), some (.box (lgL.map .i)), some (.box ((bxSt i.1).map .u8))]) (fun _ => 4) (fun i => 256 - i.1) ⟨0, by omega⟩ ?_ ?_
  · refine Weak.sel [0, 1, 2, 3] rfl rfl ?_ ?_ rfl rfl
    · (repeat' (first | exact trivial | refine And.intro ?_ ?_)) <;> first | rfl
    · (repeat' (first | exact trivial | refine And.intro ?_ ?_ | (refine wk_cons ?_ ?_))) <;> first | rfl | exact ren_eq (by first | (simp; done)) (by first | rfl | (simp [bx0, pwL_len, lgL_len]; done))
  · rintro ⟨i, hi⟩
    have l3 := bxSt_len i
    dsimp only
    conv => whnf
    refine ⟨fun hc => ?_, fun hc => ?_⟩
    · have hi2 : i < 256 := by simp at hc; omega
      have hw : w64 ((i : Int) + 1) = ((i + 1 : Nat) : Int) := by simp only [w64_eq]; omega
      obtain ⟨v, hv, hv2⟩ := lg_lt i hi2
      have hw2 : (w64 (255 - lgL.getD i 0)).tmod 255 = (((255 - v) % 255 : Nat) : Int) := by
        rw [hv, w64_of (by omega) (by omega)]
        rw [Int.tmod_eq_emod_of_nonneg (by omega)]; omega
      have hb := bx1 i
      by_cases h0 : 0 < i
      · have hbi : binv i = pwL.getD ((255 - v) % 255) 0 := by unfold binv; first | (rw [if_pos h0, hv]; rfl)
        rw [hbi] at hb
        conv => whnf
        refine brT (by simp; omega) ?_
        conv => whnf
        repeat (first | (refine Exists.intro _ (And.intro (idx_i (m := i) (by first | rfl)) ?_); conv => whnf) | (refine Exists.intro _ (And.intro (sload_i (i := i) (by first | rfl | (simp; done)) (by first | omega)) ?_); conv => whnf) | (refine Exists.intro _ (And.intro (sload_u8 (i := (255 - v) % 255) (by first | rfl | (simp; done)) (by first | omega)) ?_); conv => whnf) | (refine Exists.intro _ (And.intro (idx_i (m := (255 - v) % 255) (by first | rfl | omega)) ?_); conv => whnf) | (refine Exists.intro _ (And.intro rfl ?_); conv => whnf) | (refine And.intro (by first | omega) ?_; conv => whnf))
        obtain ⟨y, hy⟩ : ∃ y, y = pwL.getD ((255 - v) % 255) 0 := ⟨_, rfl⟩
        refine loop_rounds ttOk mixed (by kernel_rfl) 6 ?_
        conv => whnf
        repeat (first | (refine brT rfl ?_; conv => whnf) | (refine brF rfl ?_; conv => whnf) | (refine Exists.intro _ (And.intro (sput_m8 (i := i) (by first | rfl | (simp; done))) ?_); conv => whnf) | (refine Exists.intro _ (And.intro (idx_i (m := i) (by first | rfl)) ?_); conv => whnf) | (refine And.intro (by first | omega | (simp; omega)) ?_; conv => whnf))
        refine ⟨⟨i + 1, by omega⟩, by simp only; omega, ?_⟩
        refine Weak.sel [0, 1, 2, 3] rfl rfl ?_ ?_ rfl rfl
        · (repeat' (first | exact trivial | refine And.intro ?_ ?_)) <;> first | rfl | exact wk_i (by first | exact hw.symm)
        · (repeat' (first | exact trivial | refine And.intro ?_ ?_ | (refine wk_cons ?_ ?_))) <;> first | rfl | exact ren_eq (by first | (simp; done)) (by first | rfl | (simp [hw, hb, aff, rot1]; done))
      · have hbi : binv i = 0 := by unfold binv; first | rw [if_neg h0]
        rw [hbi] at hb
        conv => whnf
        refine brF (by simp; omega) ?_
        conv => whnf
        repeat (fail)
        obtain ⟨y, hy⟩ : ∃ y, y = 0 := ⟨_, rfl⟩
        refine loop_rounds ttOk mixed (by kernel_rfl) 6 ?_
        conv => whnf
        repeat (first | (refine brT rfl ?_; conv => whnf) | (refine brF rfl ?_; conv => whnf) | (refine Exists.intro _ (And.intro (sput_m8 (i := i) (by first | rfl | (simp; done))) ?_); conv => whnf) | (refine Exists.intro _ (And.intro (idx_i (m := i) (by first | rfl)) ?_); conv => whnf) | (refine And.intro (by first | omega | (simp; omega)) ?_; conv => whnf))
        refine ⟨⟨i + 1, by omega⟩, by simp only; omega, ?_⟩
        refine Weak.sel [0, 1, 2, 3] rfl rfl ?_ ?_ rfl rfl
        · (repeat' (first | exact trivial | refine And.intro ?_ ?_)) <;> first | rfl | exact wk_i (by first | exact hw.symm)
        · (repeat' (first | exact trivial | refine And.intro ?_ ?_ | (refine wk_cons ?_ ?_))) <;> first | rfl | exact ren_eq (by first | (simp; done)) (by first | rfl | (simp [hw, hb, aff, rot1]; done))
    · have hi2 : i = 256 := by simp at hc; omega
      subst hi2
      conv => whnf
      repeat (first | (refine Exists.intro _ (And.intro (sload_all rfl (by first | rfl | (simp [l3]; done))) ?_); conv => whnf) | (refine Exists.intro _ (And.intro (sput_all rfl (by first | rfl | (simp [l3]; done))) ?_); conv => whnf) | (refine And.intro (by first | omega | (simp; omega)) ?_; conv => whnf))
      rw [bx_eq]
      refine ⟨[], ?_, rfl, rfl, ?_, rfl⟩
      · (repeat' (first | (refine wk_agg ?_))) <;> first | exact ren_eq (by first | (simp; done)) (by first | rfl)
      · (repeat' (first | exact trivial)) <;> fail

def sb (x : UInt8) : UInt8 := sbx.getD x.toNat 0

theorem f43 (x : UInt8) : SCall Try.prog 43 [.u8 x] [] (.u8 (sb x)) [] := by
  have hl := sbx_len
  have hx : x.toNat < 256 := UInt8.toNat_lt _
  refine scall_of ttOk (by kernel_rfl : Try.prog.funcs[43]? = some Try.f43) rfl rfl rfl ?_
  refine sw_ok ttOk mixed (by kernel_rfl) ?_
  conv => whnf
  repeat (fail)
  refine ok1_callF [] [true, true, true, true, true, true, true, true, true, true, true, true] true (f80) rfl rfl ⟨⟨rfl, by first | rfl⟩, trivial, by first | rfl, by first | simp [plainRf, plainR, plainT, plainW], ?_⟩
  conv => whnf
  repeat (first | (refine Exists.intro _ (And.intro (sput_all rfl (by first | rfl | (simp [hl]; done))) ?_); conv => whnf) | (refine Exists.intro _ (And.intro (sload_u8 (i := x.toNat) (by first | rfl | (simp; done)) (by first | omega)) ?_); conv => whnf) | (refine Exists.intro _ (And.intro rfl ?_); conv => whnf) | (refine And.intro (by first | omega | (simp; omega)) ?_; conv => whnf))
  refine ⟨[], ?_, rfl, rfl, ?_, rfl⟩
  · (repeat' (fail)) <;> first | rfl
  · (repeat' (first | exact trivial)) <;> fail
end Go.Sh
/- aes: columns; a cipher's columns. -/
namespace Go.Sh
open Go.Proofs
set_option maxHeartbeats 4000000
set_option linter.unusedSimpArgs false

/-- A cipher in memory: its box and its columns. -/
def ciB (n : Nat) (fl : Bool) : SB := .ro (sbx.map .u8 ++ [.sl 1 0 n 4 fl])
def ciW (w : List UInt8) : SB := .ro (w.map .u8)

theorem f84 (a b c d : UInt8) (n : Nat) (fl : Bool) (w : List UInt8) : SCall Try.prog 84 [.p 0 0, .agg [.u8 a, .u8 b, .u8 c, .u8 d]] [some (ciB n fl), some (ciW w)] (.agg [.u8 (sb a), .u8 (sb b), .u8 (sb c), .u8 (sb d)]) [some (ciB n fl), some (ciW w)] := by
  have hl := sbx_len
  have ha : a.toNat < 256 := UInt8.toNat_lt _
  have hb : b.toNat < 256 := UInt8.toNat_lt _
  have hc : c.toNat < 256 := UInt8.toNat_lt _
  have hd : d.toNat < 256 := UInt8.toNat_lt _
  unfold ciB ciW
  refine scall_of ttOk (by kernel_rfl : Try.prog.funcs[84]? = some Try.f84) rfl rfl rfl ?_
  refine sw_ok ttOk mixed (by kernel_rfl) ?_
  conv => whnf
  repeat (first | (refine Exists.intro _ (And.intro (sload_all rfl (by first | rfl | fail)) ?_); conv => whnf) | fail)
  refine loop_rounds ttOk mixed (by kernel_rfl) 5 ?_
  conv => whnf
  repeat (first | (refine brT rfl ?_; conv => whnf) | (refine brF rfl ?_; conv => whnf) | (refine Exists.intro _ (And.intro (sload_all rfl (by first | rfl | fail)) ?_); conv => whnf) | (refine Exists.intro _ (And.intro (sput_all rfl (by first | rfl | fail)) ?_); conv => whnf) | (refine Exists.intro _ (And.intro (sload_pre8 (i := a.toNat) (by first | rfl | (simp; done) | fail) (by first | omega | fail)) ?_); conv => whnf) | (refine Exists.intro _ (And.intro (sload_pre8 (i := b.toNat) (by first | rfl | (simp; done) | fail) (by first | omega | fail)) ?_); conv => whnf) | (refine Exists.intro _ (And.intro (sload_pre8 (i := c.toNat) (by first | rfl | (simp; done) | fail) (by first | omega | fail)) ?_); conv => whnf) | (refine Exists.intro _ (And.intro (sload_pre8 (i := d.toNat) (by first | rfl | (simp; done) | fail) (by first | omega | fail)) ?_); conv => whnf) | (refine Exists.intro _ (And.intro rfl ?_); conv => whnf) | (refine And.intro (by first | omega | (simp; done) | fail) ?_; conv => whnf) | (refine And.intro (Nat.le_of_ble_eq_true rfl) ?_; conv => whnf) | (refine And.intro ⟨rfl, Nat.le_of_ble_eq_true rfl⟩ ?_; conv => whnf) | fail)
  refine ⟨[0, 1], ?_, rfl, rfl, ?_, rfl⟩
  · (repeat' (first | (refine wk_agg ?_) | (refine wk_cons ?_ ?_))) <;> first | rfl | fail
  · (repeat' (first | exact trivial | refine And.intro ?_ ?_ | fail)) <;> first | exact ren_eq (by first | (simp; done) | fail) (by first | rfl | fail) | exact ren_app2 (by first | (simp; done) | fail) (by first | rfl | fail) rfl | fail

theorem f86 (a b c d a2 b2 c2 d2 : UInt8) : SCall Try.prog 86 [.agg [.u8 a, .u8 b, .u8 c, .u8 d], .agg [.u8 a2, .u8 b2, .u8 c2, .u8 d2]] [] (.agg [.u8 (a ^^^ a2), .u8 (b ^^^ b2), .u8 (c ^^^ c2), .u8 (d ^^^ d2)]) [] := by
  refine scall_of ttOk (by kernel_rfl : Try.prog.funcs[86]? = some Try.f86) rfl rfl rfl ?_
  refine sw_ok ttOk mixed (by kernel_rfl) ?_
  conv => whnf
  repeat (first | (refine Exists.intro _ (And.intro (sload_all rfl (by first | rfl | fail)) ?_); conv => whnf) | fail)
  refine loop_rounds ttOk mixed (by kernel_rfl) 5 ?_
  conv => whnf
  repeat (first | (refine brT rfl ?_; conv => whnf) | (refine brF rfl ?_; conv => whnf) | (refine Exists.intro _ (And.intro (sload_all rfl (by first | rfl | fail)) ?_); conv => whnf) | (refine Exists.intro _ (And.intro (sput_all rfl (by first | rfl | fail)) ?_); conv => whnf) | (refine Exists.intro _ (And.intro rfl ?_); conv => whnf) | (refine And.intro (by first | omega | (simp; done) | fail) ?_; conv => whnf) | (refine And.intro (Nat.le_of_ble_eq_true rfl) ?_; conv => whnf) | (refine And.intro ⟨rfl, Nat.le_of_ble_eq_true rfl⟩ ?_; conv => whnf) | fail)
  refine ⟨[], ?_, rfl, rfl, ?_, rfl⟩
  · (repeat' (first | (refine wk_agg ?_) | (refine wk_cons ?_ ?_))) <;> first | rfl | fail
  · (repeat' (first | exact trivial | fail)) <;> fail

def mx (a b c d : UInt8) : UInt8 := a ^^^ (a ^^^ b ^^^ c ^^^ d) ^^^ dbl (a ^^^ b)

theorem f88 (a b c d : UInt8) : SCall Try.prog 88 [.agg [.u8 a, .u8 b, .u8 c, .u8 d]] [] (.agg [.u8 (a ^^^ (a ^^^ b ^^^ c ^^^ d) ^^^ dbl (a ^^^ b)), .u8 (b ^^^ (a ^^^ b ^^^ c ^^^ d) ^^^ dbl (b ^^^ c)), .u8 (c ^^^ (a ^^^ b ^^^ c ^^^ d) ^^^ dbl (c ^^^ d)), .u8 (d ^^^ (a ^^^ b ^^^ c ^^^ d) ^^^ dbl (d ^^^ a))]) [] := by
  refine scall_of ttOk (by kernel_rfl : Try.prog.funcs[88]? = some Try.f88) rfl rfl rfl ?_
  refine sw_ok ttOk mixed (by kernel_rfl) ?_
  conv => whnf
  repeat (first | (refine Exists.intro _ (And.intro (sload_all rfl (by first | rfl | fail)) ?_); conv => whnf) | (refine Exists.intro _ (And.intro rfl ?_); conv => whnf) | (refine And.intro (by first | omega | fail) ?_; conv => whnf) | fail)
  refine loop_rounds ttOk mixed (by kernel_rfl) 5 ?_
  conv => whnf
  repeat (first | (refine brT rfl ?_; conv => whnf) | (refine Exists.intro _ (And.intro rfl ?_); conv => whnf) | (refine And.intro (by first | omega | fail) ?_; conv => whnf) | (refine And.intro (Nat.le_of_ble_eq_true rfl) ?_; conv => whnf) | fail)
  refine ok1_callP [] (f85 (a ^^^ b)) rfl rfl ⟨⟨rfl, by first | rfl | fail⟩, trivial, by first | rfl | fail, ?_⟩
  conv => whnf
  repeat (first | (refine brT rfl ?_; conv => whnf) | (refine Exists.intro _ (And.intro rfl ?_); conv => whnf) | (refine And.intro (by first | omega | (simp; done) | fail) ?_; conv => whnf) | (refine And.intro (Nat.le_of_ble_eq_true rfl) ?_; conv => whnf) | fail)
  refine ok1_callP [] (f85 (b ^^^ c)) rfl rfl ⟨⟨rfl, by first | rfl | fail⟩, trivial, by first | rfl | fail, ?_⟩
  conv => whnf
  repeat (first | (refine brT rfl ?_; conv => whnf) | (refine Exists.intro _ (And.intro rfl ?_); conv => whnf) | (refine And.intro (Nat.le_of_ble_eq_true rfl) ?_; conv => whnf) | (refine And.intro ⟨rfl, Nat.le_of_ble_eq_true rfl⟩ ?_; conv => whnf) | fail)
  refine ok1_callP [] (f85 (c ^^^ d)) rfl rfl ⟨⟨rfl, by first | rfl | fail⟩, trivial, by first | rfl | fail, ?_⟩
  conv => whnf
  repeat (first | (refine brT rfl ?_; conv => whnf) | (refine Exists.intro _ (And.intro rfl ?_); conv => whnf) | (refine And.intro (Nat.le_of_ble_eq_true rfl) ?_; conv => whnf) | (refine And.intro ⟨rfl, Nat.le_of_ble_eq_true rfl⟩ ?_; conv => whnf) | fail)
  refine ok1_callP [] (f85 (d ^^^ a)) rfl rfl ⟨⟨rfl, by first | rfl | fail⟩, trivial, by first | rfl | fail, ?_⟩
  conv => whnf
  repeat (first | (refine brF rfl ?_; conv => whnf) | (refine Exists.intro _ (And.intro (sload_all rfl (by first | rfl | fail)) ?_); conv => whnf) | (refine Exists.intro _ (And.intro (sput_all rfl (by first | rfl | fail)) ?_); conv => whnf) | (refine Exists.intro _ (And.intro rfl ?_); conv => whnf) | (refine And.intro (by first | (simp; done) | fail) ?_; conv => whnf) | (refine And.intro (Nat.le_of_ble_eq_true rfl) ?_; conv => whnf) | (refine And.intro ⟨rfl, Nat.le_of_ble_eq_true rfl⟩ ?_; conv => whnf) | fail)
  refine ⟨[], ?_, rfl, rfl, ?_, rfl⟩
  · (repeat' (first | (refine wk_agg ?_) | (refine wk_cons ?_ ?_))) <;> first | rfl | fail
  · (repeat' (first | exact trivial | fail)) <;> fail

theorem f48 (n : Nat) (hn : n < 1000000000) (fl : Bool) (w : List UInt8) : SCall Try.prog 48 [.p 0 0] [some (ciB n fl), some (ciW w)] (.i ((n / 4 : Nat) - 1 : Int)) [some (ciB n fl), some (ciW w)] := by
  have hl := sbx_len
  have he : w64 (w64 ((n : Int).tdiv 4) - 1) = ((n / 4 : Nat) : Int) - 1 := by
    rw [Int.tdiv_eq_ediv_of_nonneg (by omega)]
    simp only [w64_eq]; omega
  unfold ciB ciW
  refine scall_of ttOk (by kernel_rfl : Try.prog.funcs[48]? = some Try.f48) rfl rfl rfl ?_
  refine sw_ok ttOk mixed (by kernel_rfl) ?_
  conv => whnf
  repeat (first | (refine brF rfl ?_; conv => whnf) | (refine Exists.intro _ (And.intro (sload_end (by first | rfl | (simp [hl]; done) | fail)) ?_); conv => whnf) | (refine Exists.intro _ (And.intro rfl ?_); conv => whnf) | (refine And.intro (by kernel_rfl) ?_; conv => whnf) | fail)
  refine ⟨[0, 1], ?_, rfl, rfl, ?_, rfl⟩
  · (repeat' (fail)) <;> first | exact wk_i (by first | exact he.symm | fail) | fail
  · (repeat' (first | exact trivial | refine And.intro ?_ ?_ | fail)) <;> first | exact ren_eq (by first | (simp; done) | fail) (by first | rfl | fail) | exact ren_app2 (by first | (simp; done) | fail) (by first | rfl | fail) rfl | fail
theorem f48n : SCall Try.prog 48 [.pnil] [] (.i 0) [] := by
  refine scall_of ttOk (by kernel_rfl : Try.prog.funcs[48]? = some Try.f48) rfl rfl rfl ?_
  refine sw_ok ttOk mixed (by kernel_rfl) ?_
  conv => whnf
  repeat (first | (refine brT rfl ?_; conv => whnf) | (refine And.intro (by kernel_rfl) ?_; conv => whnf) | fail)
  refine ⟨[], ?_, rfl, rfl, ?_, rfl⟩
  · (repeat' (fail)) <;> first | rfl | fail
  · (repeat' (first | exact trivial | fail)) <;> fail

theorem f87 (n : Nat) (fl : Bool) (w : List UInt8) (l : List UInt8) : SCall Try.prog 87 [.p 0 0, .agg (l.map .u8)] [some (ciB n fl), some (ciW w)] (.fn 101 [.p 3 0, .p 2 0]) [some (ciB n fl), some (ciW w), some (.box [.p 0 0]), some (.box (l.map .u8))] := by
  unfold ciB ciW
  refine scall_of ttOk (by kernel_rfl : Try.prog.funcs[87]? = some Try.f87) rfl rfl rfl ?_
  refine sw_ok ttOk mixed (by kernel_rfl) ?_
  conv => whnf
  repeat (fail)
  refine ⟨[0, 1, 2, 3], ?_, rfl, rfl, ?_, rfl⟩
  · (repeat' (fail)) <;> first | rfl | fail
  · (repeat' (first | exact trivial | refine And.intro ?_ ?_ | (refine wk_cons ?_ ?_))) <;> first | rfl | exact ren_eq (by first | (simp; done) | fail) (by first | rfl | fail) | exact ren_app2 (by first | (simp; done) | fail) (by first | rfl | fail) rfl | fail
end Go.Sh
/- aes.Seal: what it is. -/
namespace Go.Sh
open Go.Proofs
set_option maxHeartbeats 8000000
set_option linter.unusedSimpArgs false

/-- A column, mixed. -/
def mixC : List UInt8 → List UInt8
  | [a, b, c, d] => [a ^^^ (a ^^^ b ^^^ c ^^^ d) ^^^ dbl (a ^^^ b), b ^^^ (a ^^^ b ^^^ c ^^^ d) ^^^ dbl (b ^^^ c), c ^^^ (a ^^^ b ^^^ c ^^^ d) ^^^ dbl (c ^^^ d), d ^^^ (a ^^^ b ^^^ c ^^^ d) ^^^ dbl (d ^^^ a)]
  | l => l
def xorL : List UInt8 → List UInt8 → List UInt8
  | a :: l, b :: m => (a ^^^ b) :: xorL l m
  | _, _ => []
/-- The i-th column of a block whose rows have moved, S of each byte. -/
def movC (s : List UInt8) (i : Nat) : List UInt8 := [sb (s.getD (4 * i) 0), sb (s.getD (4 * ((i + 1) % 4) + 1) 0), sb (s.getD (4 * ((i + 2) % 4) + 2) 0), sb (s.getD (4 * ((i + 3) % 4) + 3) 0)]
def wcol (w : List UInt8) (i : Nat) : List UInt8 := [w.getD (4 * i) 0, w.getD (4 * i + 1) 0, w.getD (4 * i + 2) 0, w.getD (4 * i + 3) 0]
def rndC (last : Bool) (w : List UInt8) (n : Nat) (s : List UInt8) (i : Nat) : List UInt8 := xorL (if last then movC s i else mixC (movC s i)) (wcol w (4 * n + i))
/-- A round. -/
def rnd (last : Bool) (w : List UInt8) (n : Nat) (s : List UInt8) : List UInt8 := rndC last w n s 0 ++ rndC last w n s 1 ++ rndC last w n s 2 ++ rndC last w n s 3
def sealSt (w : List UInt8) (R : Nat) (b : List UInt8) : Nat → List UInt8
  | 0 => xorL b (wcol w 0 ++ wcol w 1 ++ wcol w 2 ++ wcol w 3)
  | n + 1 => rnd (decide (n + 1 = R)) w (n + 1) (sealSt w R b n)

theorem xorL_len : ∀ {a b : List UInt8}, a.length = b.length → (xorL a b).length = a.length
  | [], [], _ => rfl
  | x :: a, y :: b, h => by simp only [xorL, List.length_cons]; rw [xorL_len (by simpa using h)]
  | [], _ :: _, h => by simp at h
  | _ :: _, [], h => by simp at h
theorem rndC_len (last : Bool) (w : List UInt8) (n : Nat) (s : List UInt8) (i : Nat) : (rndC last w n s i).length = 4 := by
  unfold rndC; rw [xorL_len]
  · cases last <;> rfl
  · cases last <;> rfl
theorem rnd_len (last : Bool) (w : List UInt8) (n : Nat) (s : List UInt8) : (rnd last w n s).length = 16 := by
  unfold rnd; simp [rndC_len]
theorem sealSt_len (w : List UInt8) (R : Nat) (b : List UInt8) (hb : b.length = 16) : ∀ n, (sealSt w R b n).length = 16
  | 0 => by unfold sealSt; rw [xorL_len] <;> simp [hb, wcol]
  | n + 1 => by unfold sealSt; exact rnd_len ..
theorem ex4 {α : Type} {l : List α} (h : l.length = 4) : ∃ a b c d, l = [a, b, c, d] := by
  match l, h with
  | [a, b, c, d], _ => exact ⟨a, b, c, d, rfl⟩
theorem ex16 {α : Type} {l : List α} (h : l.length = 16) : ∃ s0 s1 s2 s3 s4 s5 s6 s7 s8 s9 s10 s11 s12 s13 s14 s15, l = [s0, s1, s2, s3, s4, s5, s6, s7, s8, s9, s10, s11, s12, s13, s14, s15] := by
  match l, h with
  | [a, b, c, d, e, f, g, h, i, j, k, l, m, n, o, p], _ => exact ⟨a, b, c, d, e, f, g, h, i, j, k, l, m, n, o, p, rfl⟩

theorem sload_col {l : List UInt8} {k i : Nat} (hk : k = i) (h : i + 4 ≤ l.length) : sload true 4 (l.map .u8) k = some (.agg [.u8 (l.getD i 0), .u8 (l.getD (i + 1) 0), .u8 (l.getD (i + 2) 0), .u8 (l.getD (i + 3) 0)]) := by
  subst hk
  simp only [sload, if_true]
  rw [if_pos (by simpa using h)]
  have e : ∀ j, k + j < l.length → (l.map SV.u8)[k + j]? = some (.u8 (l.getD (k + j) 0)) := fun j hj => by
    rw [List.getElem?_map, List.getD_eq_getElem?_getD, List.getElem?_eq_getElem hj]; rfl
  have e0 := e 0 (by omega)
  have e1 := e 1 (by omega)
  have e2 := e 2 (by omega)
  have e3 := e 3 (by omega)
  congr 2
  apply List.ext_getElem?
  intro j
  rw [List.getElem?_take]
  by_cases hj : j < 4
  · rw [if_pos hj, List.getElem?_drop]
    have : j = 0 ∨ j = 1 ∨ j = 2 ∨ j = 3 := by omega
    rcases this with rfl | rfl | rfl | rfl
    · exact e0
    · exact e1
    · exact e2
    · exact e3
  · rw [if_neg hj, List.getElem?_eq_none]; simp; omega

theorem w64_4n (n q : Nat) (h : n ≤ 1000) (hq : q ≤ 3) : w64 (w64 (4 * (n : Int)) + (q : Int)) = ((4 * n + q : Nat) : Int) := by
  simp only [w64_eq]; omega
theorem w64_s (n : Nat) (h : n ≤ 1000) : w64 ((n : Int) + 1) = ((n + 1 : Nat) : Int) := by simp only [w64_eq]; omega

end Go.Sh
/- aes's reference: bytes. -/
namespace Go.Sh
open Go.Proofs
set_option maxHeartbeats 8000000
set_option linter.unusedSimpArgs false

theorem w6_p1 (n : Nat) (h : n ≤ 1000) : w64 ((n : Int) + 1) = ((n + 1 : Nat) : Int) := by simp only [w64_eq]; omega

def pow2 : Nat → UInt8
  | 0 => 1
  | k + 1 => 2 * pow2 k

theorem f83 (n : Nat) (h : n ≤ 1000) : SCall Try.prog 83 [.i n] [] (.u8 (pow2 n)) [] := by
  refine scall_of ttOk (by kernel_rfl : Try.prog.funcs[83]? = some Try.f83) rfl rfl rfl ?_
  refine sw_ok ttOk mixed (by kernel_rfl) ?_
  conv => whnf
  repeat (fail)
  refine loop_rule ttOk mixed (by kernel_rfl) (ι := { i : Nat // i ≤ n }) (fun i => [(0, .i n), (3, .u8 (pow2 i.1)), (4, .i (i.1 : Int))]) (fun _ => []) (fun _ => 0) (fun i => n - i.1) ⟨0, by omega⟩ ?_ ?_
  · refine Weak.sel [] rfl rfl ?_ ?_ rfl rfl
    · (repeat' (first | exact trivial | refine And.intro ?_ ?_)) <;> first | rfl
    · (repeat' (first | exact trivial)) <;> fail
  · rintro ⟨i, hi⟩
    dsimp only
    conv => whnf
    refine ⟨fun hc => ?_, fun hc => ?_⟩
    · have hi2 : i < n := by simp at hc; omega
      have hp1 := w6_p1 i (by omega)
      conv => whnf
      refine ⟨⟨i + 1, by omega⟩, by simp only; omega, ?_⟩
      refine Weak.sel [] rfl rfl ?_ ?_ rfl rfl
      · (repeat' (first | exact trivial | refine And.intro ?_ ?_)) <;> first | rfl | exact wk_i (by first | exact hp1.symm)
      · (repeat' (first | exact trivial)) <;> fail
    · obtain rfl : i = n := by simp at hc; omega
      conv => whnf
      refine ⟨[], ?_, rfl, rfl, ?_, rfl⟩
      · (repeat' (fail)) <;> first | rfl
      · (repeat' (first | exact trivial)) <;> fail

theorem quo8 {a c : UInt8} (h : c ≠ 0) : sarith .quo (.u8 a) (.u8 c) = some (.u8 (a / c)) := by simp [sarith, h]
theorem pow2_ne (n : Nat) (h : n ≤ 7) : pow2 n ≠ 0 := by
  have : n = 0 ∨ n = 1 ∨ n = 2 ∨ n = 3 ∨ n = 4 ∨ n = 5 ∨ n = 6 ∨ n = 7 := by omega
  rcases this with rfl | rfl | rfl | rfl | rfl | rfl | rfl | rfl <;> decide

theorem f82 (b : UInt8) (n : Nat) (h : n ≤ 7) : SCall Try.prog 82 [.u8 b, .i n] [] (.i ((b / pow2 n % 2).toNat : Int)) [] := by
  refine scall_of ttOk (by kernel_rfl : Try.prog.funcs[82]? = some Try.f82) rfl rfl rfl ?_
  refine sw_ok ttOk mixed (by kernel_rfl) ?_
  conv => whnf
  refine ok1_callP [] (f83 n (by omega)) rfl rfl ⟨⟨rfl, by first | rfl⟩, trivial, by first | rfl, ?_⟩
  conv => whnf
  refine ⟨_, quo8 (pow2_ne n h), ?_⟩
  conv => whnf
  repeat (first | (refine Exists.intro _ (And.intro rfl ?_); conv => whnf))
  refine ⟨[], ?_, rfl, rfl, ?_, rfl⟩
  · (repeat' (fail)) <;> first | rfl
  · (repeat' (first | exact trivial)) <;> fail

def tmSt : Nat → UInt8 → UInt8 → UInt8 → UInt8
  | 0, out, _, _ => out
  | k + 1, out, a, b => tmSt k (if b % 2 = 1 then out ^^^ a else out) (if a ≥ 128 then 2 * a ^^^ 27 else 2 * a) (b / 2)

theorem tmSt_zero : ∀ (k : Nat) (o a : UInt8), tmSt k o a 0 = o
  | 0, _, _ => rfl
  | k + 1, o, a => by
    show tmSt k (if (0 : UInt8) % 2 = 1 then o ^^^ a else o) _ (0 / 2) = o
    rw [if_neg (by decide)]
    exact tmSt_zero k o _
theorem half_lt (k : Nat) (b : UInt8) (h : b.toNat < 2 ^ (k + 1)) : (b / 2).toNat < 2 ^ k := by
  rw [UInt8.toNat_div]
  show b.toNat / 2 < 2 ^ k
  rw [Nat.pow_succ] at h
  omega

/-- What stands at a round of Times. -/
structure TmI (a b : UInt8) where
  k : Nat
  o : UInt8
  x : UInt8
  y : UInt8
  lt : y.toNat < 2 ^ k
  eq : tmSt k o x y = tmSt 8 0 a b

theorem f81 (a b : UInt8) : SCall Try.prog 81 [.u8 a, .u8 b] [] (.u8 (tmSt 8 0 a b)) [] := by
  refine scall_of ttOk (by kernel_rfl : Try.prog.funcs[81]? = some Try.f81) rfl rfl rfl ?_
  refine sw_ok ttOk mixed (by kernel_rfl) ?_
  conv => whnf
  refine loop_rule ttOk mixed (by kernel_rfl) (ι := TmI a b) (fun t => [(0, .u8 t.x), (1, .u8 t.y), (5, .u8 t.o)]) (fun _ => []) (fun _ => 0) (fun t => t.k) ⟨8, 0, a, b, UInt8.toNat_lt _, rfl⟩ ?_ ?_
  · refine Weak.sel [] rfl rfl ?_ ?_ rfl rfl
    · (repeat' (first | exact trivial | refine And.intro ?_ ?_)) <;> first | rfl
    · (repeat' (first | exact trivial)) <;> fail
  · rintro ⟨k, o, x, y, hlt, heq⟩
    dsimp only
    conv => whnf
    refine ⟨fun hc => ?_, fun hc => ?_⟩
    · obtain ⟨k, rfl⟩ : ∃ j, k = j + 1 := by
        rcases k with _ | k
        · exfalso
          have : y.toNat = 0 := by simpa using hlt
          have : y = 0 := UInt8.toNat_inj.mp this
          subst this
          revert hc; decide
        · exact ⟨k, rfl⟩
      have hl2 := half_lt k y hlt
      have heq2 : tmSt k (if y % 2 = 1 then o ^^^ x else o) (if x ≥ 128 then 2 * x ^^^ 27 else 2 * x) (y / 2) = tmSt 8 0 a b := heq
      conv => whnf
      repeat (first | (refine Exists.intro _ (And.intro rfl ?_); conv => whnf))
      by_cases h1 : y % 2 = 1
      · rw [if_pos h1] at heq2
        have hb : (y % 2 == 1) = true := by simp [h1]
        by_cases h2 : x ≥ 128
        · rw [if_pos h2] at heq2
          have hx : decide (x ≥ 128) = true := by simp [h2]
          conv => whnf
          repeat (first | (refine gdT hb ?_; conv => whnf) | (refine gdT hx ?_; conv => whnf) | (refine Exists.intro _ (And.intro rfl ?_); conv => whnf))
          refine ⟨⟨k, o ^^^ x, 2 * x ^^^ 27, y / 2, hl2, heq2⟩, by simp, ?_⟩
          refine Weak.sel [] rfl rfl ?_ ?_ rfl rfl
          · (repeat' (first | exact trivial | refine And.intro ?_ ?_)) <;> first | rfl
          · (repeat' (first | exact trivial)) <;> fail
        · rw [if_neg h2] at heq2
          have hx : decide (x ≥ 128) = false := by simp only [decide_eq_false_iff_not]; exact h2
          conv => whnf
          repeat (first | (refine gdT hb ?_; conv => whnf) | (refine gdF hx ?_; conv => whnf) | (refine Exists.intro _ (And.intro rfl ?_); conv => whnf))
          refine ⟨⟨k, o ^^^ x, 2 * x, y / 2, hl2, heq2⟩, by simp, ?_⟩
          refine Weak.sel [] rfl rfl ?_ ?_ rfl rfl
          · (repeat' (first | exact trivial | refine And.intro ?_ ?_)) <;> first | rfl
          · (repeat' (first | exact trivial)) <;> fail
      · rw [if_neg h1] at heq2
        have hb : (y % 2 == 1) = false := by simp [h1]
        by_cases h2 : x ≥ 128
        · rw [if_pos h2] at heq2
          have hx : decide (x ≥ 128) = true := by simp [h2]
          conv => whnf
          repeat (first | (refine gdF hb ?_; conv => whnf) | (refine gdT hx ?_; conv => whnf) | (refine Exists.intro _ (And.intro rfl ?_); conv => whnf))
          refine ⟨⟨k, o, 2 * x ^^^ 27, y / 2, hl2, heq2⟩, by simp, ?_⟩
          refine Weak.sel [] rfl rfl ?_ ?_ rfl rfl
          · (repeat' (first | exact trivial | refine And.intro ?_ ?_)) <;> first | rfl
          · (repeat' (first | exact trivial)) <;> fail
        · rw [if_neg h2] at heq2
          have hx : decide (x ≥ 128) = false := by simp only [decide_eq_false_iff_not]; exact h2
          conv => whnf
          repeat (first | (refine gdF hb ?_; conv => whnf) | (refine gdF hx ?_; conv => whnf) | (refine Exists.intro _ (And.intro rfl ?_); conv => whnf))
          refine ⟨⟨k, o, 2 * x, y / 2, hl2, heq2⟩, by simp, ?_⟩
          refine Weak.sel [] rfl rfl ?_ ?_ rfl rfl
          · (repeat' (first | exact trivial | refine And.intro ?_ ?_)) <;> first | rfl
          · (repeat' (first | exact trivial)) <;> fail
    · have : y = 0 := by
        apply UInt8.toNat_inj.mp
        simp at hc
        rw [hc]
      subst this
      rw [tmSt_zero] at heq
      subst heq
      conv => whnf
      refine ⟨[], ?_, rfl, rfl, ?_, rfl⟩
      · (repeat' (fail)) <;> first | rfl
      · (repeat' (first | exact trivial)) <;> fail
end Go.Sh
/- aes: a round, as the reference has it. -/
namespace Go.Sh
open Go.Proofs
set_option maxHeartbeats 8000000
set_option linter.unusedSimpArgs false

theorem w9_at : ∀ i : Nat, i < 16 → ∀ q : Nat, q < 4 → w64 (w64 (w64 ((i : Int).tdiv 4) * 4) + (w64 ((i : Int) + (q : Int))).tmod 4) = ((i / 4 * 4 + (i + q) % 4 : Nat) : Int) := by decide
theorem w9_sh : ∀ i : Nat, i < 16 → (w64 ((i : Int) + w64 (4 * (i : Int).tmod 4))).tmod 16 = (((i + 4 * (i % 4)) % 16 : Nat) : Int) := by decide
theorem w9_16 (n i : Nat) (h : n ≤ 1000) (hi : i ≤ 16) : w64 (w64 (16 * (n : Int)) + (i : Int)) = ((16 * n + i : Nat) : Int) := by simp only [w64_eq]; omega
theorem w9_div (R : Nat) (h : R ≤ 1000) : w64 (((16 * (R + 1) : Nat) : Int).tdiv 16) = ((R + 1 : Nat) : Int) := by
  rw [Int.tdiv_eq_ediv_of_nonneg (by omega)]; simp only [w64_eq]; omega
theorem w9_sub (R : Nat) (h : R ≤ 1000) : w64 (((R + 1 : Nat) : Int) - 1) = (R : Int) := by simp only [w64_eq]; omega

/-- What a round's byte is by. -/
def tB (s : List UInt8) (j : Nat) : UInt8 := sb (s.getD ((j + 4 * (j % 4)) % 16) 0)
def rB (last : Bool) (w : List UInt8) (n : Nat) (s : List UInt8) (j : Nat) : UInt8 :=
  (if last then tB s j else tmSt 8 0 (tB s j) 2 ^^^ tmSt 8 0 (tB s (j / 4 * 4 + (j + 1) % 4)) 3 ^^^ tB s (j / 4 * 4 + (j + 2) % 4) ^^^ tB s (j / 4 * 4 + (j + 3) % 4)) ^^^ w.getD (16 * n + j) 0

theorem tm_2 : ∀ x : UInt8, tmSt 8 0 x 2 = dbl x := by
  have h : ∀ n : Nat, n < 256 → tmSt 8 0 (UInt8.ofNat n) 2 = dbl (UInt8.ofNat n) := by decide +kernel
  intro x
  have := h x.toNat (UInt8.toNat_lt _)
  simpa using this
theorem tm_3 : ∀ x : UInt8, tmSt 8 0 x 3 = dbl x ^^^ x := by
  have h : ∀ n : Nat, n < 256 → tmSt 8 0 (UInt8.ofNat n) 3 = dbl (UInt8.ofNat n) ^^^ UInt8.ofNat n := by decide +kernel
  intro x
  have := h x.toNat (UInt8.toNat_lt _)
  simpa using this
theorem dbl_x : ∀ x y : UInt8, dbl (x ^^^ y) = dbl x ^^^ dbl y := by
  have h : ∀ n : Nat, n < 256 → ∀ m : Nat, m < 256 → dbl (UInt8.ofNat n ^^^ UInt8.ofNat m) = dbl (UInt8.ofNat n) ^^^ dbl (UInt8.ofNat m) := by decide +kernel
  intro x y
  have := h x.toNat (UInt8.toNat_lt _) y.toNat (UInt8.toNat_lt _)
  simpa using this

theorem xx (x y : UInt8) : x ^^^ (x ^^^ y) = y := by rw [← UInt8.xor_assoc, UInt8.xor_self, UInt8.zero_xor]
theorem xc (x y z : UInt8) : x ^^^ (y ^^^ z) = y ^^^ (x ^^^ z) := by rw [← UInt8.xor_assoc, UInt8.xor_comm x y, UInt8.xor_assoc]
theorem mix_one (a b c d : UInt8) : a ^^^ (a ^^^ b ^^^ c ^^^ d) ^^^ dbl (a ^^^ b) = tmSt 8 0 a 2 ^^^ tmSt 8 0 b 3 ^^^ c ^^^ d := by
  simp only [tm_2, tm_3, dbl_x, UInt8.xor_assoc, xx]
  ac_rfl
theorem wcol16 (w : List UInt8) (n i : Nat) : wcol w (4 * n + i) = [w.getD (16 * n + 4 * i) 0, w.getD (16 * n + (4 * i + 1)) 0, w.getD (16 * n + (4 * i + 2)) 0, w.getD (16 * n + (4 * i + 3)) 0] := by
  unfold wcol; rw [show 4 * (4 * n + i) = 16 * n + 4 * i by omega]; rfl

theorem rB_rnd (last : Bool) (w : List UInt8) (n : Nat) (s : List UInt8) (hs : s.length = 16) : (List.range 16).map (rB last w n s) = rnd last w n s := by
  obtain ⟨s0, s1, s2, s3, s4, s5, s6, s7, s8, s9, s10, s11, s12, s13, s14, s15, rfl⟩ := ex16 hs
  have hr : List.range 16 = [0, 1, 2, 3, 4, 5, 6, 7, 8, 9, 10, 11, 12, 13, 14, 15] := by decide
  rw [hr]
  cases last with
  | true =>
    simp only [List.map_cons, List.map_nil, rB, if_true, tB, rnd, rndC, movC, wcol16, xorL, List.cons_append, List.nil_append]
    try rfl
  | false =>
    simp only [rnd, rndC, movC, mixC, Bool.false_eq_true, if_false, wcol16, xorL, mix_one]
    have e1 : ∀ c d a b : UInt8, c ^^^ (a ^^^ b ^^^ c ^^^ d) ^^^ dbl (c ^^^ d) = tmSt 8 0 c 2 ^^^ tmSt 8 0 d 3 ^^^ a ^^^ b := fun c d a b => by
      rw [show a ^^^ b ^^^ c ^^^ d = c ^^^ d ^^^ a ^^^ b by ac_rfl]; exact mix_one c d a b
    have e2 : ∀ b c d a : UInt8, b ^^^ (a ^^^ b ^^^ c ^^^ d) ^^^ dbl (b ^^^ c) = tmSt 8 0 b 2 ^^^ tmSt 8 0 c 3 ^^^ d ^^^ a := fun b c d a => by
      rw [show a ^^^ b ^^^ c ^^^ d = b ^^^ c ^^^ d ^^^ a by ac_rfl]; exact mix_one b c d a
    have e3 : ∀ d a b c : UInt8, d ^^^ (a ^^^ b ^^^ c ^^^ d) ^^^ dbl (d ^^^ a) = tmSt 8 0 d 2 ^^^ tmSt 8 0 a 3 ^^^ b ^^^ c := fun d a b c => by
      rw [show a ^^^ b ^^^ c ^^^ d = d ^^^ a ^^^ b ^^^ c by ac_rfl]; exact mix_one d a b c
    simp only [e1, e2, e3, List.map_cons, List.map_nil, rB, Bool.false_eq_true, if_false, tB, List.cons_append, List.nil_append]
    try rfl

theorem sealSt_0 (w : List UInt8) (R : Nat) (b : List UInt8) (hb : b.length = 16) : (List.range 16).map (fun j => b.getD j 0 ^^^ w.getD j 0) = sealSt w R b 0 := by
  obtain ⟨s0, s1, s2, s3, s4, s5, s6, s7, s8, s9, s10, s11, s12, s13, s14, s15, rfl⟩ := ex16 hb
  rfl

end Go.Sh
/- aes's reference: Seal (f49). -/
namespace Go.Sh
open Go.Proofs
set_option maxHeartbeats 8000000
set_option linter.unusedSimpArgs false

theorem f49 (fb fw fk : Bool) (w block : List UInt8) (R : Nat) (hw : w.length = 16 * (R + 1)) (hR1 : 1 ≤ R) (hR2 : R ≤ 20) (hb : block.length = 16) :
    SCall Try.prog 49 [.sl 0 0 256 1 fb, .sl 1 0 (16 * (R + 1)) 1 fw, .sl 2 0 16 1 fk] [some (.ro (sbx.map .u8)), some (.ro (w.map .u8)), some (.ro (block.map .u8))]
      (.sl 3 0 16 1 true) [some (.ro (sbx.map .u8)), some (.ro (w.map .u8)), some (.ro (block.map .u8)), some (.row 5 ((sealSt w R block R).map .u8))] := by
  have hl := sbx_len
  obtain ⟨nw, hnw⟩ : ∃ nw, nw = 16 * (R + 1) := ⟨_, rfl⟩
  have hd := w9_div R (by omega)
  have hsb := w9_sub R (by omega)
  rw [← hnw] at hd hw
  rw [← hnw]
  have hnR : w64 (w64 ((nw : Int).tdiv 16) - 1) = (R : Int) := by rw [hd]; exact hsb
  refine scall_of ttOk (by kernel_rfl : Try.prog.funcs[49]? = some Try.f49) rfl rfl rfl ?_
  refine sw_ok ttOk mixed (by kernel_rfl) ?_
  conv => whnf
  repeat (first | (refine Exists.intro _ (And.intro rfl ?_); conv => whnf) | (refine And.intro ⟨by first | omega | fail, by first | decide | fail⟩ ?_; conv => whnf) | fail)
  refine loop_rule ttOk mixed (by kernel_rfl) (ι := { i : Nat // i ≤ 16 }) (fun i => [(0, .sl 0 0 256 1 fb), (1, .sl 1 0 nw 1 fw), (2, .sl 2 0 16 1 fk), (7, .i (R : Int)), (8, .sl 3 0 16 1 true), (9, .i (i.1 : Int))]) (fun i => [some (.ro (sbx.map .u8)), some (.ro (w.map .u8)), some (.ro (block.map .u8)), some (.row 5 ((fil 16 i.1 (fun j => block.getD j 0 ^^^ w.getD j 0) (fun _ => 0)).map .u8))]) (fun _ => 4) (fun i => 16 - i.1) ⟨0, by omega⟩ ?_ ?_
  · have hz : fil 16 0 (fun j => block.getD j 0 ^^^ w.getD j 0) (fun _ => (0 : UInt8)) = List.replicate 16 0 := fil_zero ..
    refine Weak.sel [0, 1, 2, 3] rfl rfl ?_ ?_ rfl rfl
    · (repeat' (first | exact trivial | refine And.intro ?_ ?_ | fail)) <;> first | rfl | exact wk_i (by first | exact hnR.symm | fail) | fail
    · (repeat' (first | exact trivial | refine And.intro ?_ ?_ | (refine wk_cons ?_ ?_))) <;> first | rfl | exact ren_eq (by first | (simp; done) | fail) (by first | rfl | fail) | fail
  · rintro ⟨i, hi⟩
    have hf := fil_len 16 i (fun j => block.getD j 0 ^^^ w.getD j 0) (fun _ => (0 : UInt8))
    dsimp only
    by_cases hi2 : i < 16
    · have hlt : decide ((i : Int) < 16) = true := by simp; omega
      have hp1 := w6_p1 i (by omega)
      have hs := fil_set (f := fun j => block.getD j 0 ^^^ w.getD j 0) (g := fun _ => (0 : UInt8)) hi2
      conv => whnf
      first | refine brT (by exact hlt) ?_ | fail
      conv => whnf
      repeat (first | (refine Exists.intro _ (And.intro (sput_m8 (i := i) (by first | rfl | omega | fail)) ?_); conv => whnf) | (refine Exists.intro _ (And.intro (sload_u8 (i := i) (by first | rfl | omega | fail) (by first | omega | fail)) ?_); conv => whnf) | (refine Exists.intro _ (And.intro (idx_i (m := i) (by first | rfl | fail)) ?_); conv => whnf) | (refine And.intro (by first | omega | fail) ?_; conv => whnf) | (refine And.intro (by kernel_rfl) ?_; conv => whnf) | (refine And.intro ⟨by first | exact @rfl Nat _ | fail, by first | (simp only [hf, ti5, List.length_map]; omega) | fail⟩ ?_; conv => whnf) | fail)
      refine ⟨⟨i + 1, by omega⟩, by simp only; omega, ?_⟩
      refine Weak.sel [0, 1, 2, 3] rfl rfl ?_ ?_ rfl rfl
      · (repeat' (first | exact trivial | refine And.intro ?_ ?_ | fail)) <;> first | rfl | exact wk_i (by first | exact hp1.symm | fail) | fail
      · (repeat' (first | exact trivial | refine And.intro ?_ ?_ | fail)) <;> first | exact ren_m8 (by first | exact hs | exact hs.symm | fail) | rfl | exact ren_eq (by first | (simp; done) | fail) (by first | rfl | fail) | fail
    · obtain rfl : i = 16 := by omega
      conv => whnf
      first | refine brF (by rfl) ?_ | fail
      conv => whnf
      repeat (fail)
      refine loop_rule ttOk mixed (by kernel_rfl) (ι := { n : Nat // 1 ≤ n ∧ n ≤ R + 1 }) (fun n => [(0, .sl 0 0 256 1 fb), (1, .sl 1 0 nw 1 fw), (7, .i (R : Int)), (8, .sl 3 0 16 1 true), (10, .i (n.1 : Int))]) (fun n => [some (.ro (sbx.map .u8)), some (.ro (w.map .u8)), some (.ro (block.map .u8)), some (.row 5 ((sealSt w R block (n.1 - 1)).map .u8))]) (fun _ => 4) (fun n => R + 1 - n.1) ⟨1, by omega⟩ ?_ ?_
      · have h0 : fil 16 16 (fun j => block.getD j 0 ^^^ w.getD j 0) (fun _ => (0 : UInt8)) = sealSt w R block (1 - 1) := by rw [fil_full]; exact sealSt_0 w R block hb
        refine Weak.sel [0, 1, 2, 3] rfl rfl ?_ ?_ rfl rfl
        · (repeat' (first | exact trivial | refine And.intro ?_ ?_ | fail)) <;> first | rfl | fail
        · (repeat' (first | exact trivial | refine And.intro ?_ ?_ | fail)) <;> first | exact ren_m8 (by first | exact h0 | exact h0.symm | fail) | rfl | exact ren_eq (by first | (simp; done) | fail) (by first | rfl | fail) | fail
      · rintro ⟨n, hn1, hn2⟩
        have hsl := sealSt_len w R block hb (n - 1)
        have hnx : n ≤ R → rnd (decide (n = R)) w n (sealSt w R block (n - 1)) = sealSt w R block (n + 1 - 1) := fun h => by
          obtain ⟨m, rfl⟩ : ∃ m, n = m + 1 := ⟨n - 1, by omega⟩
          rfl
        obtain ⟨s, hs⟩ : ∃ s, s = sealSt w R block (n - 1) := ⟨_, rfl⟩
        dsimp only
        rw [← hs] at hsl hnx ⊢
        by_cases hn : n ≤ R
        · have hle : decide ((n : Int) ≤ (R : Int)) = true := by simp; omega
          conv => whnf
          first | refine brT (by exact hle) ?_ | fail
          conv => whnf
          repeat (first | (refine And.intro ⟨by first | omega | fail, by first | decide | fail⟩ ?_; conv => whnf) | fail)
          refine loop_rule ttOk mixed (by kernel_rfl) (ι := { i : Nat // i ≤ 16 }) (fun i => [(0, .sl 0 0 256 1 fb), (1, .sl 1 0 nw 1 fw), (7, .i (R : Int)), (8, .sl 3 0 16 1 true), (10, .i (n : Int)), (11, .sl 4 0 16 1 true), (12, .i (i.1 : Int))]) (fun i => [some (.ro (sbx.map .u8)), some (.ro (w.map .u8)), some (.ro (block.map .u8)), some (.row 5 (s.map .u8)), some (.row 5 ((fil 16 i.1 (tB s) (fun _ => 0)).map .u8))]) (fun _ => 5) (fun i => 16 - i.1) ⟨0, by omega⟩ ?_ ?_
          · have hz : fil 16 0 (tB s) (fun _ => (0 : UInt8)) = List.replicate 16 0 := fil_zero ..
            refine Weak.sel [0, 1, 2, 3, 4] rfl rfl ?_ ?_ rfl rfl
            · (repeat' (first | exact trivial | refine And.intro ?_ ?_ | fail)) <;> first | rfl | fail
            · (repeat' (first | exact trivial | refine And.intro ?_ ?_ | (refine wk_cons ?_ ?_))) <;> first | rfl | exact ren_eq (by first | (simp; done) | fail) (by first | rfl | fail) | fail
          · rintro ⟨i, hi⟩
            have hf := fil_len 16 i (tB s) (fun _ => (0 : UInt8))
            dsimp only
            by_cases hi2 : i < 16
            · have hlt : decide ((i : Int) < 16) = true := by simp; omega
              have hp1 := w6_p1 i (by omega)
              have hsh := w9_sh i hi2
              have hst := fil_set (f := tB s) (g := fun _ => (0 : UInt8)) hi2
              have hx : (s.getD ((i + 4 * (i % 4)) % 16) 0).toNat < 256 := UInt8.toNat_lt _
              conv => whnf
              first | refine brT (by exact hlt) ?_ | fail
              conv => whnf
              repeat (first | (refine Exists.intro _ (And.intro (sload_u8 (i := (i + 4 * (i % 4)) % 16) (by first | rfl | omega | fail) (by first | omega | fail)) ?_); conv => whnf) | (refine Exists.intro _ (And.intro (idx_i (m := (i + 4 * (i % 4)) % 16) (by first | rfl | omega | fail)) ?_); conv => whnf) | (refine Exists.intro _ (And.intro (sload_u8 (i := (s.getD ((i + 4 * (i % 4)) % 16) 0).toNat) (by first | rfl | omega | fail) (by first | omega | fail)) ?_); conv => whnf) | (refine Exists.intro _ (And.intro (sput_m8 (i := i) (by first | rfl | omega | fail)) ?_); conv => whnf) | (refine Exists.intro _ (And.intro (idx_i (m := i) (by first | rfl | fail)) ?_); conv => whnf) | (refine Exists.intro _ (And.intro rfl ?_); conv => whnf) | (refine And.intro (by first | omega | (simp; omega) | fail) ?_; conv => whnf) | fail)
              refine ⟨⟨i + 1, by omega⟩, by simp only; omega, ?_⟩
              refine Weak.sel [0, 1, 2, 3, 4] rfl rfl ?_ ?_ rfl rfl
              · (repeat' (first | exact trivial | refine And.intro ?_ ?_ | fail)) <;> first | rfl | exact wk_i (by first | exact hp1.symm | fail) | fail
              · (repeat' (first | exact trivial | refine And.intro ?_ ?_ | fail)) <;> first | exact ren_m8 (by first | exact hst | exact hst.symm | fail) | rfl | exact ren_eq (by first | (simp; done) | fail) (by first | rfl | fail) | fail
            · obtain rfl : i = 16 := by omega
              conv => whnf
              first | refine brF (by rfl) ?_ | fail
              conv => whnf
              repeat (fail)
              have ht : fil 16 16 (tB s) (fun _ => (0 : UInt8)) = (List.range 16).map (tB s) := fil_full ..
              obtain ⟨t, htt⟩ : ∃ t, t = fil 16 16 (tB s) (fun _ => (0 : UInt8)) := ⟨_, rfl⟩
              have htl : t.length = 16 := by rw [htt]; exact fil_len ..
              have htg : ∀ j, j < 16 → t.getD j 0 = tB s j := fun j hj => by rw [htt, ht]; exact rng_getD hj
              rw [← htt]
              have hR : decide (n = R) = !decide (n < R) := by by_cases h : n < R <;> simp [h] <;> omega
              refine loop_rule ttOk mixed (by kernel_rfl) (ι := { i : Nat // i ≤ 16 }) (fun i => [(0, .sl 0 0 256 1 fb), (1, .sl 1 0 nw 1 fw), (7, .i (R : Int)), (8, .sl 3 0 16 1 true), (10, .i (n : Int)), (11, .sl 4 0 16 1 true), (13, .i (i.1 : Int))]) (fun i => [some (.ro (sbx.map .u8)), some (.ro (w.map .u8)), some (.ro (block.map .u8)), some (.row 5 ((fil 16 i.1 (rB (decide (n = R)) w n s) (fun j => s.getD j 0)).map .u8)), some (.row 5 (t.map .u8))]) (fun _ => 5) (fun i => 16 - i.1) ⟨0, by omega⟩ ?_ ?_
              · have hz : fil 16 0 (rB (decide (n = R)) w n s) (fun j => s.getD j 0) = s := fil_of_list hsl
                refine Weak.sel [0, 1, 2, 3, 4] rfl rfl ?_ ?_ rfl rfl
                · (repeat' (first | exact trivial | refine And.intro ?_ ?_ | fail)) <;> first | rfl | fail
                · (repeat' (first | exact trivial | refine And.intro ?_ ?_ | fail)) <;> first | exact ren_m8 (by first | exact hz | fail) | rfl | exact ren_eq (by first | (simp; done) | fail) (by first | rfl | fail) | fail
              · rintro ⟨i, hi⟩
                have hf := fil_len 16 i (rB (decide (n = R)) w n s) (fun j => s.getD j 0)
                dsimp only
                by_cases hi2 : i < 16
                · have hlt : decide ((i : Int) < 16) = true := by simp; omega
                  have hp1 := w6_p1 i (by omega)
                  have ha1 := w9_at i hi2 1 (by omega)
                  have ha2 := w9_at i hi2 2 (by omega)
                  have ha3 := w9_at i hi2 3 (by omega)
                  have h16 := w9_16 n i (by omega) (by omega)
                  by_cases hlast : n < R
                  · have hlr : decide ((n : Int) < (R : Int)) = true := by simp; omega
                    have hrb : (tmSt 8 0 (t.getD i 0) 2 ^^^ tmSt 8 0 (t.getD (i / 4 * 4 + (i + 1) % 4) 0) 3 ^^^ t.getD (i / 4 * 4 + (i + 2) % 4) 0 ^^^ t.getD (i / 4 * 4 + (i + 3) % 4) 0) ^^^ w.getD (16 * n + i) 0 = rB (decide (n = R)) w n s i := by
                      unfold rB
                      rw [hR, show decide (n < R) = true by simp; omega]
                      simp only [Bool.not_true, Bool.not_false, Bool.false_eq_true, if_false, if_true]
                      first | rw [htg i hi2, htg _ (by omega), htg _ (by omega), htg _ (by omega)] | fail
                    have hst := fil_setx (f := rB (decide (n = R)) w n s) (g := fun j => s.getD j 0) hi2 hrb
                    conv => whnf
                    first | refine brT (by exact hlt) ?_ | fail
                    conv => whnf
                    repeat (first | (refine Exists.intro _ (And.intro (sload_u8 (i := i) (by first | rfl | omega | fail) (by first | omega | fail)) ?_); conv => whnf) | (refine Exists.intro _ (And.intro (idx_i (m := i) (by first | rfl | fail)) ?_); conv => whnf) | (refine Exists.intro _ (And.intro (sload_u8 (i := i / 4 * 4 + (i + 1) % 4) (by first | rfl | omega | fail) (by first | omega | fail)) ?_); conv => whnf) | (refine Exists.intro _ (And.intro (idx_i (m := i / 4 * 4 + (i + 1) % 4) (by first | rfl | omega | fail)) ?_); conv => whnf) | (refine Exists.intro _ (And.intro (sload_u8 (i := i / 4 * 4 + (i + 2) % 4) (by first | rfl | omega | fail) (by first | omega | fail)) ?_); conv => whnf) | (refine Exists.intro _ (And.intro (idx_i (m := i / 4 * 4 + (i + 2) % 4) (by first | rfl | omega | fail)) ?_); conv => whnf) | (refine Exists.intro _ (And.intro (sload_u8 (i := i / 4 * 4 + (i + 3) % 4) (by first | rfl | omega | fail) (by first | omega | fail)) ?_); conv => whnf) | (refine Exists.intro _ (And.intro (idx_i (m := i / 4 * 4 + (i + 3) % 4) (by first | rfl | omega | fail)) ?_); conv => whnf) | (refine Exists.intro _ (And.intro rfl ?_); conv => whnf) | (refine And.intro (by first | omega | fail) ?_; conv => whnf) | (refine And.intro (by kernel_rfl) ?_; conv => whnf) | fail)
                    first | refine brT (by exact hlr) ?_ | fail
                    conv => whnf
                    refine ok1_callP [] (f81 (t.getD i 0) 2) rfl rfl ⟨⟨rfl, by first | rfl | fail⟩, trivial, by first | rfl | fail, ?_⟩
                    conv => whnf
                    repeat (fail)
                    refine ok1_callP [] (f81 (t.getD (i / 4 * 4 + (i + 1) % 4) 0) 3) rfl rfl ⟨⟨rfl, by first | rfl | fail⟩, trivial, by first | rfl | fail, ?_⟩
                    conv => whnf
                    repeat (first | (refine Exists.intro _ (And.intro (sput_m8 (i := i) (by first | rfl | omega | fail)) ?_); conv => whnf) | (refine Exists.intro _ (And.intro (idx_i (m := i) (by first | rfl | fail)) ?_); conv => whnf) | (refine Exists.intro _ (And.intro (sload_u8 (i := 16 * n + i) (by first | rfl | omega | fail) (by first | omega | fail)) ?_); conv => whnf) | (refine Exists.intro _ (And.intro (idx_i (m := 16 * n + i) (by first | rfl | omega | fail)) ?_); conv => whnf) | (refine And.intro (by first | omega | fail) ?_; conv => whnf) | (refine And.intro ⟨by first | exact @rfl Nat _ | fail, by first | (simp only [hf, hw, ti5, List.length_map]; omega) | fail⟩ ?_; conv => whnf) | fail)
                    refine ⟨⟨i + 1, by omega⟩, by simp only; omega, ?_⟩
                    refine Weak.sel [0, 1, 2, 3, 4] rfl rfl ?_ ?_ rfl rfl
                    · (repeat' (first | exact trivial | refine And.intro ?_ ?_ | fail)) <;> first | rfl | exact wk_i (by first | exact hp1.symm | fail) | fail
                    · (repeat' (first | exact trivial | refine And.intro ?_ ?_ | fail)) <;> first | exact ren_m8 (by first | exact hst | exact hst.symm | fail) | rfl | exact ren_eq (by first | (simp; done) | fail) (by first | rfl | fail) | fail
                  · have hlr : decide ((n : Int) < (R : Int)) = false := by simp; omega
                    have hrb : (t.getD i 0) ^^^ w.getD (16 * n + i) 0 = rB (decide (n = R)) w n s i := by
                      unfold rB
                      rw [hR, show decide (n < R) = false by simp; omega]
                      simp only [Bool.not_true, Bool.not_false, Bool.false_eq_true, if_false, if_true]
                      first | rw [htg i hi2]
                    have hst := fil_setx (f := rB (decide (n = R)) w n s) (g := fun j => s.getD j 0) hi2 hrb
                    conv => whnf
                    first | refine brT (by exact hlt) ?_ | fail
                    conv => whnf
                    repeat (first | (refine Exists.intro _ (And.intro (sload_u8 (i := i) (by first | rfl | omega | fail) (by first | omega | fail)) ?_); conv => whnf) | (refine Exists.intro _ (And.intro (idx_i (m := i) (by first | rfl | fail)) ?_); conv => whnf) | (refine Exists.intro _ (And.intro (sload_u8 (i := i / 4 * 4 + (i + 1) % 4) (by first | rfl | omega | fail) (by first | omega | fail)) ?_); conv => whnf) | (refine Exists.intro _ (And.intro (idx_i (m := i / 4 * 4 + (i + 1) % 4) (by first | rfl | omega | fail)) ?_); conv => whnf) | (refine Exists.intro _ (And.intro (sload_u8 (i := i / 4 * 4 + (i + 2) % 4) (by first | rfl | omega | fail) (by first | omega | fail)) ?_); conv => whnf) | (refine Exists.intro _ (And.intro (idx_i (m := i / 4 * 4 + (i + 2) % 4) (by first | rfl | omega | fail)) ?_); conv => whnf) | (refine Exists.intro _ (And.intro (sload_u8 (i := i / 4 * 4 + (i + 3) % 4) (by first | rfl | omega | fail) (by first | omega | fail)) ?_); conv => whnf) | (refine Exists.intro _ (And.intro (idx_i (m := i / 4 * 4 + (i + 3) % 4) (by first | rfl | omega | fail)) ?_); conv => whnf) | (refine Exists.intro _ (And.intro rfl ?_); conv => whnf) | (refine And.intro (by first | omega | (simp; omega) | fail) ?_; conv => whnf) | (refine And.intro (by kernel_rfl) ?_; conv => whnf) | fail)
                    first | intro _
                    conv => whnf
                    repeat (first | (refine Exists.intro _ (And.intro (sput_m8 (i := i) (by first | rfl | omega | fail)) ?_); conv => whnf) | (refine Exists.intro _ (And.intro (idx_i (m := i) (by first | rfl | fail)) ?_); conv => whnf) | (refine Exists.intro _ (And.intro (sload_u8 (i := 16 * n + i) (by first | rfl | omega | fail) (by first | omega | fail)) ?_); conv => whnf) | (refine Exists.intro _ (And.intro (idx_i (m := 16 * n + i) (by first | rfl | omega | fail)) ?_); conv => whnf) | (refine And.intro (by first | omega | fail) ?_; conv => whnf) | (refine And.intro ⟨by first | exact @rfl Nat _ | fail, by first | (simp only [hf, hw, ti5, List.length_map]; omega) | fail⟩ ?_; conv => whnf) | fail)
                    refine ⟨⟨i + 1, by omega⟩, by simp only; omega, ?_⟩
                    refine Weak.sel [0, 1, 2, 3, 4] rfl rfl ?_ ?_ rfl rfl
                    · (repeat' (first | exact trivial | refine And.intro ?_ ?_ | fail)) <;> first | rfl | exact wk_i (by first | exact hp1.symm | fail) | fail
                    · (repeat' (first | exact trivial | refine And.intro ?_ ?_ | fail)) <;> first | exact ren_m8 (by first | exact hst | exact hst.symm | fail) | rfl | exact ren_eq (by first | (simp; done) | fail) (by first | rfl | fail) | fail
                · obtain rfl : i = 16 := by omega
                  have hfin : fil 16 16 (rB (decide (n = R)) w n s) (fun j => s.getD j 0) = sealSt w R block (n + 1 - 1) := by rw [fil_full, rB_rnd _ _ _ _ hsl]; exact hnx hn
                  have hp1 := w6_p1 n (by omega)
                  conv => whnf
                  first | refine brF (by rfl) ?_ | fail
                  conv => whnf
                  repeat (fail)
                  refine ⟨⟨n + 1, by omega, by omega⟩, by simp only; omega, ?_⟩
                  refine Weak.sel [0, 1, 2, 3] rfl rfl ?_ ?_ rfl rfl
                  · (repeat' (first | exact trivial | refine And.intro ?_ ?_ | fail)) <;> first | rfl | exact wk_i (by first | exact hp1.symm | fail) | fail
                  · (repeat' (first | exact trivial | refine And.intro ?_ ?_ | fail)) <;> first | exact ren_m8 (by first | exact hfin | exact hfin.symm | fail) | rfl | exact ren_eq (by first | (simp; done) | fail) (by first | rfl | fail) | fail
        · obtain rfl : n = R + 1 := by omega
          have hle : decide (((R + 1 : Nat) : Int) ≤ (R : Int)) = false := by simp; omega
          have hs2 : s = sealSt w R block R := hs
          conv => whnf
          first | refine brF (by exact hle) ?_ | fail
          conv => whnf
          repeat (fail)
          refine ⟨[0, 1, 2, 3], ?_, rfl, rfl, ?_, rfl⟩
          · (repeat' (fail)) <;> first | rfl | fail
          · (repeat' (first | exact trivial | refine And.intro ?_ ?_ | fail)) <;> first | exact ren_m8 (by first | exact hs2 | exact hs2.symm | fail) | rfl | exact ren_eq (by first | (simp; done) | fail) (by first | rfl | fail) | fail
end Go.Sh
/- ctr's reference: the next counter (f57), a text turned (f55). -/
namespace Go.Sh
open Go.Proofs
set_option maxHeartbeats 4000000
set_option linter.unusedSimpArgs false

/-- The number of a counter's last bytes, so far. -/
def cn64 (c : List UInt8) : Nat → UInt64
  | 0 => 0
  | i + 1 => 256 * cn64 c i + (c.getD (12 + i) 0).toUInt64
theorem cn64_s (c : List UInt8) (i : Nat) : cn64 c (i + 1) = 256 * cn64 c i + (c.getD (12 + i) 0).toUInt64 := rfl
theorem cn64_z (c : List UInt8) : cn64 c 0 = 0 := rfl

theorem u8_64 (x : UInt8) : x.toUInt64.toNat = x.toNat := by simp
theorem cn64_num (c : List UInt8) : (cn64 c 4).toNat = cnum (c.getD 12 0) (c.getD 13 0) (c.getD 14 0) (c.getD 15 0) := by
  have ha : (c.getD 12 0).toNat < 256 := UInt8.toNat_lt _
  have hb : (c.getD 13 0).toNat < 256 := UInt8.toNat_lt _
  have hc : (c.getD 14 0).toNat < 256 := UInt8.toNat_lt _
  have hd : (c.getD 15 0).toNat < 256 := UInt8.toNat_lt _
  unfold cnum
  simp only [cn64, UInt64.toNat_add, UInt64.toNat_mul, u8_64]
  rw [show UInt64.toNat 256 = 256 from rfl, show UInt64.toNat 0 = 0 from rfl]
  simp only [Nat.add_zero, show 12 + 1 = 13 from rfl, show 12 + 2 = 14 from rfl, show 12 + 3 = 15 from rfl]
  omega
theorem cnum_lt (a b c d : UInt8) : cnum a b c d < 4294967296 := by
  have ha : a.toNat < 256 := UInt8.toNat_lt _
  have hb : b.toNat < 256 := UInt8.toNat_lt _
  have hc : c.toNat < 256 := UInt8.toNat_lt _
  have hd : d.toNat < 256 := UInt8.toNat_lt _
  unfold cnum; omega
theorem u64_8 (x : UInt64) (n : Nat) (h : x.toNat = n) : x.toUInt8 = UInt8.ofNat n := by
  apply UInt8.toNat_inj.mp; subst h; simp
theorem cb64 (x : UInt64) (a b c d : UInt8) (h : x.toNat = cnum a b c d) : [((x + 1) % 4294967296 / 16777216).toUInt8, ((x + 1) % 4294967296 / 65536 % 256).toUInt8, ((x + 1) % 4294967296 / 256 % 256).toUInt8, ((x + 1) % 4294967296 % 256).toUInt8] = inc4 a b c d := by
  have hl := cnum_lt a b c d
  rw [inc4_num, ← h]
  rw [← h] at hl
  unfold cbyt
  have e : ((x + 1) % 4294967296).toNat = (x.toNat + 1) % 4294967296 := by
    rw [UInt64.toNat_mod, UInt64.toNat_add]
    rw [show UInt64.toNat 4294967296 = 4294967296 from rfl, show UInt64.toNat 1 = 1 from rfl]
    omega
  simp only [List.cons.injEq, and_true]
  refine ⟨u64_8 _ _ ?_, u64_8 _ _ ?_, u64_8 _ _ ?_, u64_8 _ _ ?_⟩
  · rw [UInt64.toNat_div, e]; rfl
  · rw [UInt64.toNat_mod, UInt64.toNat_div, e]; rfl
  · rw [UInt64.toNat_mod, UInt64.toNat_div, e]; rfl
  · rw [UInt64.toNat_mod, e]; rfl

theorem f57 (fl : Bool) (c : List UInt8) (hc : c.length = 16) : SCall Try.prog 57 [.sl 0 0 16 1 fl] [some (.ro (c.map .u8))] (.sl 1 0 16 1 false) [some (.ro (c.map .u8)), some (.row 5 ((nextC c).map .u8))] := by
  refine scall_of ttOk (by kernel_rfl : Try.prog.funcs[57]? = some Try.f57) rfl rfl rfl ?_
  refine sw_ok ttOk mixed (by kernel_rfl) ?_
  conv => whnf
  repeat (fail)
  refine loop_rule ttOk mixed (by kernel_rfl) (ι := { i : Nat // i ≤ 4 }) (fun i => [(0, .sl 0 0 16 1 fl), (3, .u64 (cn64 c i.1)), (4, .i ((12 + i.1 : Nat) : Int))]) (fun i => [some (.ro (c.map .u8))]) (fun _ => 1) (fun i => 4 - i.1) ⟨0, by omega⟩ ?_ ?_
  · refine Weak.sel [0] rfl rfl ?_ ?_ rfl rfl
    · (repeat' (first | exact trivial | refine And.intro ?_ ?_ | fail)) <;> first | rfl | fail
    · (repeat' (first | exact trivial | refine And.intro ?_ ?_ | fail)) <;> first | exact ren_eq (by first | (simp; done) | fail) (by first | rfl | fail) | fail
  · rintro ⟨i, hi⟩
    dsimp only
    by_cases hi2 : i < 4
    · have hlt : decide (((12 + i : Nat) : Int) < 16) = true := by simp; omega
      have hp1 := w6_p1 (12 + i) (by omega)
      conv => whnf
      first | refine brT (by exact hlt) ?_ | fail
      conv => whnf
      repeat (first | (refine Exists.intro _ (And.intro (sload_u8 (i := 12 + i) (by first | rfl | omega | fail) (by first | omega | fail)) ?_); conv => whnf) | (refine Exists.intro _ (And.intro (idx_i (m := 12 + i) (by first | rfl | fail)) ?_); conv => whnf) | (refine And.intro (by first | omega | fail) ?_; conv => whnf) | fail)
      refine ⟨⟨i + 1, by omega⟩, by simp only; omega, ?_⟩
      refine Weak.sel [0] rfl rfl ?_ ?_ rfl rfl
      · (repeat' (first | exact trivial | refine And.intro ?_ ?_ | fail)) <;> first | rfl | exact wk_i (by first | exact hp1.symm | fail) | fail
      · (repeat' (first | exact trivial | refine And.intro ?_ ?_ | fail)) <;> first | exact ren_eq (by first | (simp; done) | fail) (by first | rfl | fail) | fail
    · obtain rfl : i = 4 := by omega
      have hlt : decide (((12 + 4 : Nat) : Int) < 16) = false := by decide
      conv => whnf
      first | refine brF (by exact hlt) ?_ | fail
      conv => whnf
      repeat (first | (refine Exists.intro _ (And.intro rfl ?_); conv => whnf) | (refine And.intro (by first | omega | (simp [ti5]; omega)) ?_; conv => whnf) | fail)
      obtain ⟨c0, c1, c2, c3, c4, c5, c6, c7, c8, c9, c10, c11, c12, c13, c14, c15, rfl⟩ := ex16 hc
      have hcb := cb64 _ _ _ _ _ (cn64_num [c0, c1, c2, c3, c4, c5, c6, c7, c8, c9, c10, c11, c12, c13, c14, c15])
      obtain ⟨x, hx⟩ : ∃ x, x = cn64 [c0, c1, c2, c3, c4, c5, c6, c7, c8, c9, c10, c11, c12, c13, c14, c15] 4 := ⟨_, rfl⟩
      rw [← hx] at hcb ⊢
      have hfin : (nextC [c0, c1, c2, c3, c4, c5, c6, c7, c8, c9, c10, c11, c12, c13, c14, c15]).map SV.u8 = [c0, c1, c2, c3, c4, c5, c6, c7, c8, c9, c10, c11].map SV.u8 ++ ([((x + 1) % 4294967296 / 16777216).toUInt8, ((x + 1) % 4294967296 / 65536 % 256).toUInt8, ((x + 1) % 4294967296 / 256 % 256).toUInt8, ((x + 1) % 4294967296 % 256).toUInt8]).map SV.u8 := by rw [hcb]; rfl
      refine ⟨[0, 4], ?_, rfl, rfl, ?_, rfl⟩
      · (repeat' (fail)) <;> first | rfl | fail
      · (repeat' (first | exact trivial | exact ren_eq (plainL_u8 _) hfin | refine And.intro ?_ ?_ | (refine wk_cons ?_ ?_))) <;> first | rfl | fail
end Go.Sh
/- ctr's reference: a text turned (f55). -/
namespace Go.Sh
open Go.Proofs
set_option maxHeartbeats 4000000
set_option linter.unusedSimpArgs false

theorem wp1 (n : Nat) (h : n < 4611686018427387904) : w64 ((n : Int) + 1) = ((n + 1 : Nat) : Int) := by simp only [w64_eq]; omega
theorem tmod_nk (n k : Nat) : ((n : Int)).tmod (k : Int) = ((n % k : Nat) : Int) := by rw [Int.tmod_eq_emod_of_nonneg (by omega)]; omega
/-- The k-th counter; the stream's blocks; a text turned. -/
def ctrN (c : List UInt8) : Nat → List UInt8
  | 0 => c
  | k + 1 => nextC (ctrN c k)
theorem ctrN_z (c : List UInt8) : ctrN c 0 = c := rfl
theorem ctrN_s (c : List UInt8) (k : Nat) : ctrN c (k + 1) = nextC (ctrN c k) := rfl
theorem ctrN_len {c : List UInt8} (h : c.length = 16) : ∀ k, (ctrN c k).length = 16
  | 0 => h
  | k + 1 => nextC_len (ctrN_len h k)
def ksB (w : List UInt8) (R : Nat) (c : List UInt8) (k : Nat) : List UInt8 := sealSt w R (ctrN c k) R
theorem ksB_len {w : List UInt8} {R : Nat} {c : List UInt8} (h : c.length = 16) (k : Nat) : (ksB w R c k).length = 16 := sealSt_len w R _ (ctrN_len h k) R
def trn (w : List UInt8) (R : Nat) (c b : List UInt8) (j : Nat) : UInt8 := b.getD j 0 ^^^ (ksB w R c (j / 16)).getD (j % 16) 0
def turnL (w : List UInt8) (R : Nat) (c b : List UInt8) : List UInt8 := (List.range b.length).map (trn w R c b)

def sreg : Nat → SV
  | 0 => .slnil
  | _ + 1 => .sl 6 0 16 1 true
def sent (w : List UInt8) (R : Nat) (c : List UInt8) : Nat → Option SB
  | 0 => none
  | i + 1 => some (.row 5 ((ksB w R c (i / 16)).map .u8))
theorem ksB_eq (w : List UInt8) (R : Nat) (c : List UInt8) (k : Nat) : sealSt w R (ctrN c k) R = ksB w R c k := rfl
attribute [local irreducible] ctrN ksB

theorem f55 (fb fw ff fo : Bool) (w c b : List UInt8) (R : Nat) (hw : w.length = 16 * (R + 1)) (hR1 : 1 ≤ R) (hR2 : R ≤ 20) (hc : c.length = 16) (hbl : b.length < 100000000000000) :
    SCall Try.prog 55 [.sl 0 0 256 1 fb, .sl 1 0 (16 * (R + 1)) 1 fw, .sl 2 0 16 1 ff, .sl 3 0 b.length 1 fo] [some (.ro (sbx.map .u8)), some (.ro (w.map .u8)), some (.ro (c.map .u8)), some (.ro (b.map .u8))]
      (.sl 4 0 b.length 1 false) [some (.ro (sbx.map .u8)), some (.ro (w.map .u8)), some (.ro (c.map .u8)), some (.ro (b.map .u8)), some (.row 5 ((turnL w R c b).map .u8))] := by
  have hsl := sbx_len
  refine scall_of ttOk (by kernel_rfl : Try.prog.funcs[55]? = some Try.f55) rfl rfl rfl ?_
  refine sw_ok ttOk mixed (by kernel_rfl) ?_
  conv => whnf
  repeat (first | (refine Exists.intro _ (And.intro rfl ?_); conv => whnf) | (refine And.intro (by first | omega | (simp [ti5]; omega)) ?_; conv => whnf) | fail)
  refine SWp.weak (Weak.virt 10 5 1 rfl) ?_
  refine loop_rule ttOk mixed (by kernel_rfl) (ι := { i : Nat // i ≤ b.length }) (fun i => [(0, .sl 0 0 256 1 fb), (1, .sl 1 0 (16 * (R + 1)) 1 fw), (3, .sl 3 0 b.length 1 fo), (9, .sl 4 0 16 1 false), (10, .sl 5 0 i.1 1 false), (11, sreg i.1), (12, .i (i.1 : Int))]) (fun i => [some (.ro (sbx.map .u8)), some (.ro (w.map .u8)), some (.ro (c.map .u8)), some (.ro (b.map .u8)), some (.row 5 ((ctrN c ((i.1 + 15) / 16)).map .u8)), some (.row 5 (((List.range i.1).map (trn w R c b)).map .u8)), sent w R c i.1]) (fun _ => 7) (fun i => b.length - i.1) ⟨0, by omega⟩ ?_ ?_
  · have hc0 : (ctrN c ((0 + 15) / 16)).map SV.u8 = List.take 16 (List.drop 0 (c.map SV.u8)) := by
      rw [show (0 + 15) / 16 = 0 from rfl, ctrN_z, List.drop_zero, List.take_of_length_le (by simp [hc])]
    refine Weak.sel [0, 1, 2, 3, 5, 6, 0] rfl rfl ?_ ?_ rfl rfl
    · (repeat' (first | exact trivial | refine And.intro ?_ ?_ | fail)) <;> first | rfl | fail
    · (repeat' (first | exact trivial | exact ren_eq (plainL_u8 _) hc0 | refine And.intro ?_ ?_ | fail)) <;> first | rfl | exact ren_eq (by first | (simp; done) | fail) (by first | rfl | fail) | fail
  · rintro ⟨i, hi⟩
    have hf : ((List.range i).map (trn w R c b)).length = i := rng_len
    dsimp only
    by_cases hi2 : i < b.length
    · have hlt : decide ((i : Int) < (b.length : Int)) = true := by simp; omega
      have hp1 := wp1 i (by omega)
      have htm : ((i : Int)).tmod 16 = ((i % 16 : Nat) : Int) := tmod_nk i 16
      by_cases h0 : i % 16 = 0
      · have hm : ((i : Int).tmod 16 == 0) = true := by rw [htm, h0]; rfl
        rcases i with _ | i
        · skip
          have hk1 : (0 + 15) / 16 = 0 / 16 := by omega
          have hk2 : ctrN c ((0 + 1 + 15) / 16) = nextC (ctrN c (0 / 16)) := by rw [show (0 + 1 + 15) / 16 = 0 / 16 + 1 by omega, ctrN_s]
          have h49 := f49 fb fw false w (ctrN c (0 / 16)) R hw hR1 hR2 (ctrN_len hc _)
          have h57 := f57 false (ctrN c (0 / 16)) (ctrN_len hc _)
          have hkl := ksB_len (w := w) (R := R) hc (0 / 16)
          rw [ksB_eq] at h49
          rw [hk1]
          have hs : (List.range (0 + 1)).map (trn w R c b) = (List.range 0).map (trn w R c b) ++ [trn w R c b 0] := rng_succ
          have happ : List.take (0 * 1) (List.drop 0 (((List.range 0).map (trn w R c b)).map SV.u8)) ++ List.take (1 * 1) (List.drop 0 [SV.u8 (b.getD 0 0 ^^^ (ksB w R c (0 / 16)).getD (0 % 16) 0)]) = ((List.range (0 + 1)).map (trn w R c b)).map SV.u8 := by rw [app1 rng_len, hs]; rfl
          conv => whnf
          first | refine brT (by exact hlt) ?_ | fail
          conv => whnf
          repeat (first | (refine brT rfl ?_; conv => whnf) | (refine Exists.intro _ (And.intro rfl ?_); conv => whnf) | fail)
          first | skip
          repeat (fail)
          refine ok1_callP [0, 1, 4] (h49) rfl rfl ⟨⟨rfl, by first | rfl | fail⟩, by (repeat' (first | exact trivial | refine And.intro ?_ ?_)) <;> first | exact ren_eq (by first | (simp; done) | fail) (by first | rfl | fail), by first | simp [plainH], ?_⟩
          conv => whnf
          repeat (fail)
          refine ok1_callP [4] (h57) rfl rfl ⟨⟨rfl, by first | rfl | fail⟩, by (repeat' (first | exact trivial | refine And.intro ?_ ?_)) <;> first | exact ren_eq (by first | (simp; done) | fail) (by first | rfl | fail), by first | simp [plainH], ?_⟩
          conv => whnf
          repeat (first | (refine Exists.intro _ (And.intro (sload_u8 (i := 0) (by first | rfl | fail) (by first | omega | fail)) ?_); conv => whnf) | (refine Exists.intro _ (And.intro (idx_i (m := 0) (by first | rfl | fail)) ?_); conv => whnf) | (refine Exists.intro _ (And.intro rfl ?_); conv => whnf) | (refine And.intro (by first | omega | fail) ?_; conv => whnf) | (refine And.intro ⟨Nat.le_of_ble_eq_true rfl, Nat.le_of_ble_eq_true rfl, Nat.le_of_ble_eq_true rfl⟩ ?_; conv => whnf) | (refine And.intro (by kernel_rfl) ?_; conv => whnf) | fail)
          refine ⟨⟨0 + 1, by omega⟩, by simp only; omega, ?_⟩
          refine Weak.sel [0, 1, 2, 3, 8, 10, 7] rfl rfl ?_ ?_ rfl rfl
          · (repeat' (first | exact trivial | refine And.intro ?_ ?_ | fail)) <;> first | rfl | fail
          · (repeat' (first | exact trivial | exact ren_eq (plainL_u8 _) happ.symm | refine And.intro ?_ ?_ | fail)) <;> first | exact ren_m8 (by first | exact hk2 | fail) | rfl | exact ren_eq (by first | (simp; done) | fail) (by first | rfl | fail) | fail
        · skip
          have hk1 : ((i + 1) + 15) / 16 = (i + 1) / 16 := by omega
          have hk2 : ctrN c (((i + 1) + 1 + 15) / 16) = nextC (ctrN c ((i + 1) / 16)) := by rw [show ((i + 1) + 1 + 15) / 16 = (i + 1) / 16 + 1 by omega, ctrN_s]
          have h49 := f49 fb fw false w (ctrN c ((i + 1) / 16)) R hw hR1 hR2 (ctrN_len hc _)
          have h57 := f57 false (ctrN c ((i + 1) / 16)) (ctrN_len hc _)
          have hkl := ksB_len (w := w) (R := R) hc ((i + 1) / 16)
          rw [ksB_eq] at h49
          rw [hk1]
          have hs : (List.range ((i + 1) + 1)).map (trn w R c b) = (List.range (i + 1)).map (trn w R c b) ++ [trn w R c b (i + 1)] := rng_succ
          have happ : List.take ((i + 1) * 1) (List.drop 0 (((List.range (i + 1)).map (trn w R c b)).map SV.u8)) ++ List.take (1 * 1) (List.drop 0 [SV.u8 (b.getD (i + 1) 0 ^^^ (ksB w R c ((i + 1) / 16)).getD ((i + 1) % 16) 0)]) = ((List.range ((i + 1) + 1)).map (trn w R c b)).map SV.u8 := by rw [app1 rng_len, hs]; rfl
          conv => whnf
          first | refine brT (by exact hlt) ?_ | fail
          conv => whnf
          repeat (first | (refine Exists.intro _ (And.intro rfl ?_); conv => whnf) | fail)
          first | (refine brT (by exact hm) ?_; conv => whnf) | fail
          repeat (fail)
          refine ok1_callP [0, 1, 4] (h49) rfl rfl ⟨⟨rfl, by first | rfl | fail⟩, by (repeat' (first | exact trivial | refine And.intro ?_ ?_)) <;> first | exact ren_eq (by first | (simp; done) | fail) (by first | rfl | fail), by first | simp [plainH], ?_⟩
          conv => whnf
          repeat (fail)
          refine ok1_callP [4] (h57) rfl rfl ⟨⟨rfl, by first | rfl | fail⟩, by (repeat' (first | exact trivial | refine And.intro ?_ ?_)) <;> first | exact ren_eq (by first | (simp; done) | fail) (by first | rfl | fail), by first | simp [plainH], ?_⟩
          conv => whnf
          repeat (first | (refine Exists.intro _ (And.intro (sload_u8 (i := (i + 1)) (by first | rfl | omega | fail) (by first | omega | fail)) ?_); conv => whnf) | (refine Exists.intro _ (And.intro (idx_i (m := (i + 1)) (by first | rfl | fail)) ?_); conv => whnf) | (refine Exists.intro _ (And.intro (sload_u8 (i := (i + 1) % 16) (by first | rfl | omega | fail) (by first | omega | fail)) ?_); conv => whnf) | (refine Exists.intro _ (And.intro (idx_i (m := (i + 1) % 16) (by first | rfl | fail)) ?_); conv => whnf) | (refine Exists.intro _ (And.intro rfl ?_); conv => whnf) | (refine And.intro (by first | omega | (simp [ti5]; omega)) ?_; conv => whnf) | (refine And.intro (by kernel_rfl) ?_; conv => whnf) | fail)
          refine ⟨⟨(i + 1) + 1, by omega⟩, by simp only; omega, ?_⟩
          refine Weak.sel [0, 1, 2, 3, 8, 10, 7] rfl rfl ?_ ?_ rfl rfl
          · (repeat' (first | exact trivial | refine And.intro ?_ ?_ | fail)) <;> first | rfl | exact wk_i (by first | exact hp1.symm | fail) | fail
          · (repeat' (first | exact trivial | exact ren_eq (plainL_u8 _) happ.symm | refine And.intro ?_ ?_ | fail)) <;> first | exact ren_m8 (by first | exact hk2 | fail) | rfl | exact ren_eq (by first | (simp; done) | fail) (by first | rfl | fail) | fail
      · have hm : ((i : Int).tmod 16 == 0) = false := by rw [htm]; simp; omega
        rcases i with _ | i
        · exact absurd rfl h0
        · have hk3 : ctrN c ((i + 1 + 1 + 15) / 16) = ctrN c ((i + 1 + 15) / 16) := by rw [show (i + 1 + 1 + 15) / 16 = (i + 1 + 15) / 16 by omega]
          have hk4 : ksB w R c ((i + 1) / 16) = ksB w R c (i / 16) := by rw [show (i + 1) / 16 = i / 16 by omega]
          have hkl := ksB_len (w := w) (R := R) hc (i / 16)
          have hs : (List.range (i + 1 + 1)).map (trn w R c b) = (List.range (i + 1)).map (trn w R c b) ++ [trn w R c b (i + 1)] := rng_succ
          have happ : List.take ((i + 1) * 1) (List.drop 0 (((List.range (i + 1)).map (trn w R c b)).map SV.u8)) ++ List.take (1 * 1) (List.drop 0 [SV.u8 (b.getD (i + 1) 0 ^^^ (ksB w R c (i / 16)).getD ((i + 1) % 16) 0)]) = ((List.range (i + 1 + 1)).map (trn w R c b)).map SV.u8 := by rw [app1 rng_len, hs, ← hk4]; rfl
          conv => whnf
          first | refine brT (by exact hlt) ?_ | fail
          conv => whnf
          repeat (first | (refine Exists.intro _ (And.intro rfl ?_); conv => whnf) | fail)
          first | refine brF (by exact hm) ?_ | fail
          conv => whnf
          repeat (first | (refine Exists.intro _ (And.intro (sload_u8 (i := i + 1) (by first | rfl | omega | fail) (by first | omega | fail)) ?_); conv => whnf) | (refine Exists.intro _ (And.intro (idx_i (m := i + 1) (by first | rfl | fail)) ?_); conv => whnf) | (refine Exists.intro _ (And.intro (sload_u8 (i := (i + 1) % 16) (by first | rfl | omega | fail) (by first | omega | fail)) ?_); conv => whnf) | (refine Exists.intro _ (And.intro (idx_i (m := (i + 1) % 16) (by first | rfl | fail)) ?_); conv => whnf) | (refine Exists.intro _ (And.intro rfl ?_); conv => whnf) | (refine And.intro (by first | omega | (simp [ti5]; omega)) ?_; conv => whnf) | (refine And.intro (by kernel_rfl) ?_; conv => whnf) | fail)
          refine ⟨⟨i + 1 + 1, by omega⟩, by simp only; omega, ?_⟩
          refine Weak.sel [0, 1, 2, 3, 4, 8, 6] rfl rfl ?_ ?_ rfl rfl
          · (repeat' (first | exact trivial | refine And.intro ?_ ?_ | fail)) <;> first | rfl | exact wk_i (by first | exact hp1.symm | fail) | fail
          · (repeat' (first | exact trivial | exact ren_eq (plainL_u8 _) happ.symm | refine And.intro ?_ ?_ | fail)) <;> first | exact ren_m8 (by first | exact hk3 | exact hk4 | fail) | rfl | exact ren_eq (by first | (simp; done) | fail) (by first | rfl | fail) | fail
    · obtain rfl : i = b.length := by omega
      have hlt : decide ((b.length : Int) < (b.length : Int)) = false := by simp
      conv => whnf
      first | refine brF (by exact hlt) ?_ | fail
      conv => whnf
      repeat (fail)
      refine ⟨[0, 1, 2, 3, 5], ?_, rfl, rfl, ?_, rfl⟩
      · (repeat' (fail)) <;> first | rfl | fail
      · (repeat' (first | exact trivial | refine And.intro ?_ ?_ | fail)) <;> first | rfl | exact ren_eq (by first | (simp; done) | fail) (by first | rfl | fail) | fail
end Go.Sh
/- gcm: blocks as polynomials (f90, f93). -/
namespace Go.Sh
open Go.Proofs
set_option maxHeartbeats 4000000
set_option linter.unusedSimpArgs false

/-- Bytes as a word, the first one the highest. -/
def be8 (l : List UInt8) (o : Nat) : Nat → UInt64
  | 0 => 0
  | k + 1 => shl64 (be8 l o k) 8 ||| (l.getD (o + k) 0).toUInt64
theorem be8_z (l : List UInt8) (o : Nat) : be8 l o 0 = 0 := rfl
theorem be8_s (l : List UInt8) (o k : Nat) : be8 l o (k + 1) = shl64 (be8 l o k) 8 ||| (l.getD (o + k) 0).toUInt64 := rfl
attribute [local irreducible] be8
theorem d8 : ∀ i : Nat, i < 16 → w64 ((i : Int).tdiv 8) = ((i / 8 : Nat) : Int) := by decide

theorem f90 (l : List UInt8) (hl : l.length = 16) : SCall Try.prog 90 [.agg (l.map .u8)] [] (.agg [.u64 (rev64 (be8 l 0 8)), .u64 (rev64 (be8 l 8 8))]) [] := by
  refine scall_of ttOk (by kernel_rfl : Try.prog.funcs[90]? = some Try.f90) rfl rfl rfl ?_
  refine sw_ok ttOk mixed (by kernel_rfl) ?_
  conv => whnf
  repeat (first | (refine Exists.intro _ (And.intro (sload_all rfl (by first | rfl | (simp; omega))) ?_); conv => whnf) | fail)
  refine loop_rule ttOk mixed (by kernel_rfl) (ι := { i : Nat // i ≤ 16 }) (fun i => [(7, .i (i.1 : Int)), (6, .agg (l.map .u8)), (3, .p 2 0), (2, .p 1 0)]) (fun i => [none, some (.box [.u64 0, .u64 0]), some (.box [.u64 (be8 l 0 (min i.1 8)), .u64 (be8 l 8 (i.1 - 8))])]) (fun _ => 3) (fun i => 16 - i.1) ⟨0, by omega⟩ ?_ ?_
  · have h0 : be8 l 0 (min 0 8) = 0 := be8_z ..
    have h1 : be8 l 8 (0 - 8) = 0 := be8_z ..
    refine Weak.sel [0, 1, 2] rfl rfl ⟨rfl, ?_, rfl, rfl, trivial⟩ ⟨rfl, ?_, trivial⟩ rfl rfl
    · exact wk_agg (ren_m8 rfl)
    · exact wk_cons (wk_u64 h0) (wk_cons (wk_u64 h1) rfl)
  · rintro ⟨i, hi⟩
    dsimp only
    by_cases hi2 : i < 16
    · have hlt : decide ((i : Int) < 16) = true := by simp; omega
      have hp1 := w6_p1 i (by omega)
      have hd := d8 i hi2
      by_cases h8 : i < 8
      · rw [show i / 8 = 0 by omega] at hd
        have hs0 : be8 l 0 (min (i + 1) 8) = shl64 (be8 l 0 (min i 8)) 8 ||| (l.getD i 0).toUInt64 := by
          rw [show min (i + 1) 8 = min i 8 + 1 by omega, be8_s, show 0 + min i 8 = i by omega]
        have hs1 : be8 l 8 (i + 1 - 8) = be8 l 8 (i - 8) := by rw [show i + 1 - 8 = i - 8 by omega]
        conv => whnf
        first | refine brT (by exact hlt) ?_ | fail
        conv => whnf
        repeat (first | (refine Exists.intro _ (And.intro (sload_u8 (i := i) (by first | rfl | (simp; done) | fail) (by first | omega | fail)) ?_); conv => whnf) | (refine Exists.intro _ (And.intro (idx_i (m := i) (by first | rfl | fail)) ?_); conv => whnf) | (refine Exists.intro _ (And.intro (idx_i (m := 0) (by first | rfl | omega | fail)) ?_); conv => whnf) | (refine Exists.intro _ (And.intro rfl ?_); conv => whnf) | (refine And.intro (by first | omega | (simp; done) | fail) ?_; conv => whnf) | fail)
        refine ⟨⟨i + 1, by omega⟩, by simp only; omega, ?_⟩
        refine Weak.sel [0, 1, 2] rfl rfl ?_ ?_ rfl rfl
        · (repeat' (first | exact trivial | refine And.intro ?_ ?_ | (refine wk_agg ?_) | fail)) <;> first | rfl | exact wk_i (by first | rfl | exact hp1.symm | fail) | exact ren_eq (by first | (simp; done) | fail) (by first | rfl | fail) | fail
        · (repeat' (first | exact trivial | refine And.intro ?_ ?_ | (refine wk_cons ?_ ?_))) <;> first | rfl | exact wk_u64 (by first | exact hs0 | exact hs1 | fail) | fail
      · rw [show i / 8 = 1 by omega] at hd
        have hs0 : be8 l 0 (min (i + 1) 8) = be8 l 0 (min i 8) := by rw [show min (i + 1) 8 = min i 8 by omega]
        have hs1 : be8 l 8 (i + 1 - 8) = shl64 (be8 l 8 (i - 8)) 8 ||| (l.getD i 0).toUInt64 := by
          rw [show i + 1 - 8 = (i - 8) + 1 by omega, be8_s, show 8 + (i - 8) = i by omega]
        conv => whnf
        first | refine brT (by exact hlt) ?_ | fail
        conv => whnf
        repeat (first | (refine Exists.intro _ (And.intro (sload_u8 (i := i) (by first | rfl | (simp; done) | fail) (by first | omega | fail)) ?_); conv => whnf) | (refine Exists.intro _ (And.intro (idx_i (m := i) (by first | rfl | fail)) ?_); conv => whnf) | (refine Exists.intro _ (And.intro (idx_i (m := 1) (by first | rfl | omega | fail)) ?_); conv => whnf) | (refine Exists.intro _ (And.intro rfl ?_); conv => whnf) | (refine And.intro (by first | omega | (simp; done) | fail) ?_; conv => whnf) | fail)
        refine ⟨⟨i + 1, by omega⟩, by simp only; omega, ?_⟩
        refine Weak.sel [0, 1, 2] rfl rfl ?_ ?_ rfl rfl
        · (repeat' (first | exact trivial | refine And.intro ?_ ?_ | (refine wk_agg ?_) | fail)) <;> first | rfl | exact wk_i (by first | rfl | exact hp1.symm | fail) | exact ren_eq (by first | (simp; done) | fail) (by first | rfl | fail) | fail
        · (repeat' (first | exact trivial | refine And.intro ?_ ?_ | (refine wk_cons ?_ ?_))) <;> first | rfl | exact wk_u64 (by first | exact hs0 | exact hs1 | fail) | fail
    · obtain rfl : i = 16 := by omega
      conv => whnf
      first | refine brF (by rfl) ?_ | fail
      conv => whnf
      repeat (first | (refine Exists.intro _ (And.intro rfl ?_); conv => whnf) | (refine And.intro (by first | omega | fail) ?_; conv => whnf) | fail)
      refine ok1_callP [] (f103 (be8 l 0 8)) rfl rfl ⟨⟨rfl, by first | rfl | fail⟩, trivial, by first | rfl | fail, ?_⟩
      conv => whnf
      repeat (first | (refine Exists.intro _ (And.intro rfl ?_); conv => whnf) | (refine And.intro (by first | omega | fail) ?_; conv => whnf) | fail)
      refine ok1_callP [] (f103 (be8 l 8 8)) rfl rfl ⟨⟨rfl, by first | rfl | fail⟩, trivial, by first | rfl | fail, ?_⟩
      conv => whnf
      repeat (first | (refine Exists.intro _ (And.intro (sload_all rfl (by first | rfl | fail)) ?_); conv => whnf) | (refine Exists.intro _ (And.intro (sput_all rfl (by first | rfl | fail)) ?_); conv => whnf) | (refine Exists.intro _ (And.intro rfl ?_); conv => whnf) | (refine And.intro (by first | omega | (simp; done) | fail) ?_; conv => whnf) | (refine And.intro (by kernel_rfl) ?_; conv => whnf) | fail)
      refine ⟨[], ?_, rfl, rfl, ?_, rfl⟩
      · (repeat' (first | (refine wk_agg ?_) | (refine wk_cons ?_ ?_))) <;> first | rfl | fail
      · (repeat' (first | exact trivial | fail)) <;> fail
end Go.Sh
/- gcm: a polynomial's block (f93), two multiplied (f92), a nonce's first counter (f94). -/
namespace Go.Sh
open Go.Proofs
set_option maxHeartbeats 4000000
set_option linter.unusedSimpArgs false

theorem shr_i64 {a : UInt64} {n : Int} {m : Nat} (h : n = (m : Int)) : snum .shr (.u64 a) (.i n) = some (.u64 (shr64 a m)) := by
  subst h; simp [snum, cnt, sshr]
theorem shl_i64 {a : UInt64} {n : Int} {m : Nat} (h : n = (m : Int)) : snum .shl (.u64 a) (.i n) = some (.u64 (shl64 a m)) := by
  subst h; simp [snum, cnt, sshl]
theorem d56 : ∀ i : Nat, i < 16 → w64 (56 - w64 (8 * (i : Int).tmod 8)) = ((56 - 8 * (i % 8) : Nat) : Int) := by decide
def bB (a b : UInt64) (i : Nat) : UInt8 := (shr64 (if i < 8 then rev64 a else rev64 b) (56 - 8 * (i % 8))).toUInt8
theorem f93 (a b : UInt64) : SCall Try.prog 93 [.agg [.u64 a, .u64 b]] [] (.agg (((List.range 16).map (bB a b)).map .u8)) [] := by
  refine scall_of ttOk (by kernel_rfl : Try.prog.funcs[93]? = some Try.f93) rfl rfl rfl ?_
  refine sw_ok ttOk mixed (by kernel_rfl) ?_
  conv => whnf
  repeat (first | (refine Exists.intro _ (And.intro rfl ?_); conv => whnf) | fail)
  refine ok1_callP [] (f103 a) rfl rfl ⟨⟨rfl, by first | rfl | fail⟩, trivial, by first | rfl | fail, ?_⟩
  conv => whnf
  repeat (first | (refine Exists.intro _ (And.intro rfl ?_); conv => whnf) | fail)
  refine ok1_callP [] (f103 b) rfl rfl ⟨⟨rfl, by first | rfl | fail⟩, trivial, by first | rfl | fail, ?_⟩
  conv => whnf
  repeat (first | (refine Exists.intro _ (And.intro (sput_all rfl (by first | rfl | fail)) ?_); conv => whnf) | (refine Exists.intro _ (And.intro rfl ?_); conv => whnf) | (refine And.intro (by first | (simp; done) | fail) ?_; conv => whnf) | (refine And.intro (by kernel_rfl) ?_; conv => whnf) | fail)
  refine loop_rule ttOk mixed (by kernel_rfl) (ι := { i : Nat // i ≤ 16 }) (fun i => [(13, .i (i.1 : Int)), (4, .p 3 0), (3, .p 2 0), (2, .p 1 0)]) (fun i => [none, some (.box (List.replicate 16 (.u8 0))), some (.box [.u64 (rev64 a), .u64 (rev64 b)]), some (.box ((fil 16 i.1 (bB a b) (fun _ => 0)).map .u8))]) (fun _ => 4) (fun i => 16 - i.1) ⟨0, by omega⟩ ?_ ?_
  · have hz : fil 16 0 (bB a b) (fun _ => (0 : UInt8)) = List.replicate 16 0 := fil_zero ..
    refine Weak.sel [0, 1, 2, 3] rfl rfl ?_ ?_ rfl rfl
    · (repeat' (first | exact trivial | refine And.intro ?_ ?_ | fail)) <;> first | rfl | fail
    · (repeat' (first | exact trivial | refine And.intro ?_ ?_ | (refine wk_cons ?_ ?_))) <;> first | rfl | fail
  · rintro ⟨i, hi⟩
    have hf := fil_len 16 i (bB a b) (fun _ => (0 : UInt8))
    dsimp only
    by_cases hi2 : i < 16
    · have hlt : decide ((i : Int) < 16) = true := by simp; omega
      have hp1 := w6_p1 i (by omega)
      have hd := d8 i hi2
      have h56 := d56 i hi2
      by_cases h8 : i < 8
      · rw [show i / 8 = 0 by omega] at hd
        have hx : (shr64 (rev64 a) (56 - 8 * (i % 8))).toUInt8 = bB a b i := by unfold bB; rw [if_pos h8]
        have hs := fil_setx (g := fun _ => (0 : UInt8)) hi2 hx
        conv => whnf
        first | refine brT (by exact hlt) ?_ | fail
        conv => whnf
        repeat (first | (refine Exists.intro _ (And.intro (sput_m8 (i := i) (by first | rfl | (simp; done) | fail)) ?_); conv => whnf) | (refine Exists.intro _ (And.intro (idx_i (m := i) (by first | rfl | fail)) ?_); conv => whnf) | (refine Exists.intro _ (And.intro (idx_i (m := 0) (by first | rfl | omega | fail)) ?_); conv => whnf) | (refine Exists.intro _ (And.intro (shr_i64 (m := 56 - 8 * (i % 8)) (by first | rfl | omega | fail)) ?_); conv => whnf) | (refine Exists.intro _ (And.intro rfl ?_); conv => whnf) | (refine And.intro (by first | omega | (simp; omega) | fail) ?_; conv => whnf) | fail)
        refine ⟨⟨i + 1, by omega⟩, by simp only; omega, ?_⟩
        refine Weak.sel [0, 1, 2, 3] rfl rfl ?_ ?_ rfl rfl
        · (repeat' (first | exact trivial | refine And.intro ?_ ?_ | fail)) <;> first | exact wk_i (by first | exact hp1 | exact hp1.symm | fail) | rfl | fail
        · (repeat' (first | exact trivial | refine And.intro ?_ ?_ | (refine wk_cons ?_ ?_))) <;> first | exact ren_m8 (by first | exact hs | exact hs.symm | fail) | rfl | fail
      · rw [show i / 8 = 1 by omega] at hd
        have hx : (shr64 (rev64 b) (56 - 8 * (i % 8))).toUInt8 = bB a b i := by unfold bB; rw [if_neg h8]
        have hs := fil_setx (g := fun _ => (0 : UInt8)) hi2 hx
        conv => whnf
        first | refine brT (by exact hlt) ?_ | fail
        conv => whnf
        repeat (first | (refine Exists.intro _ (And.intro (sput_m8 (i := i) (by first | rfl | (simp; done) | fail)) ?_); conv => whnf) | (refine Exists.intro _ (And.intro (idx_i (m := i) (by first | rfl | fail)) ?_); conv => whnf) | (refine Exists.intro _ (And.intro (idx_i (m := 1) (by first | rfl | omega | fail)) ?_); conv => whnf) | (refine Exists.intro _ (And.intro (shr_i64 (m := 56 - 8 * (i % 8)) (by first | rfl | omega | fail)) ?_); conv => whnf) | (refine Exists.intro _ (And.intro rfl ?_); conv => whnf) | (refine And.intro (by first | omega | (simp; omega) | fail) ?_; conv => whnf) | fail)
        refine ⟨⟨i + 1, by omega⟩, by simp only; omega, ?_⟩
        refine Weak.sel [0, 1, 2, 3] rfl rfl ?_ ?_ rfl rfl
        · (repeat' (first | exact trivial | refine And.intro ?_ ?_ | fail)) <;> first | exact wk_i (by first | exact hp1 | exact hp1.symm | fail) | rfl | fail
        · (repeat' (first | exact trivial | refine And.intro ?_ ?_ | (refine wk_cons ?_ ?_))) <;> first | exact ren_m8 (by first | exact hs | exact hs.symm | fail) | rfl | fail
    · obtain rfl : i = 16 := by omega
      have hfu : fil 16 16 (bB a b) (fun _ => (0 : UInt8)) = (List.range 16).map (bB a b) := fil_full ..
      rw [hfu]
      conv => whnf
      first | refine brF (by rfl) ?_ | fail
      conv => whnf
      repeat (first | (refine Exists.intro _ (And.intro (sload_all rfl (by first | rfl | fail)) ?_); conv => whnf) | (refine Exists.intro _ (And.intro (sput_all rfl (by first | rfl | fail)) ?_); conv => whnf) | (refine And.intro (by first | omega | (simp; done) | fail) ?_; conv => whnf) | fail)
      refine ⟨[], ?_, rfl, rfl, ?_, rfl⟩
      · (repeat' (first | (refine wk_agg ?_) | (refine wk_cons ?_ ?_))) <;> first | rfl | fail
      · (repeat' (first | exact trivial | fail)) <;> fail
/-- Times x. -/
def xt2 (o : UInt64 × UInt64) : UInt64 × UInt64 := (shl64 o.1 1 ^^^ shr64 o.2 63 * 135, shl64 o.2 1 ||| shr64 o.1 63)
/-- p times q, of so many of p's highest bits. -/
def tms (p q : UInt64 × UInt64) : Nat → UInt64 × UInt64
  | 0 => (0, 0)
  | k + 1 => if (shr64 (if 127 - k ≥ 64 then p.2 else p.1) ((127 - k) % 64) &&& 1) = 1 then ((xt2 (tms p q k)).1 ^^^ q.1, (xt2 (tms p q k)).2 ^^^ q.2) else xt2 (tms p q k)
theorem tms_z (p q : UInt64 × UInt64) : tms p q 0 = (0, 0) := rfl
def tbit (p : UInt64 × UInt64) (k : Nat) : UInt64 := shr64 (if 127 - k ≥ 64 then p.2 else p.1) ((127 - k) % 64) &&& 1
theorem tms_1 {p q : UInt64 × UInt64} {k : Nat} (h : tbit p k = 1) : tms p q (k + 1) = ((xt2 (tms p q k)).1 ^^^ q.1, (xt2 (tms p q k)).2 ^^^ q.2) := if_pos h
theorem tms_0 {p q : UInt64 × UInt64} {k : Nat} (h : ¬ tbit p k = 1) : tms p q (k + 1) = xt2 (tms p q k) := if_neg h
theorem i92 : ∀ m : Nat, m < 128 → w64 (((m + 1 : Nat) : Int) - 1 - 1) = (m : Int) - 1 ∧ (((m + 1 : Nat) : Int) - 1).tmod 64 = ((m % 64 : Nat) : Int) := by decide +kernel
attribute [local irreducible] tms
theorem f92 (p q : UInt64 × UInt64) : SCall Try.prog 92 [.agg [.u64 p.1, .u64 p.2], .agg [.u64 q.1, .u64 q.2]] [] (.agg [.u64 (tms p q 128).1, .u64 (tms p q 128).2]) [] := by
  refine scall_of ttOk (by kernel_rfl : Try.prog.funcs[92]? = some Try.f92) rfl rfl rfl ?_
  refine sw_ok ttOk mixed (by kernel_rfl) ?_
  conv => whnf
  repeat (fail)
  refine loop_rule ttOk mixed (by kernel_rfl) (ι := { n : Nat // n ≤ 128 }) (fun n => [(6, .i ((n.1 : Int) - 1)), (5, .p 3 0), (4, .p 2 0), (3, .p 1 0), (2, .p 0 0)]) (fun n => [some (.box [.u64 p.1, .u64 p.2]), some (.box [.u64 q.1, .u64 q.2]), some (.box [.u64 0, .u64 0]), some (.box [.u64 (tms p q (128 - n.1)).1, .u64 (tms p q (128 - n.1)).2])]) (fun _ => 4) (fun n => n.1) ⟨128, by omega⟩ ?_ ?_
  · dsimp only
    rw [show 128 - 128 = 0 from rfl, tms_z]
    refine Weak.sel [0, 1, 2, 3] rfl rfl ?_ ?_ rfl rfl
    · (repeat' (first | exact trivial | refine And.intro ?_ ?_ | fail)) <;> first | rfl | fail
    · (repeat' (first | exact trivial | refine And.intro ?_ ?_ | (refine wk_cons ?_ ?_))) <;> first | rfl | fail
  · rintro ⟨n, hn⟩
    dsimp only
    rcases n with _ | m
    · conv => whnf
      first | refine brF (by rfl) ?_ | fail
      conv => whnf
      repeat (first | (refine Exists.intro _ (And.intro (sload_all rfl (by first | rfl | fail)) ?_); conv => whnf) | (refine Exists.intro _ (And.intro (sput_all rfl (by first | rfl | fail)) ?_); conv => whnf) | (refine And.intro (by first | omega | (simp; done) | fail) ?_; conv => whnf) | fail)
      refine ⟨[], ?_, rfl, rfl, ?_, rfl⟩
      · (repeat' (first | (refine wk_agg ?_) | (refine wk_cons ?_ ?_))) <;> first | rfl | fail
      · (repeat' (first | exact trivial | fail)) <;> fail
    · have hge : decide (((m + 1 : Nat) : Int) - 1 ≥ 0) = true := by first | (simp; done) | fail
      obtain ⟨hp1, hm⟩ := i92 m (by omega)
      have hk1 : 128 - (m + 1) = 127 - m := by omega
      have hk2 : 128 - m = (127 - m) + 1 := by omega
      have hk3 : 127 - (127 - m) = m := by omega
      rw [hk1]
      by_cases h64 : m ≥ 64
      · have hg : decide (((m + 1 : Nat) : Int) - 1 ≥ 64) = true := by first | (simp; omega)
        have htb : tbit p (127 - m) = shr64 (p.2) (m % 64) &&& 1 := by unfold tbit; rw [hk3, if_pos h64]
        conv => whnf
        first | refine brT (by exact hge) ?_ | fail
        conv => whnf
        by_cases hb : tbit p (127 - m) = 1
        · have hbt : (shr64 (p.2) (m % 64) &&& 1 == 1) = true := by rw [← htb, hb]; rfl
          have ht := tms_1 (q := q) hb
          repeat (first | (refine Exists.intro _ (And.intro (sload_all rfl (by first | rfl | fail)) ?_); conv => whnf) | (refine Exists.intro _ (And.intro (sput_all rfl (by first | rfl | fail)) ?_); conv => whnf) | (refine Exists.intro _ (And.intro (shr_i64 (m := m % 64) (by first | rfl | omega | fail)) ?_); conv => whnf) | (refine gdT hg ?_; conv => whnf) | (refine gdT hbt ?_; conv => whnf) | (refine Exists.intro _ (And.intro rfl ?_); conv => whnf) | (refine And.intro (by first | omega | (simp; done) | fail) ?_; conv => whnf) | fail)
          refine ok1_callP [] (f91 (xt2 (tms p q (127 - m))).1 (xt2 (tms p q (127 - m))).2 q.1 q.2) rfl rfl ⟨⟨rfl, by first | rfl | fail⟩, trivial, by first | rfl | fail, ?_⟩
          conv => whnf
          repeat (first | (refine Exists.intro _ (And.intro (sput_all rfl (by first | rfl | fail)) ?_); conv => whnf) | (refine And.intro (by first | omega | (simp; done) | fail) ?_; conv => whnf) | fail)
          refine ⟨⟨m, by omega⟩, by simp only; omega, ?_⟩
          dsimp only
          rw [hk2, ht]
          refine Weak.sel [0, 1, 2, 3] rfl rfl ?_ ?_ rfl rfl
          · (repeat' (first | exact trivial | refine And.intro ?_ ?_ | fail)) <;> first | exact wk_i (by first | exact hp1 | exact hp1.symm | fail) | rfl | fail
          · (repeat' (first | exact trivial | refine And.intro ?_ ?_ | (refine wk_cons ?_ ?_))) <;> first | rfl | fail
        · have hbt : (shr64 (p.2) (m % 64) &&& 1 == 1) = false := by rw [← htb]; exact beq_eq_false_iff_ne.2 hb
          have ht := tms_0 (q := q) hb
          repeat (first | (refine Exists.intro _ (And.intro (sput_all rfl (by first | rfl | fail)) ?_); conv => whnf) | (refine Exists.intro _ (And.intro (shr_i64 (m := m % 64) (by first | rfl | omega | fail)) ?_); conv => whnf) | (refine gdT hg ?_; conv => whnf) | (refine gdF hbt ?_; conv => whnf) | (refine Exists.intro _ (And.intro rfl ?_); conv => whnf) | (refine And.intro (by first | omega | (simp; done) | fail) ?_; conv => whnf) | fail)
          refine ⟨⟨m, by omega⟩, by simp only; omega, ?_⟩
          dsimp only
          rw [hk2, ht]
          refine Weak.sel [0, 1, 2, 3] rfl rfl ?_ ?_ rfl rfl
          · (repeat' (first | exact trivial | refine And.intro ?_ ?_ | fail)) <;> first | exact wk_i (by first | exact hp1 | exact hp1.symm | fail) | rfl | fail
          · (repeat' (first | exact trivial | refine And.intro ?_ ?_ | (refine wk_cons ?_ ?_))) <;> first | rfl | fail
      · have hg : decide (((m + 1 : Nat) : Int) - 1 ≥ 64) = false := by first | (simp; omega)
        have htb : tbit p (127 - m) = shr64 (p.1) (m % 64) &&& 1 := by unfold tbit; rw [hk3, if_neg h64]
        conv => whnf
        first | refine brT (by exact hge) ?_ | fail
        conv => whnf
        by_cases hb : tbit p (127 - m) = 1
        · have hbt : (shr64 (p.1) (m % 64) &&& 1 == 1) = true := by rw [← htb, hb]; rfl
          have ht := tms_1 (q := q) hb
          repeat (first | (refine Exists.intro _ (And.intro (sload_all rfl (by first | rfl | fail)) ?_); conv => whnf) | (refine Exists.intro _ (And.intro (sput_all rfl (by first | rfl | fail)) ?_); conv => whnf) | (refine Exists.intro _ (And.intro (shr_i64 (m := m % 64) (by first | rfl | omega | fail)) ?_); conv => whnf) | (refine gdF hg ?_; conv => whnf) | (refine gdT hbt ?_; conv => whnf) | (refine Exists.intro _ (And.intro rfl ?_); conv => whnf) | (refine And.intro (by first | omega | (simp; done) | fail) ?_; conv => whnf) | fail)
          refine ok1_callP [] (f91 (xt2 (tms p q (127 - m))).1 (xt2 (tms p q (127 - m))).2 q.1 q.2) rfl rfl ⟨⟨rfl, by first | rfl | fail⟩, trivial, by first | rfl | fail, ?_⟩
          conv => whnf
          repeat (first | (refine Exists.intro _ (And.intro (sput_all rfl (by first | rfl | fail)) ?_); conv => whnf) | (refine And.intro (by first | omega | (simp; done) | fail) ?_; conv => whnf) | fail)
          refine ⟨⟨m, by omega⟩, by simp only; omega, ?_⟩
          dsimp only
          rw [hk2, ht]
          refine Weak.sel [0, 1, 2, 3] rfl rfl ?_ ?_ rfl rfl
          · (repeat' (first | exact trivial | refine And.intro ?_ ?_ | fail)) <;> first | exact wk_i (by first | exact hp1 | exact hp1.symm | fail) | rfl | fail
          · (repeat' (first | exact trivial | refine And.intro ?_ ?_ | (refine wk_cons ?_ ?_))) <;> first | rfl | fail
        · have hbt : (shr64 (p.1) (m % 64) &&& 1 == 1) = false := by rw [← htb]; exact beq_eq_false_iff_ne.2 hb
          have ht := tms_0 (q := q) hb
          repeat (first | (refine Exists.intro _ (And.intro (sput_all rfl (by first | rfl | fail)) ?_); conv => whnf) | (refine Exists.intro _ (And.intro (shr_i64 (m := m % 64) (by first | rfl | omega | fail)) ?_); conv => whnf) | (refine gdF hg ?_; conv => whnf) | (refine gdF hbt ?_; conv => whnf) | (refine Exists.intro _ (And.intro rfl ?_); conv => whnf) | (refine And.intro (by first | omega | (simp; done) | fail) ?_; conv => whnf) | fail)
          refine ⟨⟨m, by omega⟩, by simp only; omega, ?_⟩
          dsimp only
          rw [hk2, ht]
          refine Weak.sel [0, 1, 2, 3] rfl rfl ?_ ?_ rfl rfl
          · (repeat' (first | exact trivial | refine And.intro ?_ ?_ | fail)) <;> first | exact wk_i (by first | exact hp1 | exact hp1.symm | fail) | rfl | fail
          · (repeat' (first | exact trivial | refine And.intro ?_ ?_ | (refine wk_cons ?_ ?_))) <;> first | rfl | fail
theorem f94 (l : List UInt8) (hl : l.length = 12) : SCall Try.prog 94 [.agg (l.map .u8)] [] (.agg ((l ++ [0, 0, 0, 1]).map .u8)) [] := by
  match l, hl with
  | [a, b, c, d, e, f, g, h, i, j, k, l], _ =>
    refine scall_of ttOk (by kernel_rfl : Try.prog.funcs[94]? = some Try.f94) rfl rfl rfl ?_
    refine sw_ok ttOk mixed (by kernel_rfl) ?_
    conv => whnf
    repeat (first | (refine Exists.intro _ (And.intro (sload_all rfl (by first | rfl | fail)) ?_); conv => whnf) | (refine Exists.intro _ (And.intro (sput_all rfl (by first | rfl | fail)) ?_); conv => whnf) | (refine Exists.intro _ (And.intro rfl ?_); conv => whnf) | (refine And.intro (by first | omega | (simp; done) | fail) ?_; conv => whnf) | (refine And.intro ⟨rfl, Nat.le_of_ble_eq_true rfl⟩ ?_; conv => whnf) | (refine And.intro (by kernel_rfl) ?_; conv => whnf) | fail)
    refine ⟨[], ?_, rfl, rfl, ?_, rfl⟩
    · (repeat' (first | (refine wk_agg ?_) | (refine wk_cons ?_ ?_))) <;> first | rfl | fail
    · (repeat' (first | exact trivial | fail)) <;> fail
end Go.Sh
/- gcm: polynomials, plainly: a product by the highest bits first is the reference's. -/
namespace Go.Sh
set_option maxHeartbeats 4000000
set_option linter.unusedSimpArgs false

/-- Polynomials over two: bit n is that of x^n. -/
abbrev Po := Nat → Bool
def shf (f : Po) : Po := fun n => decide (0 < n) && f (n - 1)
def tap (n : Nat) : Bool := n == 0 || n == 1 || n == 2 || n == 7
/-- Times x, in the field. -/
def xt (f : Po) : Po := fun n => decide (n < 128) && ((decide (0 < n) && f (n - 1)) ^^ (f 127 && tap n))
def add (f g : Po) : Po := fun n => f n ^^ g n
def hor (p q : Po) : Nat → Po
  | 0 => fun _ => false
  | k + 1 => fun n => xt (hor p q k) n ^^ (p (127 - k) && (decide (n < 128) && q n))
/-- What stands at i, i at least 128, folded down. -/
def fld (i : Nat) (f : Po) : Po := fun n => f n ^^ (f i && (n == i - 128 || n == i - 127 || n == i - 126 || n == i - 121))
/-- Folded from 255 down, so many. -/
def flds (f : Po) : Nat → Po
  | 0 => f
  | k + 1 => fld (255 - k) (flds f k)
/-- All products, the high bits' of a first. -/
def cv (a b : Po) : Nat → Po
  | 0 => fun _ => false
  | k + 1 => fun n => shf (cv a b k) n ^^ (a (127 - k) && (decide (n < 128) && b n))

theorem shf_s (f : Po) (n : Nat) : shf f (n + 1) = f n := by simp [shf]
theorem fld_shf (i : Nat) (hi : 128 ≤ i) (f : Po) : fld (i + 1) (shf f) = shf (fld i f) := by
  funext n
  cases n with
  | zero =>
    have h1 : (0 == i + 1 - 128) = false := by simp; omega
    have h2 : (0 == i + 1 - 127) = false := by simp; omega
    have h3 : (0 == i + 1 - 126) = false := by simp; omega
    have h4 : (0 == i + 1 - 121) = false := by simp; omega
    simp only [fld, shf, h1, h2, h3, h4]; simp
  | succ n =>
    have e : ∀ j, j ≤ i → (n + 1 == i + 1 - j) = (n == i - j) := fun j hj => by
      rw [Bool.eq_iff_iff]; simp; omega
    simp only [fld, shf_s, e 128 (by omega), e 127 (by omega), e 126 (by omega), e 121 (by omega)]
theorem fld_none (i : Nat) (f : Po) (h : f i = false) : fld i f = f := by funext n; simp [fld, h]
/-- Folding a polynomial times x. -/
theorem flds_shf (f : Po) (h : f 255 = false) : ∀ k, k ≤ 127 → flds (shf f) k = shf (flds f (k + 1))
  | 0, _ => by
    show shf f = shf (fld 255 f)
    rw [fld_none 255 f h]
  | k + 1, hk => by
    show fld (255 - k) (flds (shf f) k) = shf (fld (255 - (k + 1)) (flds f (k + 1)))
    rw [flds_shf f h k (by omega), show 255 - k = (255 - (k + 1)) + 1 by omega, fld_shf _ (by omega)]
theorem flds_shf_all (f : Po) (h : f 255 = false) (n : Nat) (hn : n < 128) : flds (shf f) 128 n = xt (flds f 128) n := by
  show fld (255 - 127) (flds (shf f) 127) n = _
  rw [flds_shf f h 127 (by omega)]
  have h1 : shf (flds f 128) 128 = flds f 128 127 := shf_s _ 127
  have e1 : (n == 128 - 128) = (n == 0) := rfl
  have e2 : (n == 128 - 127) = (n == 1) := rfl
  have e3 : (n == 128 - 126) = (n == 2) := rfl
  have e4 : (n == 128 - 121) = (n == 7) := rfl
  show (shf (flds f 128) n ^^ (shf (flds f 128) 128 && (n == 128 - 128 || n == 128 - 127 || n == 128 - 126 || n == 128 - 121))) = xt (flds f 128) n
  rw [h1, e1, e2, e3, e4]
  unfold xt shf tap
  simp [hn]
theorem fld_add (i : Nat) (f g : Po) : fld i (add f g) = add (fld i f) (fld i g) := by
  funext n
  simp only [fld, add]
  cases f n <;> cases g n <;> cases f i <;> cases g i <;> cases (n == i - 128 || n == i - 127 || n == i - 126 || n == i - 121) <;> rfl
theorem flds_add (f g : Po) : ∀ k, flds (add f g) k = add (flds f k) (flds g k)
  | 0 => rfl
  | k + 1 => by show fld _ (flds (add f g) k) = _; rw [flds_add f g k, fld_add]; rfl
def low (c : Bool) (b : Po) : Po := fun n => c && (decide (n < 128) && b n)
theorem flds_low (c : Bool) (b : Po) : ∀ k, k ≤ 128 → flds (low c b) k = low c b
  | 0, _ => rfl
  | k + 1, hk => by
    show fld (255 - k) (flds (low c b) k) = _
    rw [flds_low c b k (by omega), fld_none]
    have : ¬ 255 - k < 128 := by omega
    simp [low, this]
theorem cv_s (a b : Po) (k : Nat) : cv a b (k + 1) = add (shf (cv a b k)) (low (a (127 - k)) b) := rfl
theorem cv_deg (a b : Po) : ∀ k n, 128 + k ≤ n → cv a b k n = false
  | 0, _, _ => rfl
  | k + 1, n, h => by
    obtain ⟨m, rfl⟩ : ∃ m, n = m + 1 := ⟨n - 1, by omega⟩
    rw [cv_s]
    show (shf (cv a b k) (m + 1) ^^ low (a (127 - k)) b (m + 1)) = false
    rw [shf_s, cv_deg a b k m (by omega)]
    have : ¬ m + 1 < 128 := by omega
    simp [low, this]
theorem xt_congr {f g : Po} (h : ∀ n, n < 128 → f n = g n) (n : Nat) (hn : n < 128) : xt f n = xt g n := by
  unfold xt
  rw [h 127 (by omega)]
  by_cases h0 : 0 < n
  · rw [h (n - 1) (by omega)]
  · simp [h0]
theorem flds_cv (a b : Po) : ∀ k, k ≤ 128 → ∀ n, n < 128 → flds (cv a b k) 128 n = hor a b k n
  | 0, _, n, _ => by
    have : ∀ j, flds (cv a b 0) j = fun _ => false := by
      intro j
      induction j with
      | zero => rfl
      | succ j ih => show fld _ (flds (cv a b 0) j) = _; rw [ih]; funext n; simp [fld]
    rw [this]; rfl
  | k + 1, hk, n, hn => by
    have e : flds (cv a b (k + 1)) 128 n = (flds (shf (cv a b k)) 128 n ^^ low (a (127 - k)) b n) := by
      rw [cv_s, flds_add, flds_low _ _ 128 (by omega)]; unfold add; rfl
    rw [e, flds_shf_all _ (cv_deg a b k 255 (by omega)) n hn, xt_congr (flds_cv a b k (by omega)) n hn]
    rfl

/-- How often a product's bit is met: a's bits from the lowest on. -/
def cs (a b : Po) : Nat → Nat → Nat
  | 0, _ => 0
  | i + 1, n => cs a b i n + (if a i && (decide (i ≤ n) && (decide (n - i < 128) && b (n - i))) then 1 else 0)
def odd (n : Nat) : Bool := n % 2 == 1
theorem odd_add (n : Nat) (c : Bool) : odd (n + (if c then 1 else 0)) = (odd n ^^ c) := by
  unfold odd
  cases c with
  | false => simp
  | true =>
    simp only [if_true]
    rcases Nat.mod_two_eq_zero_or_one n with h | h
    · have : (n + 1) % 2 = 1 := by omega
      rw [h, this]; rfl
    · have : (n + 1) % 2 = 0 := by omega
      rw [h, this]; rfl
/-- Sums of products, of a's bits from m on, k of them. -/
def pc (a b : Po) (m : Nat) : Nat → Po
  | 0 => fun _ => false
  | k + 1 => fun n => pc a b m k n ^^ (a (m + k) && (decide (k ≤ n) && (decide (n - k < 128) && b (n - k))))
theorem pc_front (a b : Po) (m : Nat) : ∀ k n, pc a b m (k + 1) n = (shf (pc a b (m + 1) k) n ^^ low (a m) b n)
  | 0, n => by simp [pc, shf, low]
  | k + 1, n => by
    show (pc a b m (k + 1) n ^^ (a (m + (k + 1)) && (decide (k + 1 ≤ n) && (decide (n - (k + 1) < 128) && b (n - (k + 1)))))) = _
    rw [pc_front a b m k n]
    cases n with
    | zero => simp [shf]
    | succ n =>
      rw [shf_s, shf_s]
      show _ = ((pc a b (m + 1) k n ^^ (a (m + 1 + k) && (decide (k ≤ n) && (decide (n - k < 128) && b (n - k))))) ^^ low (a m) b (n + 1))
      rw [show m + (k + 1) = m + 1 + k by omega, show n + 1 - (k + 1) = n - k by omega, show decide (k + 1 ≤ n + 1) = decide (k ≤ n) by simp]
      cases pc a b (m + 1) k n <;> cases low (a m) b (n + 1) <;> cases (a (m + 1 + k) && (decide (k ≤ n) && (decide (n - k < 128) && b (n - k)))) <;> rfl
theorem cv_pc (a b : Po) : ∀ k, k ≤ 128 → cv a b k = pc a b (128 - k) k
  | 0, _ => rfl
  | k + 1, h => by
    rw [cv_s, cv_pc a b k (by omega)]
    funext n
    rw [pc_front, show 128 - (k + 1) + 1 = 128 - k by omega, show 127 - k = 128 - (k + 1) by omega]
    rfl
theorem odd_cs (a b : Po) : ∀ k n, odd (cs a b k n) = pc a b 0 k n
  | 0, _ => rfl
  | k + 1, n => by
    show odd (cs a b k n + _) = (pc a b 0 k n ^^ _)
    rw [odd_add, odd_cs a b k n, Nat.zero_add]
/-- THE PRODUCT: what is counted, taken by its oddness, and folded down, is what the highest bits first come to. -/
theorem prod_eq (a b : Po) (n : Nat) (hn : n < 128) : flds (fun n => odd (cs a b 128 n)) 128 n = hor a b 128 n := by
  have : (fun n => odd (cs a b 128 n)) = cv a b 128 := by
    funext n; rw [odd_cs, cv_pc a b 128 (by omega)]
  rw [this]; exact flds_cv a b 128 (by omega) n hn
end Go.Sh
/- gcm: words and bytes as polynomials. -/
namespace Go.Sh
set_option maxHeartbeats 4000000
set_option linter.unusedSimpArgs false

def pb (o : UInt64 × UInt64) : Po := fun n => if n < 64 then b64 o.1 n else b64 o.2 (n - 64)
theorem b64_135 : ∀ n, n < 64 → b64 135 n = tap n := by decide +kernel
theorem b64_1 : ∀ n, n < 64 → b64 1 n = (n == 0) := by decide +kernel
theorem shr_63 (x : UInt64) : shr64 x 63 = if b64 x 63 then 1 else 0 := by
  apply b64_ext
  intro i hi
  rw [b64_shr _ _ _ (by decide)]
  by_cases h0 : i = 0
  · subst h0
    by_cases h : b64 x 63 = true
    · rw [if_pos h, b64_1 0 (by decide)]; simpa using h
    · rw [if_neg h, b64_zero]; simpa using h
  · rw [b64_ge x _ (by omega)]
    by_cases h : b64 x 63 = true
    · rw [if_pos h, b64_1 i hi]; simp [h0]
    · rw [if_neg h, b64_zero]
theorem over_bit (x : UInt64) (n : Nat) (h : n < 64) : b64 (shr64 x 63 * 135) n = (b64 x 63 && tap n) := by
  rw [shr_63]
  by_cases hb : b64 x 63 = true
  · rw [if_pos hb, hb, UInt64.one_mul, b64_135 n h]; simp
  · rw [if_neg hb, UInt64.zero_mul, b64_zero]
    have : b64 x 63 = false := by simpa using hb
    rw [this]; simp
theorem tap_ge (n : Nat) (h : 64 ≤ n) : tap n = false := by
  unfold tap
  have h0 : (n == 0) = false := by simp; omega
  have h1 : (n == 1) = false := by simp; omega
  have h2 : (n == 2) = false := by simp; omega
  have h7 : (n == 7) = false := by simp; omega
  rw [h0, h1, h2, h7]; rfl
theorem pb_xt2 (o : UInt64 × UInt64) (n : Nat) (hn : n < 128) : pb (xt2 o) n = xt (pb o) n := by
  have h127 : pb o 127 = b64 o.2 63 := rfl
  unfold xt
  rw [h127]
  by_cases h : n < 64
  · show (if n < 64 then b64 (shl64 o.1 1 ^^^ shr64 o.2 63 * 135) n else _) = _
    rw [if_pos h, b64_xor, over_bit _ _ h, b64_shl _ _ _ (by decide)]
    have e : pb o (n - 1) = b64 o.1 (n - 1) := if_pos (by omega)
    rw [e]
    have : decide (1 ≤ n) = decide (0 < n) := rfl
    simp [hn, h, this]
  · show (if n < 64 then _ else b64 (shl64 o.2 1 ||| shr64 o.1 63) (n - 64)) = _
    rw [if_neg h, b64_or, b64_shl _ _ _ (by decide), b64_shr _ _ _ (by decide), tap_ge n (by omega)]
    by_cases h0 : n = 64
    · subst h0
      have e : pb o (64 - 1) = b64 o.1 63 := rfl
      rw [e]; simp
    · rw [b64_ge o.1 (63 + (n - 64)) (by omega)]
      have e : pb o (n - 1) = b64 o.2 (n - 64 - 1) := by unfold pb; rw [if_neg (by omega), show n - 1 - 64 = n - 64 - 1 by omega]
      have h1 : decide (1 ≤ n - 64) = true := by simp; omega
      have h2 : decide (n - 64 < 64) = true := by simp; omega
      have h3 : decide (0 < n) = true := by simp; omega
      rw [e, h1, h2, h3]; simp [hn]
theorem and_one (x : UInt64) : (x &&& 1 = 1) ↔ b64 x 0 = true := by
  constructor
  · intro h
    have := congrArg (fun y => b64 y 0) h
    simp only [b64_and, b64_1 0 (by decide)] at this
    simpa using this
  · intro h
    apply b64_ext
    intro i hi
    rw [b64_and, b64_1 i hi]
    by_cases h0 : i = 0
    · subst h0; simp [h]
    · simp [h0]
theorem tbit_pb (p : UInt64 × UInt64) (k : Nat) (hk : k < 128) : tbit p k = 1 ↔ pb p (127 - k) = true := by
  unfold tbit
  rw [and_one]
  by_cases h : 127 - k ≥ 64
  · rw [if_pos h, b64_shr _ _ _ (by omega), show (127 - k) % 64 + 0 = 127 - k - 64 by omega]
    unfold pb; rw [if_neg (by omega)]
  · rw [if_neg h, b64_shr _ _ _ (by omega), show (127 - k) % 64 + 0 = 127 - k by omega]
    unfold pb; rw [if_pos (by omega)]
theorem pb_add (o q : UInt64 × UInt64) (n : Nat) : pb (o.1 ^^^ q.1, o.2 ^^^ q.2) n = (pb o n ^^ pb q n) := by
  unfold pb
  by_cases h : n < 64
  · simp only [if_pos h, b64_xor]
  · simp only [if_neg h, b64_xor]
theorem pb_tms (p q : UInt64 × UInt64) : ∀ k, k ≤ 128 → ∀ n, n < 128 → pb (tms p q k) n = hor (pb p) (pb q) k n
  | 0, _, n, _ => by rw [tms_z]; unfold pb; simp [b64_zero, hor]
  | k + 1, hk, n, hn => by
    have ih := xt_congr (pb_tms p q k (by omega)) n hn
    have e : hor (pb p) (pb q) (k + 1) n = (xt (hor (pb p) (pb q) k) n ^^ (pb p (127 - k) && (decide (n < 128) && pb q n))) := rfl
    rw [e, ← ih, ← pb_xt2 _ n hn]
    by_cases hb : tbit p k = 1
    · rw [tms_1 hb, pb_add, (tbit_pb p k (by omega)).1 hb]; simp [hn]
    · rw [tms_0 hb]
      have : pb p (127 - k) = false := by
        cases h : pb p (127 - k) with
        | false => rfl
        | true => exact absurd ((tbit_pb p k (by omega)).2 h) hb
      rw [this]; simp

/-! Bytes. -/
def bit8 (x : UInt8) (i : Nat) : Bool := x.toNat.testBit i
theorem bit8_ge (x : UInt8) (i : Nat) (h : 8 ≤ i) : bit8 x i = false := by
  unfold bit8
  apply Nat.testBit_lt_two_pow
  exact Nat.lt_of_lt_of_le (UInt8.toNat_lt x) (Nat.pow_le_pow_right (by decide) h)
theorem bit8_ext {x y : UInt8} (h : ∀ i, i < 8 → bit8 x i = bit8 y i) : x = y := by
  apply UInt8.toNat_inj.mp
  apply Nat.eq_of_testBit_eq
  intro i
  by_cases hi : i < 8
  · exact h i hi
  · have h1 := bit8_ge x i (by omega)
    have h2 := bit8_ge y i (by omega)
    unfold bit8 at h1 h2
    rw [h1, h2]
theorem bit8_to (x : UInt64) (i : Nat) (h : i < 8) : bit8 x.toUInt8 i = b64 x i := by
  unfold bit8 b64
  rw [UInt64.toNat_toUInt8, Nat.testBit_mod_two_pow]; simp [h]
theorem b64_to (x : UInt8) (i : Nat) : b64 x.toUInt64 i = bit8 x i := by unfold bit8 b64; simp
theorem be8_bit (l : List UInt8) (o : Nat) : ∀ k, k ≤ 8 → ∀ j, b64 (be8 l o k) j = (decide (j < 8 * k) && bit8 (l.getD (o + (k - 1 - j / 8)) 0) (j % 8))
  | 0, _, j => by rw [be8_z, b64_zero]; simp
  | k + 1, hk, j => by
    rw [be8_s, b64_or, b64_shl _ _ _ (by decide), b64_to, be8_bit l o k (by omega)]
    by_cases h8 : j < 8
    · have h1 : decide (8 ≤ j) = false := by simp; omega
      have h2 : decide (j < 8 * (k + 1)) = true := by simp; omega
      rw [h1, h2, show k + 1 - 1 - j / 8 = k by omega, show j % 8 = j by omega]; simp
    · rw [bit8_ge _ j (by omega)]
      have h1 : decide (8 ≤ j) = true := by simp; omega
      rw [h1, show k - 1 - (j - 8) / 8 = k + 1 - 1 - j / 8 by omega, show (j - 8) % 8 = j % 8 by omega]
      by_cases h3 : j < 8 * (k + 1)
      · have h4 : decide (j < 64) = true := by simp; omega
        have h5 : decide (j - 8 < 8 * k) = true := by simp; omega
        rw [h4, h5]; simp [h3]
      · have h5 : decide (j - 8 < 8 * k) = false := by simp; omega
        rw [h5]; simp [h3]
/-- Bit n of a block: that of x^n. -/
def cb (l : List UInt8) : Po := fun n => bit8 (l.getD (n / 8) 0) (7 - n % 8)
def ofL (l : List UInt8) : UInt64 × UInt64 := (rev64 (be8 l 0 8), rev64 (be8 l 8 8))
theorem pb_of (l : List UInt8) (n : Nat) (hn : n < 128) : pb (ofL l) n = cb l n := by
  unfold pb ofL cb
  by_cases h : n < 64
  · rw [if_pos h]
    show b64 (rev64 (be8 l 0 8)) n = _
    rw [b64_rev _ _ h, be8_bit l 0 8 (by decide)]
    have : decide (63 - n < 8 * 8) = true := by simp; omega
    rw [this, show 0 + (8 - 1 - (63 - n) / 8) = n / 8 by omega, show (63 - n) % 8 = 7 - n % 8 by omega]; simp
  · rw [if_neg h]
    show b64 (rev64 (be8 l 8 8)) (n - 64) = _
    rw [b64_rev _ _ (by omega), be8_bit l 8 8 (by decide)]
    have : decide (63 - (n - 64) < 8 * 8) = true := by simp; omega
    rw [this, show 8 + (8 - 1 - (63 - (n - 64)) / 8) = n / 8 by omega, show (63 - (n - 64)) % 8 = 7 - n % 8 by omega]; simp
def blkL (o : UInt64 × UInt64) : List UInt8 := (List.range 16).map (bB o.1 o.2)
theorem cb_blk (o : UInt64 × UInt64) (n : Nat) (hn : n < 128) : cb (blkL o) n = pb o n := by
  unfold cb blkL pb
  rw [rng_getD (by omega)]
  unfold bB
  rw [bit8_to _ _ (by omega), b64_shr _ _ _ (by omega)]
  by_cases h : n < 64
  · rw [if_pos h, if_pos (by omega), b64_rev _ _ (by omega)]
    congr 1; omega
  · rw [if_neg h, if_neg (by omega), b64_rev _ _ (by omega)]
    congr 1; omega
/-- Blocks with the same bits are one. -/
theorem cb_ext {l m : List UInt8} (hl : l.length = 16) (hm : m.length = 16) (h : ∀ n, n < 128 → cb l n = cb m n) : l = m := by
  apply List.ext_getElem (by omega)
  intro j h1 h2
  apply bit8_ext
  intro i hi
  have := h (8 * j + (7 - i)) (by omega)
  unfold cb at this
  rw [show (8 * j + (7 - i)) / 8 = j by omega, show 7 - (8 * j + (7 - i)) % 8 = i by omega] at this
  rw [List.getD_eq_getElem?_getD, List.getD_eq_getElem?_getD, List.getElem?_eq_getElem h1, List.getElem?_eq_getElem h2] at this
  exact this
end Go.Sh
/- gcm's reference: a product, plainly. -/
namespace Go.Sh
set_option maxHeartbeats 4000000
set_option linter.unusedSimpArgs false

theorem rng_set {α : Type} (n j : Nat) (f : Nat → α) (x : α) : ((List.range n).map f).set j x = (List.range n).map (fun m => if m = j then x else f m) := by
  apply List.ext_getElem?
  intro i
  rw [List.getElem?_set]
  by_cases h : j = i
  · subst h
    by_cases h2 : j < n
    · simp [h2]
    · simp [h2]
  · rw [if_neg h]
    by_cases h2 : i < n
    · simp only [List.getElem?_map, List.getElem?_range h2, Option.map_some]
      rw [if_neg (fun e => h e.symm)]
    · simp [h2]
def cbN (b : List UInt8) (i : Nat) : Nat := (b.getD (i / 8) 0).toNat / 2 ^ (7 - i % 8) % 2
theorem cbN_eq (b : List UInt8) (i : Nat) : cbN b i = if cb b i then 1 else 0 := by
  unfold cbN cb bit8
  rw [Nat.testBit_eq_decide_div_mod_eq]
  rcases Nat.mod_two_eq_zero_or_one ((b.getD (i / 8) 0).toNat / 2 ^ (7 - i % 8)) with h | h <;> rw [h] <;> simp
/-- The counts, within a row. -/
def ck (a b : Po) (i k n : Nat) : Nat := cs a b i n + (if decide (i ≤ n) && (decide (n - i < k) && b (n - i)) then 1 else 0)
theorem ck_0 (a b : Po) (i n : Nat) : ck a b i 0 n = cs a b i n := by simp [ck]
theorem ck_128 (a b : Po) (i n : Nat) (h : a i = true) : ck a b i 128 n = cs a b (i + 1) n := by
  show _ = cs a b i n + _
  unfold ck; rw [h]; simp
theorem cs_skip (a b : Po) (i n : Nat) (h : a i = false) : cs a b (i + 1) n = cs a b i n := by
  show cs a b i n + _ = _
  rw [h]; simp
theorem ck_s (a b : Po) (i k n : Nat) : ck a b i (k + 1) n = if n = i + k then ck a b i k n + (if b k then 1 else 0) else ck a b i k n := by
  unfold ck
  by_cases h : n = i + k
  · subst h
    rw [if_pos rfl]
    have h1 : i + k - i = k := by omega
    simp [h1]
  · rw [if_neg h]
    have e : (decide (i ≤ n) && decide (n - i < k + 1)) = (decide (i ≤ n) && decide (n - i < k)) := by
      rw [Bool.eq_iff_iff]; simp; omega
    have e2 : (decide (i ≤ n) && (decide (n - i < k + 1) && b (n - i))) = (decide (i ≤ n) && (decide (n - i < k) && b (n - i))) := by
      rw [← Bool.and_assoc, e, Bool.and_assoc]
    rw [e2]
def cls (a b : Po) (i k : Nat) : List Int := (List.range 256).map fun n => ((ck a b i k n : Nat) : Int)
theorem cls_len (a b : Po) (i k : Nat) : (cls a b i k).length = 256 := rng_len
theorem cls_set (a : Po) (b : List UInt8) (i k : Nat) (h : i + k < 256) : (cls a (cb b) i k).set (i + k) ((cls a (cb b) i k).getD (i + k) 0 + ((cbN b k : Nat) : Int)) = cls a (cb b) i (k + 1) := by
  unfold cls
  rw [rng_set, rng_getD h]
  apply List.map_congr_left
  intro n _
  rw [ck_s, cbN_eq]
  by_cases hn : n = i + k
  · subst hn; rw [if_pos rfl, if_pos rfl]; simp
  · rw [if_neg hn, if_neg hn]

/-- Folded down, in counts. -/
def fdN (f : Nat → Nat) : Nat → Nat → Nat
  | 0 => f
  | k + 1 => fun n => if fdN f k (255 - k) % 2 = 1 ∧ (n = 255 - k - 128 ∨ n = 255 - k - 127 ∨ n = 255 - k - 126 ∨ n = 255 - k - 121) then fdN f k n + 1 else fdN f k n
theorem odd_fdN (f : Nat → Nat) : ∀ k, (fun n => odd (fdN f k n)) = flds (fun n => odd (f n)) k
  | 0 => rfl
  | k + 1 => by
    show _ = fld (255 - k) (flds (fun n => odd (f n)) k)
    rw [← odd_fdN f k]
    funext n
    show odd (if fdN f k (255 - k) % 2 = 1 ∧ (n = 255 - k - 128 ∨ n = 255 - k - 127 ∨ n = 255 - k - 126 ∨ n = 255 - k - 121) then fdN f k n + 1 else fdN f k n) = (odd (fdN f k n) ^^ (odd (fdN f k (255 - k)) && (n == 255 - k - 128 || n == 255 - k - 127 || n == 255 - k - 126 || n == 255 - k - 121)))
    by_cases h1 : fdN f k (255 - k) % 2 = 1
    · have e1 : odd (fdN f k (255 - k)) = true := by unfold odd; rw [h1]; rfl
      rw [e1]
      by_cases h2 : n = 255 - k - 128 ∨ n = 255 - k - 127 ∨ n = 255 - k - 126 ∨ n = 255 - k - 121
      · rw [if_pos ⟨h1, h2⟩]
        have e2 : (n == 255 - k - 128 || n == 255 - k - 127 || n == 255 - k - 126 || n == 255 - k - 121) = true := by
          simp only [Bool.or_eq_true, beq_iff_eq]; omega
        rw [e2]
        have := odd_add (fdN f k n) true
        simpa using this
      · rw [if_neg (fun h => h2 h.2)]
        have e2 : (n == 255 - k - 128 || n == 255 - k - 127 || n == 255 - k - 126 || n == 255 - k - 121) = false := by
          rw [Bool.eq_false_iff]; intro hh
          simp only [Bool.or_eq_true, beq_iff_eq] at hh; omega
        rw [e2]; simp
    · rw [if_neg (fun h => h1 h.1)]
      have e1 : odd (fdN f k (255 - k)) = false := by unfold odd; simpa using h1
      rw [e1]; simp
def fdL (f : Nat → Nat) (k : Nat) : List Int := (List.range 256).map fun n => ((fdN f k n : Nat) : Int)
theorem fdL_len (f : Nat → Nat) (k : Nat) : (fdL f k).length = 256 := rng_len
theorem fdL_getD (f : Nat → Nat) (k n : Nat) (h : n < 256) : (fdL f k).getD n 0 = ((fdN f k n : Nat) : Int) := rng_getD h
theorem fdL_skip (f : Nat → Nat) (k : Nat) (h : ¬ fdN f k (255 - k) % 2 = 1) : fdL f (k + 1) = fdL f k := by
  unfold fdL
  apply List.map_congr_left
  intro n _
  show ((if _ then _ else _ : Nat) : Int) = _
  rw [if_neg (fun hh => h hh.1)]
/-- One more at a place. -/
def inc1 (l : List Int) (j : Nat) : List Int := l.set j (l.getD j 0 + 1)
theorem inc1_map (f : Nat → Int) (j : Nat) (h : j < 256) : inc1 ((List.range 256).map f) j = (List.range 256).map (fun m => if m = j then f m + 1 else f m) := by
  unfold inc1
  rw [rng_set, rng_getD h]
  apply List.map_congr_left
  intro m _
  by_cases hm : m = j
  · rw [if_pos hm, if_pos hm, hm]
  · rw [if_neg hm, if_neg hm]
theorem fdL_step (f : Nat → Nat) (k : Nat) (hk : k < 128) (h : fdN f k (255 - k) % 2 = 1) :
    inc1 (inc1 (inc1 (inc1 (fdL f k) (255 - k - 128)) (255 - k - 127)) (255 - k - 126)) (255 - k - 121) = fdL f (k + 1) := by
  unfold fdL
  rw [inc1_map _ _ (by omega), inc1_map _ _ (by omega), inc1_map _ _ (by omega), inc1_map _ _ (by omega)]
  apply List.map_congr_left
  intro n _
  show _ = ((if fdN f k (255 - k) % 2 = 1 ∧ (n = 255 - k - 128 ∨ n = 255 - k - 127 ∨ n = 255 - k - 126 ∨ n = 255 - k - 121) then fdN f k n + 1 else fdN f k n : Nat) : Int)
  by_cases a1 : n = 255 - k - 128
  · rw [if_pos (show (fdN f k (255 - k) % 2 = 1 ∧ (n = 255 - k - 128 ∨ n = 255 - k - 127 ∨ n = 255 - k - 126 ∨ n = 255 - k - 121)) from ⟨h, .inl a1⟩), if_neg (show ¬ n = 255 - k - 121 by omega), if_neg (show ¬ n = 255 - k - 126 by omega), if_neg (show ¬ n = 255 - k - 127 by omega), if_pos a1]; simp
  · by_cases a2 : n = 255 - k - 127
    · rw [if_pos (show (fdN f k (255 - k) % 2 = 1 ∧ (n = 255 - k - 128 ∨ n = 255 - k - 127 ∨ n = 255 - k - 126 ∨ n = 255 - k - 121)) from ⟨h, .inr (.inl a2)⟩), if_neg (show ¬ n = 255 - k - 121 by omega), if_neg (show ¬ n = 255 - k - 126 by omega), if_pos a2, if_neg a1]; simp
    · by_cases a3 : n = 255 - k - 126
      · rw [if_pos (show (fdN f k (255 - k) % 2 = 1 ∧ (n = 255 - k - 128 ∨ n = 255 - k - 127 ∨ n = 255 - k - 126 ∨ n = 255 - k - 121)) from ⟨h, .inr (.inr (.inl a3))⟩), if_neg (show ¬ n = 255 - k - 121 by omega), if_pos a3, if_neg a2, if_neg a1]; simp
      · by_cases a4 : n = 255 - k - 121
        · rw [if_pos (show (fdN f k (255 - k) % 2 = 1 ∧ (n = 255 - k - 128 ∨ n = 255 - k - 127 ∨ n = 255 - k - 126 ∨ n = 255 - k - 121)) from ⟨h, .inr (.inr (.inr a4))⟩), if_pos a4, if_neg a3, if_neg a2, if_neg a1]; simp
        · rw [if_neg (show ¬ (fdN f k (255 - k) % 2 = 1 ∧ (n = 255 - k - 128 ∨ n = 255 - k - 127 ∨ n = 255 - k - 126 ∨ n = 255 - k - 121)) from fun hh => by omega), if_neg a4, if_neg a3, if_neg a2, if_neg a1]
/-- A byte, out of eight counts. -/
def by8 (g : Nat → Nat) (i : Nat) : Nat → UInt8
  | 0 => 0
  | k + 1 => 2 * by8 g i k + u8i ((g (8 * i + k) : Int).tmod 2)
theorem by8_z (g : Nat → Nat) (i : Nat) : by8 g i 0 = 0 := rfl
theorem by8_s (g : Nat → Nat) (i k : Nat) : by8 g i (k + 1) = 2 * by8 g i k + u8i ((g (8 * i + k) : Int).tmod 2) := rfl
def nb8 (g : Nat → Nat) (i : Nat) : Nat → Nat
  | 0 => 0
  | k + 1 => 2 * nb8 g i k + g (8 * i + k) % 2
theorem nb8_lt (g : Nat → Nat) (i : Nat) : ∀ k, nb8 g i k < 2 ^ k
  | 0 => by simp [nb8]
  | k + 1 => by have := nb8_lt g i k; simp only [nb8, Nat.pow_succ]; omega
theorem u8i_2 (n : Nat) : (u8i ((n : Int).tmod 2)).toNat = n % 2 := by
  unfold u8i
  have : (((n : Int).tmod 2) % 256).toNat = n % 2 := by
    rw [Int.tmod_eq_emod_of_nonneg (by omega)]; omega
  rw [this]; simp; omega
theorem by8_nb8 (g : Nat → Nat) (i : Nat) : ∀ k, k ≤ 8 → (by8 g i k).toNat = nb8 g i k
  | 0, _ => rfl
  | k + 1, hk => by
    have h1 := nb8_lt g i k
    have h2 : 2 ^ k ≤ 128 := Nat.le_trans (Nat.pow_le_pow_right (by decide) (show k ≤ 7 by omega)) (by decide)
    rw [by8_s, UInt8.toNat_add, UInt8.toNat_mul, by8_nb8 g i k (by omega), u8i_2]
    show (2 * nb8 g i k % 256 + g (8 * i + k) % 2) % 256 = 2 * nb8 g i k + g (8 * i + k) % 2
    omega
theorem nb8_bit (g : Nat → Nat) (i : Nat) : ∀ k j, j < k → (nb8 g i k).testBit j = odd (g (8 * i + (k - 1 - j)))
  | k + 1, 0, _ => by
    rw [Nat.testBit_zero]
    show decide ((2 * nb8 g i k + g (8 * i + k) % 2) % 2 = 1) = odd (g (8 * i + k))
    unfold odd
    rw [Bool.eq_iff_iff]; simp
  | k + 1, j + 1, h => by
    rw [Nat.testBit_succ]
    have : (2 * nb8 g i k + g (8 * i + k) % 2) / 2 = nb8 g i k := by omega
    show ((2 * nb8 g i k + g (8 * i + k) % 2) / 2).testBit j = _
    rw [this, nb8_bit g i k j (by omega), show k + 1 - 1 - (j + 1) = k - 1 - j by omega]
def outL (g : Nat → Nat) : List UInt8 := (List.range 16).map fun i => by8 g i 8
theorem outL_len (g : Nat → Nat) : (outL g).length = 16 := rng_len
theorem cb_outL (g : Nat → Nat) (n : Nat) (hn : n < 128) : cb (outL g) n = odd (g n) := by
  unfold cb outL
  rw [rng_getD (by omega)]
  unfold bit8
  rw [by8_nb8 g _ 8 (by omega), nb8_bit g _ 8 _ (by omega)]
  congr 2; omega
theorem hor_congr {p p2 q q2 : Po} (hp : ∀ n, n < 128 → p n = p2 n) (hq : ∀ n, n < 128 → q n = q2 n) : ∀ k, k ≤ 128 → ∀ n, n < 128 → hor p q k n = hor p2 q2 k n
  | 0, _, _, _ => rfl
  | k + 1, hk, n, hn => by
    show (xt (hor p q k) n ^^ (p (127 - k) && (decide (n < 128) && q n))) = (xt (hor p2 q2 k) n ^^ (p2 (127 - k) && (decide (n < 128) && q2 n)))
    rw [xt_congr (hor_congr hp hq k (by omega)) n hn, hp _ (by omega), hq n hn]
/-- The product of two blocks: the reference's, the program's. -/
def mulB (a b : List UInt8) : List UInt8 := blkL (tms (ofL a) (ofL b) 128)
theorem mulB_len (a b : List UInt8) : (mulB a b).length = 16 := by unfold mulB blkL; exact rng_len
theorem out_mulB (a b : List UInt8) : outL (fdN (cs (cb a) (cb b) 128) 128) = mulB a b := by
  apply cb_ext (outL_len _) (mulB_len a b)
  intro n hn
  rw [cb_outL _ n hn]
  unfold mulB
  rw [cb_blk _ n hn, pb_tms _ _ 128 (by omega) n hn, hor_congr (fun m hm => pb_of a m hm) (fun m hm => pb_of b m hm) 128 (by omega) n hn, ← prod_eq _ _ n hn, ← odd_fdN]
end Go.Sh
/- gcm's reference: a bit (f104), a product (f97). -/
namespace Go.Sh
open Go.Proofs
set_option maxHeartbeats 4000000
set_option linter.unusedSimpArgs false

theorem d128 : ∀ i : Nat, i < 128 → w64 ((i : Int).tdiv 8) = ((i / 8 : Nat) : Int) ∧ (i : Int).tmod 8 = ((i % 8 : Nat) : Int) := by decide +kernel
theorem half_w (n : Nat) (h : n < 100000) : w64 ((n : Int).tdiv 2) = ((n / 2 : Nat) : Int) := by rw [Int.tdiv_eq_ediv_of_nonneg (by omega)]; simp only [w64_eq]; omega
theorem f104 (f : Bool) (b : List UInt8) (hb : b.length = 16) (i : Nat) (hi : i < 128) : SCall Try.prog 104 [.sl 0 0 16 1 f, .i (i : Int)] [some (.ro (b.map .u8))] (.i ((cbN b i : Nat) : Int)) [some (.ro (b.map .u8))] := by
  obtain ⟨hd, hm⟩ := d128 i hi
  have hc : (b.getD (i / 8) 0).toNat < 256 := UInt8.toNat_lt _
  refine scall_of ttOk (by kernel_rfl : Try.prog.funcs[104]? = some Try.f104) rfl rfl rfl ?_
  refine sw_ok ttOk mixed (by kernel_rfl) ?_
  conv => whnf
  repeat (first | (refine Exists.intro _ (And.intro (sload_u8 (i := i / 8) (by first | rfl | omega | fail) (by first | omega | fail)) ?_); conv => whnf) | (refine Exists.intro _ (And.intro (idx_i (m := i / 8) (by first | rfl | omega | fail)) ?_); conv => whnf) | (refine Exists.intro _ (And.intro rfl ?_); conv => whnf) | (refine And.intro (by first | omega | fail) ?_; conv => whnf) | fail)
  refine loop_rule ttOk mixed (by kernel_rfl) (ι := { k : Nat // i % 8 ≤ k ∧ k ≤ 7 }) (fun k => [(5, .i (((b.getD (i / 8) 0).toNat / 2 ^ (k.1 - i % 8) : Nat) : Int)), (6, .i (k.1 : Int))]) (fun _ => [some (.ro (b.map .u8))]) (fun _ => 1) (fun k => 7 - k.1) ⟨i % 8, by omega, by omega⟩ ?_ ?_
  · have h0 : (((b.getD (i / 8) 0).toNat / 2 ^ (i % 8 - i % 8) : Nat) : Int) = (((b.getD (i / 8) 0).toNat : Nat) : Int) := by rw [Nat.sub_self, Nat.pow_zero, Nat.div_one]
    refine Weak.sel [0] rfl rfl ?_ ?_ rfl rfl
    · (repeat' (first | exact trivial | refine And.intro ?_ ?_ | fail)) <;> first | exact wk_i (by first | exact hm | exact h0 | fail) | fail
    · (repeat' (first | exact trivial | refine And.intro ?_ ?_ | fail)) <;> first | exact ren_eq (by first | (simp; done) | fail) (by first | rfl | fail) | fail
  · rintro ⟨k, hk1, hk⟩
    have hlt2 : (b.getD (i / 8) 0).toNat / 2 ^ (k - i % 8) < 256 := Nat.lt_of_le_of_lt (Nat.div_le_self _ _) hc
    dsimp only
    by_cases hk2 : k < 7
    · have hlt : decide ((k : Int) < 7) = true := by simp; omega
      have hp1 := w6_p1 k (by omega)
      have hh := half_w _ (show (b.getD (i / 8) 0).toNat / 2 ^ (k - i % 8) < 100000 by omega)
      rw [Nat.div_div_eq_div_mul, ← Nat.pow_succ, show (k - i % 8).succ = k + 1 - i % 8 by omega] at hh
      conv => whnf
      first | refine brT (by exact hlt) ?_ | fail
      conv => whnf
      repeat (first | (refine Exists.intro _ (And.intro rfl ?_); conv => whnf) | fail)
      refine ⟨⟨k + 1, by omega, by omega⟩, by simp only; omega, ?_⟩
      refine Weak.sel [0] rfl rfl ?_ ?_ rfl rfl
      · (repeat' (first | exact trivial | refine And.intro ?_ ?_ | fail)) <;> first | exact wk_i (by first | exact hp1.symm | exact hh.symm | fail) | fail
      · (repeat' (first | exact trivial | refine And.intro ?_ ?_ | fail)) <;> first | exact ren_eq (by first | (simp; done) | fail) (by first | rfl | fail) | fail
    · obtain rfl : k = 7 := by omega
      have hr : (((b.getD (i / 8) 0).toNat / 2 ^ (7 - i % 8) : Nat) : Int).tmod 2 = ((cbN b i : Nat) : Int) := by
        exact tmod_nk _ 2
      conv => whnf
      first | refine brF (by rfl) ?_ | fail
      conv => whnf
      repeat (first | (refine Exists.intro _ (And.intro rfl ?_); conv => whnf) | fail)
      refine ⟨[0], ?_, rfl, rfl, ?_, rfl⟩
      · (repeat' (fail)) <;> first | exact wk_i (by first | exact hr | fail) | fail
      · (repeat' (first | exact trivial | refine And.intro ?_ ?_ | fail)) <;> first | exact ren_eq (by first | (simp; done) | fail) (by first | rfl | fail) | fail
theorem ckE (a b : Po) (i : Nat) (h : a i = true) : cls a b i 128 = cls a b (i + 1) 0 := by
  unfold cls; apply List.map_congr_left; intro n _; rw [ck_128 a b i n h, ck_0]
theorem ckS (a b : Po) (i : Nat) (h : a i = false) : cls a b (i + 1) 0 = cls a b i 0 := by
  unfold cls; apply List.map_congr_left; intro n _; rw [ck_0, ck_0, cs_skip a b i n h]
theorem rng_const {α : Type} (n : Nat) (f : Nat → α) (z : α) (h : ∀ j, f j = z) : (List.range n).map f = List.replicate n z := by
  rw [show f = fun _ => z from funext h]
  induction n with
  | zero => rfl
  | succ n ih => rw [rng_succ, ih, List.replicate_succ']
theorem ckZ (a b : Po) : cls a b 0 0 = List.replicate 256 0 := rng_const 256 _ 0 fun n => by rw [ck_0]; rfl
theorem cls_getD (a b : Po) (i k n : Nat) (h : n < 256) : (cls a b i k).getD n 0 = ((ck a b i k n : Nat) : Int) := rng_getD h
theorem cls_set' (a : Po) (b : List UInt8) (i k : Nat) (hi : i < 128) (hk : k < 128) : (cls a (cb b) i k).set (i + k) (w64 ((cls a (cb b) i k).getD (i + k) 0 + ((cbN b k : Nat) : Int))) = cls a (cb b) i (k + 1) := by
  have h1 : ck a (cb b) i k (i + k) ≤ i + 1 := by
    unfold ck
    have : cs a (cb b) i (i + k) ≤ i := by
      have : ∀ j n, cs a (cb b) j n ≤ j := by
        intro j
        induction j with
        | zero => intro n; exact Nat.le_refl _
        | succ j ih => intro n; show cs a (cb b) j n + _ ≤ j + 1; have := ih n; split <;> omega
      exact this i _
    split <;> omega
  have h2 : cbN b k ≤ 1 := by rw [cbN_eq]; split <;> omega
  rw [← cls_set a b i k (by omega), cls_getD _ _ _ _ _ (by omega)]
  congr 1
  simp only [w64_eq]; omega
theorem fdE (a b : Po) : fdL (cs a b 128) 0 = cls a b 128 0 := by
  unfold fdL cls; apply List.map_congr_left; intro n _; rw [ck_0]; rfl
theorem ren_zi2 {sel : List Nat} {n : Nat} {l : List Int} (h : l = List.replicate n 0) : renL sel (l.map .i) = some (List.replicate n (.i 0)) := by subst h; exact ren_zi
theorem w_add (a b : Nat) (h : a + b < 4611686018427387904) : w64 ((a : Int) + (b : Int)) = ((a + b : Nat) : Int) := by simp only [w64_eq]; omega
theorem cs_le (a b : Po) : ∀ i n, cs a b i n ≤ i
  | 0, _ => Nat.le_refl _
  | i + 1, n => by
    show cs a b i n + _ ≤ i + 1
    have := cs_le a b i n
    split <;> omega
theorem ck_le (a b : Po) (i k n : Nat) : ck a b i k n ≤ i + 1 := by
  unfold ck
  have := cs_le a b i n
  split <;> omega
def incw (l : List Int) (j : Nat) : List Int := l.set j (w64 (l.getD j 0 + 1))
theorem incw_inc (l : List Int) (j : Nat) (B : Int) (h : ∀ n, 0 ≤ l.getD n 0 ∧ l.getD n 0 ≤ B) (hB : B < 4611686018427387904) : incw l j = inc1 l j := by
  unfold incw inc1
  have := h j
  congr 1
  simp only [w64_eq]; omega
theorem inc1_le (l : List Int) (j : Nat) (B : Int) (h : ∀ n, 0 ≤ l.getD n 0 ∧ l.getD n 0 ≤ B) : ∀ n, 0 ≤ (inc1 l j).getD n 0 ∧ (inc1 l j).getD n 0 ≤ B + 1 := by
  intro n
  unfold inc1
  have h1 := h n
  have h2 := h j
  rw [List.getD_eq_getElem?_getD, List.getElem?_set]
  by_cases hn : j = n
  · rw [if_pos hn]
    by_cases hl : j < l.length
    · rw [if_pos hl]; simp only [Option.getD_some]; omega
    · rw [if_neg hl]; simp only [Option.getD_none]; omega
  · rw [if_neg hn, ← List.getD_eq_getElem?_getD]; omega
theorem fdN_le (f : Nat → Nat) (B : Nat) (h : ∀ n, f n ≤ B) : ∀ k n, fdN f k n ≤ B + k
  | 0, n => h n
  | k + 1, n => by
    have e : fdN f (k + 1) n ≤ fdN f k n + 1 := by
      show (if _ then _ else _) ≤ _
      split
      · exact Nat.le_refl _
      · exact Nat.le_succ _
    have := fdN_le f B h k n
    omega
theorem fdL_le (f : Nat → Nat) (B : Nat) (h : ∀ n, f n ≤ B) (k n : Nat) : 0 ≤ (fdL f k).getD n 0 ∧ (fdL f k).getD n 0 ≤ ((B + k : Nat) : Int) := by
  by_cases hn : n < 256
  · rw [fdL_getD _ _ _ hn]
    have := fdN_le f B h k n
    omega
  · rw [List.getD_eq_getElem?_getD, List.getElem?_eq_none (by rw [fdL_len]; omega)]
    simp only [Option.getD_none]; omega
theorem fdL_stepw (f : Nat → Nat) (h : ∀ n, f n ≤ 128) (m : Nat) (hm : m < 128) (ho : fdN f (127 - m) (128 + m) % 2 = 1) :
    incw (incw (incw (incw (fdL f (127 - m)) m) (m + 1)) (m + 2)) (m + 7) = fdL f (128 - m) := by
  have e : 255 - (127 - m) = 128 + m := by omega
  have hs := fdL_step f (127 - m) (by omega) (by rw [e]; exact ho)
  rw [e, show 128 + m - 128 = m by omega, show 128 + m - 127 = m + 1 by omega, show 128 + m - 126 = m + 2 by omega, show 128 + m - 121 = m + 7 by omega, show 127 - m + 1 = 128 - m by omega] at hs
  rw [← hs]
  have b0 := fdL_le f 128 h (127 - m)
  have b1 := inc1_le _ m _ b0
  have b2 := inc1_le _ (m + 1) _ b1
  have b3 := inc1_le _ (m + 2) _ b2
  rw [incw_inc _ m _ b0 (by omega), incw_inc _ (m + 1) _ b1 (by omega), incw_inc _ (m + 2) _ b2 (by omega), incw_inc _ (m + 7) _ b3 (by omega)]
theorem fdL_skip' (f : Nat → Nat) (m : Nat) (hm : m < 128) (ho : ¬ fdN f (127 - m) (128 + m) % 2 = 1) : fdL f (127 - m) = fdL f (128 - m) := by
  have e : 255 - (127 - m) = 128 + m := by omega
  rw [← fdL_skip f (127 - m) (by rw [e]; exact ho), show 127 - m + 1 = 128 - m by omega]
theorem incw_len (l : List Int) (j : Nat) : (incw l j).length = l.length := by unfold incw; exact List.length_set ..
theorem set_upd {l : List UInt8} {i : Nat} {x y : UInt8} (h : UInt8 → UInt8) (hi : i < l.length) (hy : y = h x) : (l.set i x).set i (h ((l.set i x).getD i 0)) = l.set i y := by
  subst hy
  rw [List.getD_eq_getElem?_getD, List.getElem?_set]; simp [hi]
theorem i97 : ∀ m : Nat, m < 128 → w64 (((128 + m : Nat) : Int) - 1) = ((127 + m : Nat) : Int) ∧ w64 (((128 + m : Nat) : Int) - 128) = (m : Int) ∧ w64 (((128 + m : Nat) : Int) - 127) = ((m + 1 : Nat) : Int) ∧ w64 (((128 + m : Nat) : Int) - 126) = ((m + 2 : Nat) : Int) ∧ w64 (((128 + m : Nat) : Int) - 121) = ((m + 7 : Nat) : Int) := by decide +kernel
theorem i8k (i k : Nat) (hi : i < 16) (hk : k < 8) : w64 (w64 (8 * (i : Int)) + (k : Int)) = ((8 * i + k : Nat) : Int) := by simp only [w64_eq]; omega
attribute [local irreducible] fdN by8
attribute [local irreducible] cls fdL
theorem f97 (fa fb : Bool) (a b : List UInt8) (ha : a.length = 16) (hb : b.length = 16) : SCall Try.prog 97 [.sl 0 0 16 1 fa, .sl 1 0 16 1 fb] [some (.ro (a.map .u8)), some (.ro (b.map .u8))] (.sl 2 0 16 1 true) [some (.ro (a.map .u8)), some (.ro (b.map .u8)), some (.row 5 ((mulB a b).map .u8))] := by
  refine scall_of ttOk (by kernel_rfl : Try.prog.funcs[97]? = some Try.f97) rfl rfl rfl ?_
  refine sw_ok ttOk mixed (by kernel_rfl) ?_
  conv => whnf
  repeat (first | (refine And.intro ⟨by first | omega | fail, by first | decide | fail⟩ ?_; conv => whnf) | fail)
  refine loop_rule ttOk mixed (by kernel_rfl) (ι := { i : Nat // i ≤ 128 }) (fun i => [(0, .sl 0 0 16 1 fa), (1, .sl 1 0 16 1 fb), (5, .sl 2 0 256 1 true), (6, .i (i.1 : Int))]) (fun i => [some (.ro (a.map .u8)), some (.ro (b.map .u8)), some (.row 3 ((cls (cb a) (cb b) i.1 0).map .i))]) (fun _ => 3) (fun i => 128 - i.1) ⟨0, by omega⟩ ?_ ?_
  · have hz := ckZ (cb a) (cb b)
    refine Weak.sel [0, 1, 2] rfl rfl ?_ ?_ rfl rfl
    · (repeat' (first | exact trivial | refine And.intro ?_ ?_ | fail)) <;> first | rfl | fail
    · (repeat' (first | exact trivial | exact ren_zi2 hz | refine And.intro ?_ ?_ | fail)) <;> first | rfl | exact ren_eq (by first | (simp; done) | fail) (by first | rfl | fail) | fail
  · rintro ⟨i, hi⟩
    have hl := cls_len (cb a) (cb b) i 0
    dsimp only
    by_cases hi2 : i < 128
    · have hlt : decide ((i : Int) < 128) = true := by simp; omega
      have hp1 := w6_p1 i (by omega)
      conv => whnf
      first | refine brT (by exact hlt) ?_ | fail
      conv => whnf
      repeat (fail)
      refine ok1_callP [0] (f104 fa a ha i hi2) rfl rfl ⟨⟨rfl, by first | rfl | fail⟩, by (repeat' (first | exact trivial | refine And.intro ?_ ?_)) <;> first | exact ren_eq (by first | (simp; done) | fail) (by first | rfl | fail), by first | simp [plainH], ?_⟩
      conv => whnf
      by_cases hbit : cb a i = true
      · have hn : (((cbN a i : Nat) : Int) == 0) = false := by rw [cbN_eq, hbit]; rfl
        repeat (first | (refine gdF hn ?_; conv => whnf) | fail)
        refine loop_rule ttOk mixed (by kernel_rfl) (ι := { k : Nat // k ≤ 128 }) (fun k => [(0, .sl 0 0 16 1 fa), (1, .sl 1 0 16 1 fb), (5, .sl 2 0 256 1 true), (6, .i (i : Int)), (7, .i (k.1 : Int))]) (fun k => [some (.ro (a.map .u8)), some (.ro (b.map .u8)), some (.row 3 ((cls (cb a) (cb b) i k.1).map .i))]) (fun _ => 3) (fun k => 128 - k.1) ⟨0, by omega⟩ ?_ ?_
        · refine Weak.sel [0, 1, 2] rfl rfl ?_ ?_ rfl rfl
          · (repeat' (first | exact trivial | refine And.intro ?_ ?_ | fail)) <;> first | rfl | fail
          · (repeat' (first | exact trivial | refine And.intro ?_ ?_ | fail)) <;> first | rfl | exact ren_eq (by first | (simp; done) | fail) (by first | rfl | fail) | fail
        · rintro ⟨k, hk⟩
          have hl := cls_len (cb a) (cb b) i k
          dsimp only
          by_cases hk2 : k < 128
          · have hlt2 : decide ((k : Int) < 128) = true := by simp; omega
            have hp2 := w6_p1 k (by omega)
            have hik := w_add i k (by omega)
            conv => whnf
            first | refine brT (by exact hlt2) ?_ | fail
            conv => whnf
            repeat (first | (refine Exists.intro _ (And.intro (sload_i (i := i + k) (by first | rfl | omega | fail) (by first | omega | fail)) ?_); conv => whnf) | (refine Exists.intro _ (And.intro (idx_i (m := i + k) (by first | rfl | omega | fail)) ?_); conv => whnf) | (refine And.intro (by first | omega | fail) ?_; conv => whnf) | fail)
            refine ok1_callP [1] (f104 fb b hb k hk2) rfl rfl ⟨⟨rfl, by first | rfl | fail⟩, by (repeat' (first | exact trivial | refine And.intro ?_ ?_)) <;> first | exact ren_eq (by first | (simp; done) | fail) (by first | rfl | fail), by first | simp [plainH], ?_⟩
            conv => whnf
            have hst := cls_set' (cb a) b i k hi2 hk2
            repeat (first | (refine Exists.intro _ (And.intro (sput_mi (i := i + k) (by first | rfl | omega | fail)) ?_); conv => whnf) | (refine Exists.intro _ (And.intro (idx_i (m := i + k) (by first | rfl | omega | fail)) ?_); conv => whnf) | (refine And.intro (by first | omega | (simp; omega) | fail) ?_; conv => whnf) | (refine And.intro (by kernel_rfl) ?_; conv => whnf) | fail)
            refine ⟨⟨k + 1, by omega⟩, by simp only; omega, ?_⟩
            refine Weak.sel [0, 1, 2] rfl rfl ?_ ?_ rfl rfl
            · (repeat' (first | exact trivial | refine And.intro ?_ ?_ | fail)) <;> first | exact wk_i (by first | exact hp2 | exact hp2.symm | fail) | rfl | fail
            · (repeat' (first | exact trivial | refine And.intro ?_ ?_ | fail)) <;> first | rfl | exact ren_eq (by first | (simp; done) | fail) (by first | rfl | fail) | exact ren_mi (by first | exact hst.symm | fail) | fail
          · obtain rfl : k = 128 := by omega
            have he := ckE (cb a) (cb b) i hbit
            conv => whnf
            first | refine brF (by rfl) ?_ | fail
            conv => whnf
            repeat (fail)
            refine ⟨⟨i + 1, by omega⟩, by simp only; omega, ?_⟩
            dsimp only
            rw [← he]
            refine Weak.sel [0, 1, 2] rfl rfl ?_ ?_ rfl rfl
            · (repeat' (first | exact trivial | refine And.intro ?_ ?_ | fail)) <;> first | exact wk_i (by first | exact hp1 | exact hp1.symm | fail) | rfl | fail
            · (repeat' (first | exact trivial | refine And.intro ?_ ?_ | fail)) <;> first | rfl | exact ren_eq (by first | (simp; done) | fail) (by first | rfl | fail) | fail
      · have hbit2 : cb a i = false := by simpa using hbit
        have hn : (((cbN a i : Nat) : Int) == 0) = true := by rw [cbN_eq, hbit2]; rfl
        have hs := ckS (cb a) (cb b) i hbit2
        repeat (first | (refine gdT hn ?_; conv => whnf) | fail)
        refine ⟨⟨i + 1, by omega⟩, by simp only; omega, ?_⟩
        dsimp only
        rw [hs]
        refine Weak.sel [0, 1, 2] rfl rfl ?_ ?_ rfl rfl
        · (repeat' (first | exact trivial | refine And.intro ?_ ?_ | fail)) <;> first | exact wk_i (by first | exact hp1 | exact hp1.symm | fail) | rfl | fail
        · (repeat' (first | exact trivial | refine And.intro ?_ ?_ | fail)) <;> first | rfl | exact ren_eq (by first | (simp; done) | fail) (by first | rfl | fail) | fail
    · obtain rfl : i = 128 := by omega
      rw [← fdE]
      conv => whnf
      first | refine brF (by rfl) ?_ | fail
      conv => whnf
      repeat (fail)
      have hcs : ∀ n, cs (cb a) (cb b) 128 n ≤ 128 := cs_le _ _ 128
      have hmul := out_mulB a b
      obtain ⟨g, hg⟩ : ∃ g, g = cs (cb a) (cb b) 128 := ⟨_, rfl⟩
      rw [← hg] at hcs hmul ⊢
      refine loop_rule ttOk mixed (by kernel_rfl) (ι := { m : Nat // m ≤ 128 }) (fun m => [(5, .sl 2 0 256 1 true), (8, .i ((127 + m.1 : Nat) : Int))]) (fun m => [some (.ro (a.map .u8)), some (.ro (b.map .u8)), some (.row 3 ((fdL g (128 - m.1)).map .i))]) (fun _ => 3) (fun m => m.1) ⟨128, by omega⟩ ?_ ?_
      · refine Weak.sel [0, 1, 2] rfl rfl ?_ ?_ rfl rfl
        · (repeat' (first | exact trivial | refine And.intro ?_ ?_ | fail)) <;> first | rfl | fail
        · (repeat' (first | exact trivial | refine And.intro ?_ ?_ | fail)) <;> first | rfl | exact ren_eq (by first | (simp; done) | fail) (by first | rfl | fail) | fail
      · rintro ⟨m, hm⟩
        have hl := fdL_len g (128 - m)
        dsimp only
        rcases m with _ | m
        · conv => whnf
          first | refine brF (by rfl) ?_ | fail
          conv => whnf
          repeat (first | (refine And.intro ⟨by first | omega | fail, by first | decide | fail⟩ ?_; conv => whnf) | fail)
          refine loop_rule ttOk mixed (by kernel_rfl) (ι := { i : Nat // i ≤ 16 }) (fun i => [(5, .sl 2 0 256 1 true), (9, .sl 3 0 16 1 true), (10, .i (i.1 : Int))]) (fun i => [some (.ro (a.map .u8)), some (.ro (b.map .u8)), some (.row 3 ((fdL g 128).map .i)), some (.row 5 ((fil 16 i.1 (fun j => by8 (fdN g 128) j 8) (fun _ => 0)).map .u8))]) (fun _ => 4) (fun i => 16 - i.1) ⟨0, by omega⟩ ?_ ?_
          · have hz : fil 16 0 (fun j => by8 (fdN g 128) j 8) (fun _ => (0 : UInt8)) = List.replicate 16 0 := fil_zero ..
            refine Weak.sel [0, 1, 2, 3] rfl rfl ?_ ?_ rfl rfl
            · (repeat' (first | exact trivial | refine And.intro ?_ ?_ | fail)) <;> first | rfl | fail
            · (repeat' (first | exact trivial | refine And.intro ?_ ?_ | (refine wk_cons ?_ ?_))) <;> first | rfl | exact ren_eq (by first | (simp; done) | fail) (by first | rfl | fail) | fail
          · rintro ⟨i, hi⟩
            obtain ⟨F, hF⟩ : ∃ F, F = fil 16 i (fun j => by8 (fdN g 128) j 8) (fun _ => (0 : UInt8)) := ⟨_, rfl⟩
            have hFl : F.length = 16 := by rw [hF]; exact fil_len ..
            have hl := fdL_len g 128
            dsimp only
            rw [← hF]
            by_cases hi2 : i < 16
            · have hlt : decide ((i : Int) < 16) = true := by simp; omega
              have hp1 := w6_p1 i (by omega)
              have h0 : F.set i (by8 (fdN g 128) i 0) = F := by rw [hF]; exact fil_same hi2 (by8_z _ _)
              have h8 : F.set i (by8 (fdN g 128) i 8) = fil 16 (i + 1) (fun j => by8 (fdN g 128) j 8) (fun _ => (0 : UInt8)) := by rw [hF]; exact fil_set hi2
              conv => whnf
              first | refine brT (by exact hlt) ?_ | fail
              conv => whnf
              repeat (fail)
              refine loop_rule ttOk mixed (by kernel_rfl) (ι := { k : Nat // k ≤ 8 }) (fun k => [(5, .sl 2 0 256 1 true), (9, .sl 3 0 16 1 true), (10, .i (i : Int)), (11, .i (k.1 : Int))]) (fun k => [some (.ro (a.map .u8)), some (.ro (b.map .u8)), some (.row 3 ((fdL g 128).map .i)), some (.row 5 ((F.set i (by8 (fdN g 128) i k.1)).map .u8))]) (fun _ => 4) (fun k => 8 - k.1) ⟨0, by omega⟩ ?_ ?_
              · refine Weak.sel [0, 1, 2, 3] rfl rfl ?_ ?_ rfl rfl
                · (repeat' (first | exact trivial | refine And.intro ?_ ?_ | fail)) <;> first | rfl | fail
                · (repeat' (first | exact trivial | refine And.intro ?_ ?_ | fail)) <;> first | exact ren_m8 (by first | exact h0 | fail) | rfl | exact ren_eq (by first | (simp; done) | fail) (by first | rfl | fail) | fail
              · rintro ⟨k, hk⟩
                have hsl : (F.set i (by8 (fdN g 128) i k)).length = 16 := by rw [List.length_set]; exact hFl
                dsimp only
                by_cases hk2 : k < 8
                · have hlt2 : decide ((k : Int) < 8) = true := by simp; omega
                  have hp2 := w6_p1 k (by omega)
                  have hik := i8k i k hi2 hk2
                  have hv : (fdL g 128).getD (8 * i + k) 0 = ((fdN g 128 (8 * i + k) : Nat) : Int) := fdL_getD _ _ _ (by omega)
                  have hst : (F.set i (by8 (fdN g 128) i k)).set i (2 * (F.set i (by8 (fdN g 128) i k)).getD i 0 + u8i (((fdL g 128).getD (8 * i + k) 0).tmod 2)) = F.set i (by8 (fdN g 128) i (k + 1)) :=
                    set_upd (fun x => 2 * x + u8i (((fdL g 128).getD (8 * i + k) 0).tmod 2)) (by omega) (by rw [by8_s, hv])
                  conv => whnf
                  first | refine brT (by exact hlt2) ?_ | fail
                  conv => whnf
                  repeat (first | (refine Exists.intro _ (And.intro (sput_m8 (i := i) (by first | rfl | omega | fail)) ?_); conv => whnf) | (refine Exists.intro _ (And.intro (sload_u8 (i := i) (by first | rfl | omega | fail) (by first | omega | fail)) ?_); conv => whnf) | (refine Exists.intro _ (And.intro (idx_i (m := i) (by first | rfl | fail)) ?_); conv => whnf) | (refine Exists.intro _ (And.intro (sload_i (i := 8 * i + k) (by first | rfl | omega | fail) (by first | omega | fail)) ?_); conv => whnf) | (refine Exists.intro _ (And.intro (idx_i (m := 8 * i + k) (by first | rfl | omega | fail)) ?_); conv => whnf) | (refine Exists.intro _ (And.intro rfl ?_); conv => whnf) | (refine And.intro (by first | omega | (simp; omega) | fail) ?_; conv => whnf) | (refine And.intro (by kernel_rfl) ?_; conv => whnf) | fail)
                  refine ⟨⟨k + 1, by omega⟩, by simp only; omega, ?_⟩
                  refine Weak.sel [0, 1, 2, 3] rfl rfl ?_ ?_ rfl rfl
                  · (repeat' (first | exact trivial | refine And.intro ?_ ?_ | fail)) <;> first | exact wk_i (by first | exact hp2 | exact hp2.symm | fail) | rfl | fail
                  · (repeat' (first | exact trivial | refine And.intro ?_ ?_ | fail)) <;> first | exact ren_m8 (by first | exact hst | exact hst.symm | fail) | rfl | exact ren_eq (by first | (simp; done) | fail) (by first | rfl | fail) | fail
                · obtain rfl : k = 8 := by omega
                  conv => whnf
                  first | refine brF (by rfl) ?_ | fail
                  conv => whnf
                  repeat (fail)
                  refine ⟨⟨i + 1, by omega⟩, by simp only; omega, ?_⟩
                  refine Weak.sel [0, 1, 2, 3] rfl rfl ?_ ?_ rfl rfl
                  · (repeat' (first | exact trivial | refine And.intro ?_ ?_ | fail)) <;> first | exact wk_i (by first | exact hp1 | exact hp1.symm | fail) | rfl | fail
                  · (repeat' (first | exact trivial | refine And.intro ?_ ?_ | fail)) <;> first | exact ren_m8 (by first | exact h8 | exact h8.symm | fail) | rfl | exact ren_eq (by first | (simp; done) | fail) (by first | rfl | fail) | fail
            · obtain rfl : i = 16 := by omega
              have hfin : F = mulB a b := by rw [hF, fil_full]; exact hmul
              conv => whnf
              first | refine brF (by rfl) ?_ | fail
              conv => whnf
              repeat (fail)
              refine ⟨[0, 1, 3], ?_, rfl, rfl, ?_, rfl⟩
              · (repeat' (fail)) <;> first | rfl | fail
              · (repeat' (first | exact trivial | refine And.intro ?_ ?_ | fail)) <;> first | exact ren_m8 (by first | exact hfin | exact hfin.symm | fail) | rfl | exact ren_eq (by first | (simp; done) | fail) (by first | rfl | fail) | fail
        · obtain ⟨hm1, h128, h127, h126, h121⟩ := i97 m (by omega)
          have hge : decide (((127 + (m + 1) : Nat) : Int) ≥ 128) = true := by simp; omega
          have hk1 : 128 - (m + 1) = 127 - m := by omega
          have hi1 : 127 + (m + 1) = 128 + m := by omega
          have hv : (fdL g (127 - m)).getD (128 + m) 0 = ((fdN g (127 - m) (128 + m) : Nat) : Int) := fdL_getD _ _ _ (by omega)
          rw [hk1] at hl ⊢
          rw [hi1] at hge ⊢
          by_cases ho : fdN g (127 - m) (128 + m) % 2 = 1
          · have hb : (((fdL g (127 - m)).getD (128 + m) 0).tmod 2 == 1) = true := by rw [hv]; rw [show ((fdN g (127 - m) (128 + m) : Nat) : Int).tmod 2 = ((fdN g (127 - m) (128 + m) % 2 : Nat) : Int) from tmod_nk _ 2, ho]; rfl
            have hst := fdL_stepw g hcs m (by omega) ho
            have l1 := incw_len (fdL g (127 - m)) m
            have l2 := incw_len (incw (fdL g (127 - m)) m) (m + 1)
            have l3 := incw_len (incw (incw (fdL g (127 - m)) m) (m + 1)) (m + 2)
            rw [hl] at l1
            rw [l1] at l2
            rw [l2] at l3
            conv => whnf
            first | refine brT (by exact hge) ?_ | fail
            conv => whnf
            repeat (first | (refine Exists.intro _ (And.intro (sload_i (i := 128 + m) (by first | rfl | omega | fail) (by first | omega | fail)) ?_); conv => whnf) | (refine Exists.intro _ (And.intro (idx_i (m := 128 + m) (by first | rfl | fail)) ?_); conv => whnf) | (refine Exists.intro _ (And.intro rfl ?_); conv => whnf) | (refine And.intro (by first | omega | fail) ?_; conv => whnf) | fail)
            first | refine brT (by exact hb) ?_ | fail
            conv => whnf
            repeat (first | (refine Exists.intro _ (And.intro (sput_mi (i := m) (by first | rfl | omega | fail)) ?_); conv => whnf) | (refine Exists.intro _ (And.intro (sload_i (i := m) (by first | rfl | omega | fail) (by first | omega | fail)) ?_); conv => whnf) | (refine Exists.intro _ (And.intro (idx_i (m := m) (by first | rfl | omega | fail)) ?_); conv => whnf) | (refine Exists.intro _ (And.intro (sput_mi (i := m + 1) (by first | rfl | omega | fail)) ?_); conv => whnf) | (refine Exists.intro _ (And.intro (sload_i (i := m + 1) (by first | rfl | omega | fail) (by first | (simp [hl]; omega))) ?_); conv => whnf) | (refine Exists.intro _ (And.intro (idx_i (m := m + 1) (by first | rfl | omega | fail)) ?_); conv => whnf) | (refine Exists.intro _ (And.intro (sput_mi (i := m + 2) (by first | rfl | omega | fail)) ?_); conv => whnf) | (refine Exists.intro _ (And.intro (sload_i (i := m + 2) (by first | rfl | omega | fail) (by first | (simp [hl]; omega))) ?_); conv => whnf) | (refine Exists.intro _ (And.intro (idx_i (m := m + 2) (by first | rfl | omega | fail)) ?_); conv => whnf) | (refine Exists.intro _ (And.intro (sput_mi (i := m + 7) (by first | rfl | omega | fail)) ?_); conv => whnf) | (refine Exists.intro _ (And.intro (sload_i (i := m + 7) (by first | rfl | omega | fail) (by first | (simp [hl]; omega))) ?_); conv => whnf) | (refine Exists.intro _ (And.intro (idx_i (m := m + 7) (by first | rfl | omega | fail)) ?_); conv => whnf) | (refine And.intro (by first | omega | (simp; omega) | fail) ?_; conv => whnf) | fail)
            refine ⟨⟨m, by omega⟩, by simp only; omega, ?_⟩
            refine Weak.sel [0, 1, 2] rfl rfl ?_ ?_ rfl rfl
            · (repeat' (first | exact trivial | refine And.intro ?_ ?_ | fail)) <;> first | exact wk_i (by first | exact hm1 | exact hm1.symm | fail) | rfl | fail
            · (repeat' (first | exact trivial | refine And.intro ?_ ?_ | fail)) <;> first | rfl | exact ren_eq (by first | (simp; done) | fail) (by first | rfl | fail) | exact ren_mi (by first | exact hst.symm | fail) | fail
          · have hb : (((fdL g (127 - m)).getD (128 + m) 0).tmod 2 == 1) = false := by
              rw [hv]; rw [show ((fdN g (127 - m) (128 + m) : Nat) : Int).tmod 2 = ((fdN g (127 - m) (128 + m) % 2 : Nat) : Int) from tmod_nk _ 2]; simp; omega
            have hst := fdL_skip' g m (by omega) ho
            conv => whnf
            first | refine brT (by exact hge) ?_ | fail
            conv => whnf
            repeat (first | (refine Exists.intro _ (And.intro (sload_i (i := 128 + m) (by first | rfl | omega | fail) (by first | omega | fail)) ?_); conv => whnf) | (refine Exists.intro _ (And.intro (idx_i (m := 128 + m) (by first | rfl | fail)) ?_); conv => whnf) | (refine gdF hb ?_; conv => whnf) | (refine Exists.intro _ (And.intro rfl ?_); conv => whnf) | (refine And.intro (by first | omega | fail) ?_; conv => whnf) | fail)
            refine ⟨⟨m, by omega⟩, by simp only; omega, ?_⟩
            dsimp only
            rw [← hst]
            refine Weak.sel [0, 1, 2] rfl rfl ?_ ?_ rfl rfl
            · (repeat' (first | exact trivial | refine And.intro ?_ ?_ | fail)) <;> first | exact wk_i (by first | exact hm1 | exact hm1.symm | fail) | rfl | fail
            · (repeat' (first | exact trivial | refine And.intro ?_ ?_ | fail)) <;> first | rfl | exact ren_eq (by first | (simp; done) | fail) (by first | rfl | fail) | fail
end Go.Sh
