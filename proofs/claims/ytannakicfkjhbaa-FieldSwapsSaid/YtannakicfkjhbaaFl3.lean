/- Merged for a claim: Sh17, Sh21, Sh19, Sh22, Sh23, N1, K1, K2, K5, K6, Sh29, Sh24, Sh25, Sh26, Sh27, K3, K7, K8, K4. -/
import Derived.WalkKit
import Derived.Laws.Externs
import Derived.Test.YtannakicfkjhbaaFl2
/- Small facts for walks. -/
namespace Go.Sh

def plainV : SV → Bool
  | .i _ => true
  | .u8 _ => true
  | .u16 _ => true
  | .u32 _ => true
  | .u64 _ => true
  | .b _ => true
  | .s _ => true
  | .pnil => true
  | .slnil => true
  | .fnil => true
  | .mnil => true
  | _ => false

def plainL (l : List SV) : Bool := l.all plainV

theorem renV_plain (sel : List Nat) {x : SV} (h : plainV x = true) : renV sel x = some x := by cases x <;> first | rfl | cases h
theorem renL_plain (sel : List Nat) : ∀ {l : List SV}, plainL l = true → renL sel l = some l
  | [], _ => rfl
  | x :: l, h => by
    simp only [plainL, List.all_cons, Bool.and_eq_true] at h
    simp only [renL, renV_plain sel h.1, renL_plain sel (l := l) h.2]

@[simp] theorem plainL_u8 (l : List UInt8) : plainL (l.map .u8) = true := by simp [plainL, plainV]
@[simp] theorem plainL_u64 (l : List UInt64) : plainL (l.map .u64) = true := by simp [plainL, plainV]
@[simp] theorem plainL_u32 (l : List UInt32) : plainL (l.map .u32) = true := by simp [plainL, plainV]
@[simp] theorem plainL_i (l : List Int) : plainL (l.map .i) = true := by simp [plainL, plainV]
@[simp] theorem plainL_app (a b : List SV) : plainL (a ++ b) = (plainL a && plainL b) := by simp [plainL]
@[simp] theorem plainL_cons (a : SV) (b : List SV) : plainL (a :: b) = (plainV a && plainL b) := by simp [plainL]
@[simp] theorem plainL_nil : plainL [] = true := rfl
@[simp] theorem plainV_u8 (x : UInt8) : plainV (.u8 x) = true := rfl
@[simp] theorem plainV_u32 (x : UInt32) : plainV (.u32 x) = true := rfl
@[simp] theorem plainV_u64 (x : UInt64) : plainV (.u64 x) = true := rfl
@[simp] theorem plainV_i (x : Int) : plainV (.i x) = true := rfl
@[simp] theorem plainV_b (x : Bool) : plainV (.b x) = true := rfl

/-- Plain cells go by any names. -/
theorem ren_eq {sel : List Nat} {l l' : List SV} (hp : plainL l = true) (h : l = l') : renL sel l = some l' := by rw [renL_plain sel hp, h]

theorem idx_i {n : Int} {m : Nat} (h : n = (m : Int)) : idxOf (.i n) = some m := by
  subst h; simp [idxOf]

theorem take_all {α : Type} {l : List α} {n : Nat} (h : n = l.length) : l.take n = l := by subst h; simp
@[simp] theorem take_map_len {α : Type} (f : α → SV) (l : List α) : (l.map f).take l.length = l.map f := take_all (by simp)

@[simp] theorem cells_row (t : Nat) (l : List SV) : (SB.row t l).cells = l := rfl
@[simp] theorem cells_box (l : List SV) : (SB.box l).cells = l := rfl
@[simp] theorem cells_ro (l : List SV) : (SB.ro l).cells = l := rfl
@[simp] theorem cells_u8 (x : UInt8) : (SV.u8 x).cells = [.u8 x] := rfl
@[simp] theorem cells_u32 (x : UInt32) : (SV.u32 x).cells = [.u32 x] := rfl
@[simp] theorem cells_u64 (x : UInt64) : (SV.u64 x).cells = [.u64 x] := rfl
@[simp] theorem cells_i (x : Int) : (SV.i x).cells = [.i x] := rfl
@[simp] theorem cells_s (x : List UInt8) : (SV.s x).cells = [.s x] := rfl
@[simp] theorem cells_agg (x : List SV) : (SV.agg x).cells = x := rfl
@[simp] theorem reps_u8 (n : Nat) (x : SV) : reps n [x] = List.replicate n x := rfl
@[simp] theorem sput_u8 (l : List SV) (k : Nat) (x : UInt8) : sput l k (.u8 x) = l.set k (.u8 x) := rfl
@[simp] theorem sput_u32 (l : List SV) (k : Nat) (x : UInt32) : sput l k (.u32 x) = l.set k (.u32 x) := rfl
@[simp] theorem sput_u64 (l : List SV) (k : Nat) (x : UInt64) : sput l k (.u64 x) = l.set k (.u64 x) := rfl
@[simp] theorem sput_i (l : List SV) (k : Nat) (x : Int) : sput l k (.i x) = l.set k (.i x) := rfl

/-! ### A call whose blocks hold plain cells -/

def plainB : SB → Bool
  | .row _ l => plainL l
  | .box l => plainL l
  | .ro l => plainL l
  | .obj _ => false
@[simp] theorem plainB_row (t : Nat) (l : List SV) : plainB (.row t l) = plainL l := rfl
@[simp] theorem plainB_box (l : List SV) : plainB (.box l) = plainL l := rfl
@[simp] theorem plainB_ro (l : List SV) : plainB (.ro l) = plainL l := rfl

def plainH : HL → Bool
  | [] => true
  | none :: H => plainH H
  | some b :: H => plainB b && plainH H

def cWp : List Nat → HL → HL → Option Upd
  | s :: ss, some b0 :: H0, ob :: H1 => match cWp ss H0 H1 with
    | some W => match b0.own with
      | false => some W
      | true => match ob with
        | none => some ((s, none) :: W)
        | some b => match b.own with
          | true => some ((s, some b) :: W)
          | false => none
    | none => none
  | s :: ss, [], ob :: H1 => match cWp ss [] H1 with
    | some W => match ob with
      | none => some ((s, none) :: W)
      | some b => match b.own with
        | true => some ((s, some b) :: W)
        | false => none
    | none => none
  | [], [], [] => some []
  | _, _, _ => none

theorem renB_plain (sel : List Nat) {b : SB} (h : plainB b = true) : renB sel b = some b := by
  cases b <;> simp only [plainB, Bool.false_eq_true] at h <;> simp only [renB, renL_plain sel h]

theorem cWp_eq (sel : List Nat) : ∀ (ss : List Nat) (H0 H1 : HL), plainH H1 = true → cW sel ss H0 H1 = cWp ss H0 H1
  | s :: ss, some b0 :: H0, none :: H1, h => by
    simp only [plainH] at h
    simp only [cW, cWp, cWp_eq sel ss H0 H1 h]
    cases cWp ss H0 H1 <;> first | rfl | (cases b0.own <;> rfl)
  | s :: ss, some b0 :: H0, some b :: H1, h => by
    simp only [plainH, Bool.and_eq_true] at h
    simp only [cW, cWp, cWp_eq sel ss H0 H1 h.2, renB_plain sel h.1]
    cases cWp ss H0 H1 <;> first | rfl | (cases b0.own <;> first | rfl | (cases b.own <;> rfl))
  | s :: ss, [], none :: H1, h => by
    simp only [plainH] at h
    simp only [cW, cWp, cWp_eq sel ss [] H1 h]
    cases cWp ss [] H1 <;> rfl
  | s :: ss, [], some b :: H1, h => by
    simp only [plainH, Bool.and_eq_true] at h
    simp only [cW, cWp, cWp_eq sel ss [] H1 h.2, renB_plain sel h.1]
    cases cWp ss [] H1 <;> first | rfl | (cases b.own <;> rfl)
  | [], [], [], _ => rfl
  | [], [], _ :: _, _ => by simp [cW, cWp]
  | [], _ :: _, _, _ => by simp [cW, cWp]
  | _ :: _, [], [], _ => by simp [cW, cWp]
  | _ :: _, none :: _, _, _ => by simp [cW, cWp]
  | _ :: _, some _ :: _, [], _ => by simp [cW, cWp]

def sopCallP (R : RL) (H : HL) (L : Nat) (x : Operand) (args : List Operand) (f : Nat) (sel : List Nat) (args0 : List SV) (H0 : HL) (ret : SV) (H1 : HL) (k : K1) : Prop :=
  (match ev R x with
    | some (.fn g caps) => match evs R args with
      | some zs => g = f ∧ renL sel args0 = some (zs ++ caps)
      | none => False
    | _ => False) ∧ okH sel H sel H0 ∧ plainH H1 = true ∧
  match Nat.beq sel.length H0.length with
  | true => match dupOk sel 0 sel H0 with
    | true => match cWp (sel ++ newSel L (H1.length - H0.length)) H0 H1 with
      | some W => match renV (sel ++ newSel L (H1.length - H0.length)) ret with
        | some z => k (some z) W sel (L + (H1.length - H0.length))
        | none => False
      | none => False
    | false => False
  | false => False

theorem ok1_callP {P : Program} {o : Oper} {R : RL} {H : HL} {L : Nat} {k : K1} {x : Operand} {args : Array Operand} {tys : Array TypeId} {f : Nat} {args0 : List SV} {H0 H1 : HL} {ret : SV} (sel : List Nat)
    (hc : SCall P f args0 H0 ret H1) (ho : o.op = .call ⟨.value x, args, tys⟩) (hle : Nat.ble H.length L = true) (h : sopCallP R H L x args.toList f sel args0 H0 ret H1 k) : Ok1 P o R H L k := by
  obtain ⟨h1, h2, hp, h3⟩ := h
  refine ok1_call sel hc ho hle ⟨h1, h2, ?_⟩
  rw [cWp_eq _ _ _ _ hp]
  exact h3

/-! ### Calls of which some blocks hold plain cells (told by flags), others are renamed by reckoning -/

def plainHf : List Bool → HL → Bool
  | true :: fs, some b :: H => plainB b && plainHf fs H
  | _ :: fs, _ :: H => plainHf fs H
  | _, _ => true

def renBf (f : Bool) (sel : List Nat) (b : SB) : Option SB := match f with | true => some b | false => renB sel b

def cWf (sel : List Nat) : List Bool → List Nat → HL → HL → Option Upd
  | f :: fs, s :: ss, some b0 :: H0, ob :: H1 => match cWf sel fs ss H0 H1 with
    | some W => match b0.own with
      | false => some W
      | true => match ob with
        | none => some ((s, none) :: W)
        | some b => match b.own with
          | true => match renBf f sel b with | some b' => some ((s, some b') :: W) | none => none
          | false => none
    | none => none
  | f :: fs, s :: ss, [], ob :: H1 => match cWf sel fs ss [] H1 with
    | some W => match ob with
      | none => some ((s, none) :: W)
      | some b => match b.own with
        | true => match renBf f sel b with | some b' => some ((s, some b') :: W) | none => none
        | false => none
    | none => none
  | _, [], [], [] => some []
  | _, _, _, _ => none

theorem renBf_eq {f : Bool} {sel : List Nat} {b b' : SB} (hp : f = true → plainB b = true) (h : renBf f sel b = some b') : renB sel b = some b' := by
  cases f with
  | false => exact h
  | true => rw [renB_plain sel (hp rfl)]; exact h

theorem cWf_eq (sel : List Nat) : ∀ (fs : List Bool) (ss : List Nat) (H0 H1 : HL) (W : Upd), plainHf fs H1 = true → cWf sel fs ss H0 H1 = some W → cW sel ss H0 H1 = some W
  | f :: fs, s :: ss, some b0 :: H0, ob :: H1, W, hp, h => by
    have hp1 : plainHf fs H1 = true := by
      cases f <;> cases ob <;> simp only [plainHf, Bool.and_eq_true] at hp <;> first | exact hp | exact hp.2
    simp only [cWf] at h
    split at h
    · rename_i W' hW
      have ih := cWf_eq sel fs ss H0 H1 W' hp1 hW
      simp only [cW, ih]
      split at h
      · rename_i hown; simp only [hown]; exact h
      · rename_i hown
        simp only [hown]
        split at h
        · exact h
        · rename_i b
          split at h
          · rename_i hbo
            simp only [hbo]
            split at h
            · rename_i b' hb'
              rw [renBf_eq (fun e => by subst e; simp only [plainHf, Bool.and_eq_true] at hp; exact hp.1) hb']
              exact h
            · cases h
          · cases h
    · cases h
  | f :: fs, s :: ss, [], ob :: H1, W, hp, h => by
    have hp1 : plainHf fs H1 = true := by
      cases f <;> cases ob <;> simp only [plainHf, Bool.and_eq_true] at hp <;> first | exact hp | exact hp.2
    simp only [cWf] at h
    split at h
    · rename_i W' hW
      have ih := cWf_eq sel fs ss [] H1 W' hp1 hW
      simp only [cW, ih]
      split at h
      · exact h
      · rename_i b
        split at h
        · rename_i hbo
          simp only [hbo]
          split at h
          · rename_i b' hb'
            rw [renBf_eq (fun e => by subst e; simp only [plainHf, Bool.and_eq_true] at hp; exact hp.1) hb']
            exact h
          · cases h
        · cases h
    · cases h
  | [], [], [], [], W, _, h => by simp only [cWf, Option.some.injEq] at h; subst h; rfl
  | _ :: _, [], [], [], W, _, h => by simp only [cWf, Option.some.injEq] at h; subst h; rfl
  | [], [], [], _ :: _, W, _, h => by simp [cWf] at h
  | _ :: _, [], [], _ :: _, W, _, h => by simp [cWf] at h
  | [], [], _ :: _, _, W, _, h => by simp [cWf] at h
  | _ :: _, [], _ :: _, _, W, _, h => by simp [cWf] at h
  | [], _ :: _, _, _, W, _, h => by simp [cWf] at h
  | _ :: _, _ :: _, [], [], W, _, h => by simp [cWf] at h
  | _ :: _, _ :: _, none :: _, _, W, _, h => by simp [cWf] at h
  | _ :: _, _ :: _, some _ :: _, [], W, _, h => by simp [cWf] at h

def plainW : SV → Bool
  | .agg l => plainL l
  | x => plainV x
def plainT : List SV → Bool
  | [] => true
  | x :: xs => plainW x && plainT xs
def plainR : SV → Bool
  | .tup l => plainT l
  | x => plainW x

theorem renV_plainW (sel : List Nat) {x : SV} (h : plainW x = true) : renV sel x = some x := by
  cases x <;> first | exact renV_plain sel h | (simp only [plainW] at h; simp only [renV, renL_plain sel h])
theorem renL_plainT (sel : List Nat) : ∀ {l : List SV}, plainT l = true → renL sel l = some l
  | [], _ => rfl
  | x :: l, h => by
    simp only [plainT, Bool.and_eq_true] at h
    simp only [renL, renV_plainW sel h.1, renL_plainT sel (l := l) h.2]
theorem renV_plainR (sel : List Nat) {x : SV} (h : plainR x = true) : renV sel x = some x := by
  cases x <;> first | exact renV_plainW sel h | (simp only [plainR] at h; simp only [renV, renL_plainT sel h])

def renVf (f : Bool) (sel : List Nat) (x : SV) : Option SV := match f with | true => some x | false => renV sel x
def plainRf (f : Bool) (x : SV) : Bool := match f with | true => plainR x | false => true

def sopCallF (fl : List Bool) (rf : Bool) (R : RL) (H : HL) (L : Nat) (x : Operand) (args : List Operand) (f : Nat) (sel : List Nat) (args0 : List SV) (H0 : HL) (ret : SV) (H1 : HL) (k : K1) : Prop :=
  (match ev R x with
    | some (.fn g caps) => match evs R args with
      | some zs => g = f ∧ renL sel args0 = some (zs ++ caps)
      | none => False
    | _ => False) ∧ okH sel H sel H0 ∧ plainHf fl H1 = true ∧ plainRf rf ret = true ∧
  match Nat.beq sel.length H0.length with
  | true => match dupOk sel 0 sel H0 with
    | true => match cWf (sel ++ newSel L (H1.length - H0.length)) fl (sel ++ newSel L (H1.length - H0.length)) H0 H1 with
      | some W => match renVf rf (sel ++ newSel L (H1.length - H0.length)) ret with
        | some z => k (some z) W sel (L + (H1.length - H0.length))
        | none => False
      | none => False
    | false => False
  | false => False

theorem ok1_callF {P : Program} {o : Oper} {R : RL} {H : HL} {L : Nat} {k : K1} {x : Operand} {args : Array Operand} {tys : Array TypeId} {f : Nat} {args0 : List SV} {H0 H1 : HL} {ret : SV} (sel : List Nat) (fl : List Bool) (rf : Bool)
    (hc : SCall P f args0 H0 ret H1) (ho : o.op = .call ⟨.value x, args, tys⟩) (hle : Nat.ble H.length L = true) (h : sopCallF fl rf R H L x args.toList f sel args0 H0 ret H1 k) : Ok1 P o R H L k := by
  obtain ⟨h1, h2, hp, hr, h3⟩ := h
  refine ok1_call sel hc ho hle ⟨h1, h2, ?_⟩
  cases hl : Nat.beq sel.length H0.length with
  | false => rw [hl] at h3; exact h3.elim
  | true =>
    rw [hl] at h3
    simp only at h3 ⊢
    cases hd : dupOk sel 0 sel H0 with
    | false => rw [hd] at h3; exact h3.elim
    | true =>
      rw [hd] at h3
      simp only at h3 ⊢
      cases hw : cWf (sel ++ newSel L (H1.length - H0.length)) fl (sel ++ newSel L (H1.length - H0.length)) H0 H1 with
      | none => rw [hw] at h3; exact h3.elim
      | some W =>
        rw [hw] at h3
        rw [cWf_eq _ _ _ _ _ _ hp hw]
        cases rf with
        | false => exact h3
        | true =>
          simp only [plainRf] at hr
          simp only [renV_plainR _ hr]
          exact h3
end Go.Sh
/- Loops over iterators: a round, as a call; the statement. -/
namespace Go.Sh
set_option linter.unusedSimpArgs false

def noObj : HL → Bool
  | [] => true
  | none :: H => noObj H
  | some (.obj _) :: _ => false
  | some _ :: H => noObj H

theorem noObj_get : ∀ {H : HL} {id : Nat} {y : OB}, noObj H = true → hg H id ≠ some (.obj y)
  | [], id, y, _, h => by simp [hg] at h
  | none :: H, 0, y, _, h => by simp [hg] at h
  | none :: H, id + 1, y, hn, h => noObj_get (H := H) (id := id) hn (by simpa [hg] using h)
  | some (.obj _) :: H, id, y, hn, h => by simp [noObj] at hn
  | some (.row _ _) :: H, 0, y, hn, h => by simp [hg] at h
  | some (.box _) :: H, 0, y, hn, h => by simp [hg] at h
  | some (.ro _) :: H, 0, y, hn, h => by simp [hg] at h
  | some (.row _ _) :: H, id + 1, y, hn, h => noObj_get (H := H) (id := id) hn (by simpa [hg] using h)
  | some (.box _) :: H, id + 1, y, hn, h => noObj_get (H := H) (id := id) hn (by simpa [hg] using h)
  | some (.ro _) :: H, id + 1, y, hn, h => noObj_get (H := H) (id := id) hn (by simpa [hg] using h)

/-- A block of cells lies in cells. -/
theorem foot_cells {ρ : Ren} {w : World} {rb : RB} {b : SB} {k o : Nat} (hb : BRel ρ w rb b) (hn : ∀ y, b ≠ .obj y) (hf : foot rb b k o) : ∃ c t fz, w.heap[k]? = some (.cells c t fz) := by
  cases b with
  | obj y => exact absurd rfl (hn y)
  | ro l =>
    rcases hb with rfl | ⟨⟨c, t, fz, hh, _⟩, _⟩
    · have := hf.2; simp at this; omega
    · rw [hf.1]; exact ⟨c, t, fz, hh⟩
  | box l => obtain ⟨⟨c, t, fz, hh, _⟩, _⟩ := hb; rw [hf.1]; exact ⟨c, t, fz, hh⟩
  | row t l =>
    rcases hb with ⟨hv, _⟩ | ⟨_, c, fz, hh, _⟩
    · rw [hf.1] at hv; cases hv
    · rw [hf.2.1]; exact ⟨c, _, fz, hh⟩

/-- Registers, some of them set. -/
def zipR : List Nat → List SV → RL → RL
  | p :: ps, x :: xs, R => zipR ps xs ((p, x) :: R)
  | _, _, R => R

theorem relR_set {ρ : Ren} {R : RL} {tmps : Array Value} {p : Nat} {x : SV} {v : Value} (h : RelR ρ R tmps) (hx : Rel ρ x v) (hp : p < tmps.size) : RelR ρ ((p, x) :: R) (tmps.setIfInBounds p v) := by
  intro t u hu
  simp only [List.lookup_cons] at hu
  cases htp : (t == p) with
  | true =>
    rw [htp] at hu
    have : t = p := by simpa using htp
    subst this
    cases hu
    rw [Array.getD_eq_getD_getElem?, Array.getElem?_setIfInBounds_self_of_lt hp]
    exact hx
  | false =>
    rw [htp] at hu
    have hne : p ≠ t := fun e => by subst e; simp at htp
    have := h t u hu
    rw [Array.getD_eq_getD_getElem?] at this ⊢
    rw [Array.getElem?_setIfInBounds_ne hne]; exact this

theorem relR_zip {ρ : Ren} : ∀ {ps : List Nat} {xs : List SV} {vs : List Value} {R : RL} {tmps : Array Value}, RelR ρ R tmps → Rels ρ xs vs → (∀ p ∈ ps, p < tmps.size) → ps.length = xs.length →
    RelR ρ (zipR ps xs R) ((ps.zip vs).foldl (fun t (q : Nat × Value) => t.setIfInBounds q.1 q.2) tmps) ∧ ((ps.zip vs).foldl (fun t (q : Nat × Value) => t.setIfInBounds q.1 q.2) tmps).size = tmps.size
  | [], xs, vs, R, tmps, h, _, _, hl => by
    have : xs = [] := List.eq_nil_of_length_eq_zero (by simpa using hl.symm)
    subst this
    exact ⟨h, rfl⟩
  | p :: ps, [], vs, R, tmps, h, _, _, hl => by simp at hl
  | p :: ps, x :: xs, vs, R, tmps, h, hv, hp, hl => by
    simp only [Rels] at hv
    obtain ⟨v, vs', rfl, h1, h2⟩ := hv
    have := relR_zip (ps := ps) (relR_set h h1 (hp p (List.mem_cons_self ..))) h2 (fun q hq => by simpa using hp q (List.mem_cons_of_mem _ hq)) (by simpa using hl)
    exact ⟨this.1, by rw [show ((p :: ps).zip (v :: vs')).foldl (fun t (q : Nat × Value) => t.setIfInBounds q.1 q.2) tmps = (ps.zip vs').foldl (fun t (q : Nat × Value) => t.setIfInBounds q.1 q.2) (tmps.setIfInBounds p v) from rfl, this.2]; simp⟩

/-- What a call of a round's yield promises: block 0 is the loop's. -/
structure SYield (P : Program) (args0 : List SV) (H0 : HL) (ret : SV) (H1 : HL) : Prop where
  call : ∀ (r : Option Nat) n ρ w vs rb, Rels ρ args0 vs → HRel ρ (hg H0) w → Sep ρ (hg H0) → (∀ id, H0.length ≤ id → ρ id = none) → ρ 0 = some rb →
    ∃ f tmps as_ bd, (Instr.yield rb.blk ⟨vs⟩).run P w = .ok (.round rb.blk f tmps as_ bd) w ∧ RoundIn (Fw r) n P rb.blk f tmps as_ bd w (CallR ρ H0 w ret H1)

theorem lt_yield {P : Program} {o : Oper} {R : Env} {H : HL} {L : Nat} {x : Operand} {args : Array Operand} {tys : Array TypeId} {id : Nat} {zs args0 : List SV} {ss : List Nat} {H0 H1 : HL} {ret z : SV} {W : Upd} (hl : H.length ≤ L)
    (ho : o.op = .call ⟨.value x, args, tys⟩) (hx : evO R x = some (.yld id)) (hargs : args.toList.map (evO R) = zs.map some) (hc : SYield P args0 H0 ret H1) (hren : renL (id :: ss) args0 = some zs)
    (hlen : (id :: ss).length = H0.length) (hok : okH (id :: ss) H (id :: ss) H0) (hd : dupOk (id :: ss) 0 (id :: ss) H0 = true) (hW : cW (id :: ss ++ newSel L (H1.length - H0.length)) (id :: ss ++ newSel L (H1.length - H0.length)) H0 H1 = some W)
    (hz : renV (id :: ss ++ newSel L (H1.length - H0.length)) ret = some z) : LT P o R (hg H) (id :: ss) W (some z) := by
  refine lt_of_callR hl hlen hok hd hW hz ?_
  intro r n a w ρ next Q hR hH0 hsep0 hfr0 hk
  have hv := eval_callee ho hx hR
  simp only [Rel] at hv
  obtain ⟨rb, hrb, he⟩ := hv
  have hzs := eval_args ho hargs hR
  have hrels : Rels (pullR (id :: ss) ρ) args0 (args.toList.map a.eval) := (rels_ren args0 hren).2 hzs
  obtain ⟨f, tmps, as_, bd, hy, hround⟩ := hc.call r (n - 1) (pullR (id :: ss) ρ) w _ rb hrels hH0 hsep0 hfr0 (by simpa [pullR] using hrb)
  have hrun : (execOp a.eval o).run P w = .ok (.round rb.blk f tmps as_ bd) w := by
    unfold execOp
    simp only [ho, resolve, he, Deferred.ofValue, Sem.run_bind, Sem.run_pure, Result.andThen, invoke]
    rw [show (#[] ++ args.map a.eval) = (⟨args.toList.map a.eval⟩ : Array Value) from Array.toList_inj.1 (by simp)]
    exact hy
  refine ⟨fun _ _ => trivial, ?_⟩
  rw [Oper.semAt_eq _ _ _ (by intro c; rw [ho]; simp), hrun]
  refine ⟨fun h => (by cases h), ?_⟩
  refine hround.mono ?_
  intro e w' hr'
  cases e with
  | panicked c => exact hr'.elim
  | outgrown => exact hr'.elim
  | returned v => exact hk v w' hr'

/-! ### A round, out of its code's walk -/

/-- What lies there at a round's end, told smaller. -/
structure finH (A : Nat) (H : HL) (H1 : HL) : Prop where
  ex : ∃ sel, Nat.beq sel.length H1.length = true ∧ idOk sel A = true ∧ okH sel H sel H1 ∧ dupOk sel 0 sel H1 = true

def jumpOf : Exit → Option Code
  | .ret => some .ret
  | .exit i => some (.exit i)
  | _ => none

/-- What is there behind a round: the loop as it was, or left by a jump. -/
def obEnd (R : RL) (N : Nat) (ps : List Nat) (as_ bd : Code) (ex : Exit) : OB := match jumpOf ex with | some c => .pend c | none => .loop R N ps as_ bd

def retEnd (ex : Exit) : SV := .b (jumpOf ex).isNone

/-- A loop's record is put anew. -/
theorem Fr.putLoop {S : Nat → Nat → Prop} {w : World} {l : Nat} {r r' : Loop} (h : w.heap[l]? = some (.loop r)) (hS : ∃ o, S l o) : Fr S w (w.putObj l (.loop r')) := by
  refine ⟨rfl, rfl, rfl, by simp [World.putObj], fun k o ho => ?_⟩
  by_cases hk : l = k
  · subst hk
    rw [h] at ho; cases ho
    have hlt := (Array.getElem?_eq_some_iff.1 h).1
    simp only [World.putObj]
    rw [Array.getElem?_setIfInBounds_self_of_lt hlt]
    exact .inr ⟨hS, by simp [mutK], _, rfl, rfl⟩
  · simp only [World.putObj]
    rw [Array.getElem?_setIfInBounds_ne hk, ho]
    exact FrO.refl _ _

theorem putLoop_cells {w : World} {l k : Nat} {r r' : Loop} (h : w.heap[l]? = some (.loop r)) {c : Array Value} {t : TypeId} {fz : Nat × Nat} (hc : w.heap[k]? = some (.cells c t fz)) : (w.putObj l (.loop r')).heap[k]? = some (.cells c t fz) := by
  have hne : l ≠ k := fun e => by subst e; rw [h] at hc; cases hc
  simp only [World.putObj]; rw [Array.getElem?_setIfInBounds_ne hne]; exact hc
theorem putLoop_dfr {w : World} {l k : Nat} {r r' : Loop} (h : w.heap[l]? = some (.loop r)) {x : Option (List Deferred)} (hc : w.heap[k]? = some (.deferred x)) : (w.putObj l (.loop r')).heap[k]? = some (.deferred x) := by
  have hne : l ≠ k := fun e => by subst e; rw [h] at hc; cases hc
  simp only [World.putObj]; rw [Array.getElem?_setIfInBounds_ne hne]; exact hc
theorem putLoop_self {w : World} {l : Nat} {r r' : Loop} (h : w.heap[l]? = some (.loop r)) : (w.putObj l (.loop r')).heap[l]? = some (.loop r') := by
  simp only [World.putObj]; rw [Array.getElem?_setIfInBounds_self_of_lt (Array.getElem?_eq_some_iff.1 h).1]

theorem BRel.putLoop {ρ : Ren} {w : World} {l : Nat} {r r' : Loop} {rb : RB} {b : SB} (h : w.heap[l]? = some (.loop r)) (hn : ∀ y, b ≠ .obj y) (hb : BRel ρ w rb b) : BRel ρ (w.putObj l (.loop r')) rb b := by
  cases b with
  | obj y => exact absurd rfl (hn y)
  | ro l => exact hb.imp id fun ⟨⟨c, t, fz, hh, q⟩, h2⟩ => ⟨⟨c, t, fz, putLoop_cells h hh, q⟩, h2⟩
  | box l => obtain ⟨⟨c, t, fz, hh, q⟩, h2⟩ := hb; exact ⟨⟨c, t, fz, putLoop_cells h hh, q⟩, h2⟩
  | row t l => exact hb.imp id fun ⟨hv, c, fz, hh, q⟩ => ⟨hv, c, fz, putLoop_cells h hh, q⟩

theorem Sim.putLoop {N B L : Nat} {ρ : Ren} {R : Env} {H : HL} {a : Act} {w : World} {l : Nat} {r r' : Loop} (h : w.heap[l]? = some (.loop r)) (hn : noObj H = true) (hs : Sim N B L ρ R (hg H) a w) : Sim N B L ρ R (hg H) a (w.putObj l (.loop r')) :=
  ⟨hs.size, hs.regs, fun id b hb => let ⟨rb, h1, h2⟩ := hs.heap id b hb; ⟨rb, h1, h2.putLoop h (fun y e => noObj_get hn (by rw [← e]; exact hb))⟩, hs.sep, hs.fresh,
    ⟨hs.dfr.1, fun d hd => let ⟨k, e, hB, hk⟩ := hs.dfr.2.1 d hd; ⟨k, e, hB, putLoop_dfr h hk⟩, by simpa [World.putObj] using hs.dfr.2.2⟩⟩

theorem hg_cons_succ (x : Option SB) (H : HL) (id : Nat) : hg (x :: H) (id + 1) = hg H id := by simp [hg]
theorem hg_cons_zero (x : Option SB) (H : HL) : hg (x :: H) 0 = x := by cases x <;> simp [hg]

theorem syield_of {P : Program} {R0 : RL} {N : Nat} {ps : List Nat} {as_ bd : Code} {args0 : List SV} {H0t H1t : HL} {ex : Exit} (hex : ex = .normal ∨ ex = .ret ∨ ∃ i, ex = .exit i)
    (hno1 : noObj H1t = true) (hps : ps.length = args0.length) (hpN : ps.all (fun p => Nat.blt p N) = true)
    (hwalk : SWp P (fun _ => True) N (H0t.length + 1) as_ (fun e R H L => e = .normal ∧ noObj H = true ∧ hg H 0 = none ∧ SWp P (fun _ => True) N (H0t.length + 1) bd (fun e _ H _ => e = ex ∧ hg H 0 = none ∧ noObj H = true ∧ finH (H0t.length + 1) H (none :: H1t)) R H L)
      (zipR ps args0 R0) (none :: H0t) (H0t.length + 1)) :
    SYield P args0 (some (.obj (.loop R0 N ps as_ bd)) :: H0t) (retEnd ex) (some (.obj (obEnd R0 N ps as_ bd ex)) :: H1t) := by
  refine ⟨fun rr n ρ w vs rb hvs hh hsep hfr hrb => ?_⟩
  obtain ⟨rb', hrb', hO⟩ := hh 0 _ (hg_cons_zero _ _)
  rw [hrb] at hrb'; cases hrb'
  obtain ⟨r, hl, hst, hpd, hrp, hra, hrbd, hsz, hrel⟩ := hO
  obtain ⟨l, hlb⟩ : ∃ l, l = rb.blk := ⟨_, rfl⟩
  rw [← hlb] at hl ⊢
  have hvl := hvs.length
  have hargsz : (⟨vs⟩ : Array Value).size = r.params.size := by rw [hrp]; simp; omega
  have hy := run_yield (P := P) hl hargsz
  refine ⟨_, _, _, _, hy, ?_⟩
  rw [hra, hrbd]
  -- the heap without the loop
  have hh1 : HRel ρ (hg (none :: H0t)) w := fun id b hb => by
    cases id with
    | zero => rw [hg_cons_zero] at hb; cases hb
    | succ id => rw [hg_cons_succ] at hb; exact hh (id + 1) b (by rw [hg_cons_succ]; exact hb)
  have sub : ∀ id b, hg (none :: H0t) id = some b → hg (some (.obj (.loop R0 N ps as_ bd)) :: H0t) id = some b ∧ id ≠ 0 := fun id b hb => by
    cases id with
    | zero => rw [hg_cons_zero] at hb; cases hb
    | succ id => rw [hg_cons_succ] at hb; exact ⟨by rw [hg_cons_succ]; exact hb, by omega⟩
  have hsep1 : Sep ρ (hg (none :: H0t)) := fun i j bi bj ri rj hne hi hj hri hrj hown => hsep i j bi bj ri rj hne (sub i bi hi).1 (sub j bj hj).1 hri hrj hown
  have hl0 : ∀ o, ¬ Owned ρ (hg (none :: H0t)) l o := by
    rintro o ⟨id, b, rb2, h1, h2, h3, h4⟩
    obtain ⟨g1, g2⟩ := sub id b h1
    exact hsep 0 id _ b rb rb2 (by omega) (hg_cons_zero _ _) g1 hrb h2 rfl l o ⟨hlb, h4⟩
  have hown0 : ∀ k o, Owned ρ (hg (none :: H0t)) k o → Owned ρ (hg (some (.obj (.loop R0 N ps as_ bd)) :: H0t)) k o := by
    rintro k o ⟨id, b, rb2, h1, h2, h3, h4⟩
    exact ⟨id, b, rb2, (sub id b h1).1, h2, h3, h4⟩
  have hownl : Owned ρ (hg (some (.obj (.loop R0 N ps as_ bd)) :: H0t)) l 0 := ⟨0, _, rb, hg_cons_zero _ _, hrb, rfl, hlb⟩
  have hlt : l < w.heap.size := (Array.getElem?_eq_some_iff.1 hl).1
  obtain ⟨hz1, hz2⟩ := relR_zip (ps := ps) (vs := vs) hrel hvs (fun p hp => by
    have := List.all_eq_true.1 hpN p hp
    rw [hsz]; simpa [Nat.blt_eq] using this) hps
  have htm : (r.params.zip ⟨vs⟩).foldl (fun tmps (q : Nat × Value) => tmps.setIfInBounds q.1 q.2) r.tmps = ((ps.zip vs).foldl (fun t (q : Nat × Value) => t.setIfInBounds q.1 q.2) r.tmps) := by
    rw [hrp, ← Array.foldl_toList]; simp
  have hsim : Sim N w.heap.size (H0t.length + 1) ρ (rg (zipR ps args0 R0)) (hg (none :: H0t)) { tmps := ((ps.zip vs).foldl (fun t (q : Nat × Value) => t.setIfInBounds q.1 q.2) r.tmps), defers := [] } w :=
    ⟨by rw [hz2, hsz], fun t v hv => hz1 t v hv, hh1, hsep1, fun id hid => hfr id (by simpa using hid), ⟨List.Pairwise.nil, fun d hd => by simp at hd, Nat.le_refl _⟩⟩
  refine roundIn_of_wpIn trivial ?_
  have e0 : (r.params.zip ⟨vs⟩).foldl (fun tmps x => match x with | (t, a) => tmps.setIfInBounds t a) r.tmps = ((ps.zip vs).foldl (fun t (q : Nat × Value) => t.setIfInBounds q.1 q.2) r.tmps) := htm
  rw [e0]
  refine wpIn_mono (hwalk.run (some l) n w.heap.size ρ _ w trivial hsim (by simp)) ?_
  rintro e a1 w1 ⟨R1, H1, L1, ρ1, ⟨rfl, hno2, hz0, hbody⟩, hl1, hs1, he1⟩
  have hl1' : w1.heap[l]? = some (.loop r) := (he1.fr.blk l _ hl).same (fun o => hl0 o)
  refine ⟨_, run_beginRound hl1' hst, ?_⟩
  obtain ⟨w2, hw2⟩ : ∃ w2, w2 = w1.putObj l (.loop { r with state := .busy }) := ⟨_, rfl⟩
  rw [← hw2]
  have hs2 : Sim N w.heap.size L1 ρ1 (rg R1) (hg H1) a1 w2 := by rw [hw2]; exact hs1.putLoop hl1' hno2
  have hl2 : w2.heap[l]? = some (.loop { r with state := .busy }) := by rw [hw2]; exact putLoop_self hl1'
  refine wpIn_mono (hbody.run (some l) n w.heap.size ρ1 a1 w2 trivial hs2 hl1) ?_
  rintro e a3 w3 ⟨R3, H3, L3, ρ3, ⟨rfl, hz3, hno3, hfin⟩, hl3, hs3, he3⟩
  have hl1n : ∀ o, ¬ Owned ρ1 (hg H1) l o := fun o ho => by
    rcases he1.own l o ho with h | h
    · exact hl0 o h
    · omega
  have hl3' : w3.heap[l]? = some (.loop { r with state := .busy }) := (he3.fr.blk l _ hl2).same hl1n
  obtain ⟨sel, f1, f2, f3, f4⟩ := hfin.ex
  have f1' : sel.length = H1t.length + 1 := by simpa using beqE f1
  have hsel := sel_sim (R0 := []) (L0 := H1t.length + 1) sel f1' f2 trivial f3 f4 hs3
  obtain ⟨k1, k2⟩ := hsel
  -- what the end of the round hands back
  have fin : ∀ jump : Option Code, jump = jumpOf e → ∃ w4, (Instr.endRound l jump).run P w3 = .ok (.bool jump.isNone) w4 ∧ CallR ρ (some (.obj (.loop R0 N ps as_ bd)) :: H0t) w (retEnd e) (some (.obj (obEnd R0 N ps as_ bd e)) :: H1t) (.returned (.bool jump.isNone)) w4 := by
    intro jump hj
    refine ⟨_, run_endRound jump hl3', ?_⟩
    obtain ⟨r4, hr4⟩ : ∃ r4 : Loop, r4 = { r with state := if jump.isNone then .ready else .done, pending := jump } := ⟨_, rfl⟩
    have er4 : ({ ({ r with state := .busy } : Loop) with state := if jump.isNone then .ready else .done, pending := jump } : Loop) = r4 := by rw [hr4]
    rw [er4]
    obtain ⟨w4, hw4⟩ : ∃ w4, w4 = w3.putObj l (.loop r4) := ⟨_, rfl⟩
    rw [← hw4]
    have hl4 : w4.heap[l]? = some (.loop r4) := by rw [hw4]; exact putLoop_self hl3'
    have hext : ∀ id rb2, ρ id = some rb2 → pullR sel ρ3 id = some rb2 := fun id rb2 hid => by
      have hlt2 : id < H0t.length + 1 := by
        by_cases h : id < H0t.length + 1
        · exact h
        · rw [hfr id (by simp; omega)] at hid; cases hid
      exact k2.ext id hlt2 rb2 (he3.ext id hlt2 rb2 (he1.ext id hlt2 rb2 hid))
    have hk0 : noObj (none :: H1t) = true := hno1
    have hheap4 : HRel (pullR sel ρ3) (hg (none :: H1t)) w4 := by
      rw [hw4]
      intro id b hb
      obtain ⟨rb2, g1, g2⟩ := k1.heap id b hb
      exact ⟨rb2, g1, g2.putLoop hl3' (fun y ey => noObj_get hk0 (by rw [← ey]; exact hb))⟩
    have sub1 : ∀ id b, id ≠ 0 → hg (some (.obj (obEnd R0 N ps as_ bd e)) :: H1t) id = some b → hg (none :: H1t) id = some b := fun id b hne hb => by
      cases id with
      | zero => exact absurd rfl hne
      | succ id => rw [hg_cons_succ] at hb ⊢; exact hb
    have hfoot : ∀ id b rb2 o, id ≠ 0 → hg (some (.obj (obEnd R0 N ps as_ bd e)) :: H1t) id = some b → pullR sel ρ3 id = some rb2 → ¬ foot rb2 b l o := by
      intro id b rb2 o hne hb hr hf
      have hb2 := sub1 id b hne hb
      obtain ⟨rb3, g1, g2⟩ := hheap4 id b hb2
      rw [hr] at g1; cases g1
      obtain ⟨c, t, fz, hc⟩ := foot_cells g2 (fun y ey => noObj_get hk0 (by rw [← ey]; exact hb2)) hf
      rw [hl4] at hc; cases hc
    have hfr : Fr (Owned ρ (hg (some (.obj (.loop R0 N ps as_ bd)) :: H0t))) w w4 := by
      have a1 : Fr (Owned ρ (hg (some (.obj (.loop R0 N ps as_ bd)) :: H0t))) w w1 := he1.fr.mono (fun k o _ h => hown0 k o h)
      have a2 : Fr (Owned ρ (hg (some (.obj (.loop R0 N ps as_ bd)) :: H0t))) w w2 := by
        rw [hw2]; exact a1.trans (Fr.putLoop hl1' ⟨0, hownl⟩) (fun _ _ _ h => h)
      have a3 : Fr (Owned ρ (hg (some (.obj (.loop R0 N ps as_ bd)) :: H0t))) w w3 := a2.trans he3.fr (fun k o hk h => by
        rcases he1.own k o h with h | h
        · exact hown0 k o h
        · omega)
      rw [hw4]; exact a3.trans (Fr.putLoop hl3' ⟨0, hownl⟩) (fun _ _ _ h => h)
    have hb0 : ORel (pullR sel ρ3) w4 l (obEnd R0 N ps as_ bd e) := by
      unfold obEnd
      rw [← hj]
      cases jump with
      | none =>
        have : r4 = r := by rw [hr4]; cases r; simp only at hst hpd; subst hst; subst hpd; rfl
        rw [this] at hl4
        exact ⟨r, hl4, hst, hpd, hrp, hra, hrbd, hsz, fun t v hv => (hrel t v hv).ext (fun id rb2 h => hext id rb2 h)⟩
      | some c => exact ⟨r4, hl4, by rw [hr4]; rfl, by rw [hr4]⟩
    refine ⟨pullR sel ρ3, ?_, ?_, ?_, ?_, ?_⟩
    · simp only [retEnd, Rel, hj]
    · intro id b hb
      by_cases h0 : id = 0
      · subst h0
        rw [hg_cons_zero] at hb; cases hb
        exact ⟨rb, hext 0 rb hrb, by rw [hlb] at hb0; exact hb0⟩
      · exact hheap4 id b (sub1 id b h0 hb)
    · intro i j bi bj ri rj hne hi hj' hri hrj hown k o ⟨hfi, hfj⟩
      by_cases h0 : i = 0
      · subst h0
        rw [hg_cons_zero] at hi; cases hi
        rw [hext 0 rb hrb] at hri; cases hri
        have hkl : k = l := by rw [hlb]; exact hfi
        subst hkl
        exact hfoot j bj rj o (fun e => hne e.symm) hj' hrj hfj
      · by_cases h1 : j = 0
        · subst h1
          rw [hg_cons_zero] at hj'; cases hj'
          rw [hext 0 rb hrb] at hrj; cases hrj
          have hkl : k = l := by rw [hlb]; exact hfj
          subst hkl
          exact hfoot i bi ri o h0 hi hri hfi
        · exact k1.sep i j bi bj ri rj hne (sub1 i bi h0 hi) (sub1 j bj h1 hj') hri hrj hown k o ⟨hfi, hfj⟩
    · intro id hid; exact k1.fresh id (by simpa using hid)
    · refine ⟨fun id _ rb2 h => hext id rb2 h, hfr, ?_⟩
      rintro k o ⟨id, b, rb2, h1, h2, h3, h4⟩
      by_cases h0 : id = 0
      · subst h0
        rw [hg_cons_zero] at h1; cases h1
        rw [hext 0 rb hrb] at h2; cases h2
        have hkl : k = l := by rw [hlb]; exact h4
        subst hkl
        exact .inl ⟨0, _, rb, hg_cons_zero _ _, hrb, rfl, hlb⟩
      · rcases k2.own k o ⟨id, b, rb2, sub1 id b h0 h1, h2, h3, h4⟩ with h | h
        · rcases he3.own k o h with h | h
          · rcases he1.own k o h with h | h
            · exact .inl (hown0 k o h)
            · exact .inr h
          · right
            have : w2.heap.size = w1.heap.size := by rw [hw2]; simp [World.putObj]
            have := he1.fr.size
            omega
        · right
          have h1 := he1.fr.size
          have h2 : w2.heap.size = w1.heap.size := by rw [hw2]; simp [World.putObj]
          have h3 := he3.fr.size
          omega
  rcases hex with rfl | rfl | ⟨i, rfl⟩
  · obtain ⟨w4, g1, g2⟩ := fin none rfl
    exact ⟨_, w4, g1, g2⟩
  · obtain ⟨w4, g1, g2⟩ := fin (some .ret) rfl
    exact ⟨_, w4, g1, g2⟩
  · obtain ⟨w4, g1, g2⟩ := fin (some (.exit i)) rfl
    exact ⟨_, w4, g1, g2⟩

/-! ### The statement -/

theorem hg_hput (H : HL) (id : Nat) (ob : Option SB) (i : Nat) : hg (hput H id ob) i = if i = id then ob else hg H i := by
  have h := congrFun (hg_hupd H [(id, ob)]) i
  have e : hput H id ob = hupd H [(id, ob)] := by rw [hput_eq]; rfl
  rw [e, h]
  by_cases hi : i = id
  · subst hi; simp [updW]
  · have : (i == id) = false := by simpa using hi
    simp [updW, List.lookup_cons, this, hi]

theorem hput_le {H : HL} {id L : Nat} {ob : Option SB} (h : H.length ≤ L) (hi : id < L) : (hput H id ob).length ≤ L := by
  have e : hput H id ob = hupd H [(id, ob)] := by rw [hput_eq]; rfl
  rw [e]
  exact hupd_le h (fun i o hm => by simp only [List.mem_singleton, Prod.mk.injEq] at hm; rw [hm.1]; exact hi)

/-- What becomes of the statement, by how the iterator was left. -/
def rangeK (L0 : Nat) (R : RL) (Q : Exit → RL → HL → Nat → Prop) (H : HL) (L : Nat) : Prop :=
  match hk H L0 with
  | some (.obj (.loop _ _ _ _ _)) => Q .normal R (hput H L0 none) L
  | some (.obj (.pend .ret)) => Q .ret R (hput H L0 none) L
  | some (.obj (.pend (.exit i))) => Q (.exit i) R (hput H L0 none) L
  | _ => False

def rangeQ (L0 : Nat) (R : RL) (Q : Exit → RL → HL → Nat → Prop) : Exit → RL → HL → Nat → Prop
  | .normal, _, H, L => rangeK L0 R Q H L
  | .ret, _, H, L => rangeK L0 R Q H L
  | _, _, _, _ => False

theorem leaves_void {P : Program} {fn : Func} (hr : fn.results = #[]) (tmps : Array Value) (w : World) : ∃ v, (results fn tmps).run P w = .ok v w := by
  refine ⟨.tuple #[], ?_⟩
  unfold results
  rw [hr]
  simp

theorem range_rule {P : Program} {N A : Nat} {g : Operand} {ps : List Nat} {as_ bd : Code} {Q : Exit → RL → HL → Nat → Prop} {R : RL} {H : HL} {L : Nat} {gf : Nat} {caps : List SV} {fn : Func} {c : Code}
    (hg0 : ev R g = some (.fn gf caps)) (hle : Nat.ble H.length L = true) (hA : Nat.ble A L = true) (hf : P.funcs[gf]? = some fn) (hb : fn.body = some c) (hnm : (fn.name == "runtime.NumGoroutine") = false) (hres : fn.results = #[]) (hnt : Nat.ble (caps.length + 1) fn.ntmps = true)
    (hwalk : SWp P (· = none) fn.ntmps (L + 1) c (rangeQ L R Q) (regs 0 (.yld L :: caps)) (hput H L (some (.obj (.loop R N ps as_ bd)))) (L + 1)) :
    SWp P (· = none) N A (.rangeFunc g ⟨ps⟩ as_ bd) Q R H L := by
  refine ⟨fun r n B ρ a w hM hs hl => ?_⟩
  subst hM
  have hHL := Nat.le_of_ble_eq_true hle
  have hgv : Rel ρ (.fn gf caps) (a.eval g) := by
    cases g with
    | tmp t => exact hs.regs t _ (by rw [rg, ← lk_eq]; exact hg0)
    | const u => exact (ofVal_rel hg0).1
    | func f => simp only [ev, Option.some.injEq] at hg0; cases hg0; simp only [Rel]; exact ⟨[], rfl, Rels.nil_iff.2 rfl⟩
    | global g => cases hg0
  simp only [Rel] at hgv
  obtain ⟨cs, hge, hcaps⟩ := hgv
  refine wpIn_rangeFunc ?_
  intro fid _
  obtain ⟨r0, hr0⟩ : ∃ r0 : Loop, r0 = { state := .ready, pending := none, fn := fid, tmps := a.tmps, params := ⟨ps⟩, assign := as_, body := bd, defers := w.heap.size } := ⟨_, rfl⟩
  obtain ⟨w1, hw1⟩ : ∃ w1, w1 = (w.alloc (.deferred (some []))).alloc (.loop r0) := ⟨_, rfl⟩
  have hL1 : w1.heap[w.heap.size + 1]? = some (.loop r0) := by
    rw [hw1]; have := World.alloc_heap_new (w.alloc (.deferred (some []))) (.loop r0); rwa [World.size_alloc] at this
  have hD1 : w1.heap[w.heap.size]? = some (.deferred (some [])) := by
    rw [hw1]; exact (RowKit.Below.heap_alloc _ _ _ (by simp)).trans (World.alloc_heap_new w _)
  have hfr1 : ∀ S, Fr S w w1 := fun S => by
    rw [hw1]; exact (Fr.alloc S w _).trans (Fr.alloc S _ _) (fun _ _ _ h => h)
  have hsz1 : w1.heap.size = w.heap.size + 2 := by rw [hw1]; simp
  have hfok : FnOk P gf := ⟨fn, hf, by rw [hb]; rfl, hnm⟩
  refine ⟨w.heap.size + 1, [{ target := .collected w.heap.size, args := #[] }], w1, { target := .fn (.func gf) ⟨cs⟩, args := #[.func (.yield (w.heap.size + 1)) #[] #[]] }, w1, gf,
    #[.func (.yield (w.heap.size + 1)) #[] #[]] ++ ⟨cs⟩, w1, ?_, ?_, fun _ _ => trivial, ?_, fun h => (by cases h), ?_⟩
  · rw [hw1, hr0]; exact run_enterLoop_outer _ _ _ _ _
  · simp only [resolve, hge]
    simp [go_sem]
  · simp only [invoke, run_callFunc hfok]
  · -- the iterator
    obtain ⟨ρ1, hρ1⟩ : ∃ ρ1 : Ren, ρ1 = setR ρ L ⟨w.heap.size + 1, 0, 0, false⟩ := ⟨_, rfl⟩
    have hρL : ρ1 L = some ⟨w.heap.size + 1, 0, 0, false⟩ := by rw [hρ1]; simp [setR]
    have hρne : ∀ id, id ≠ L → ρ1 id = ρ id := fun id h => by rw [hρ1]; simp [setR, h]
    have hfresh := hs.fresh
    have hext : Ext ρ ρ1 := fun id rb h => by
      have : id ≠ L := fun e => by subst e; rw [hfresh id (Nat.le_refl _)] at h; cases h
      rw [hρne id this]; exact h
    have hgp : ∀ id, hg (hput H L (some (.obj (.loop R N ps as_ bd)))) id = if id = L then some (.obj (.loop R N ps as_ bd)) else hg H id := fun id => by
      rw [hg_hput]
    have hlowH : ∀ id b, hg H id = some b → id ≠ L := fun id b h e => by
      subst e
      have := hk_lt hHL (by rw [hk_eq]; exact h)
      omega
    have hheap1 : HRel ρ1 (hg (hput H L (some (.obj (.loop R N ps as_ bd))))) w1 := by
      intro id b hb2
      rw [hgp] at hb2
      by_cases h : id = L
      · rw [if_pos h] at hb2; cases hb2; subst h
        exact ⟨_, hρL, r0, hL1, by rw [hr0], by rw [hr0], by rw [hr0], by rw [hr0], by rw [hr0], by rw [hr0]; exact hs.size, fun t v hv => by
          have := hs.regs t v hv
          rw [hr0]; exact this.ext hext⟩
      · rw [if_neg h] at hb2
        obtain ⟨rb, g1, g2⟩ := hs.heap id b hb2
        exact ⟨rb, hext _ _ g1, (g2.frame (hfr1 (fun _ _ => False)) (fun _ _ _ h => h)).ext hext⟩
    have hsep1 : Sep ρ1 (hg (hput H L (some (.obj (.loop R N ps as_ bd))))) := by
      intro i j bi bj ri rj hne hi hj hri hrj hown k o ⟨hfi, hfj⟩
      rw [hgp] at hi hj
      have low : ∀ id b rb, id ≠ L → hg H id = some b → ρ1 id = some rb → foot rb b k o → k < w.heap.size := fun id b rb hid hb2 hr hf => by
        rw [hρne id hid] at hr
        obtain ⟨rb2, g1, g2⟩ := hs.heap id b hb2
        rw [hr] at g1; cases g1
        exact g2.foot_lt hf
      by_cases h1 : i = L
      · rw [if_pos h1] at hi; cases hi
        by_cases h2 : j = L
        · exact hne (h1.trans h2.symm)
        · rw [if_neg h2] at hj
          have := low j bj rj h2 hj hrj hfj
          subst h1; rw [hρL] at hri; cases hri
          have : k = w.heap.size + 1 := hfi
          omega
      · rw [if_neg h1] at hi
        by_cases h2 : j = L
        · rw [if_pos h2] at hj; cases hj
          have := low i bi ri h1 hi hri hfi
          subst h2; rw [hρL] at hrj; cases hrj
          have : k = w.heap.size + 1 := hfj
          omega
        · rw [if_neg h2] at hj
          rw [hρne i h1] at hri
          rw [hρne j h2] at hrj
          exact hs.sep i j bi bj ri rj hne hi hj hri hrj hown k o ⟨hfi, hfj⟩
    have hvs : Rels ρ1 (.yld L :: caps) (.func (.yield (w.heap.size + 1)) #[] #[] :: cs) :=
      Rels.cons (by simp only [Rel]; exact ⟨_, hρL, rfl⟩) (Rels.ext hext caps hcaps)
    have hargsz : (#[.func (.yield (w.heap.size + 1)) #[] #[]] ++ ⟨cs⟩ : Array Value) = ⟨.func (.yield (w.heap.size + 1)) #[] #[] :: cs⟩ := by simp
    rw [hargsz]
    have hcl := hcaps.length
    have hnt' := Nat.le_of_ble_eq_true hnt
    have hsim : Sim fn.ntmps w1.heap.size (L + 1) ρ1 (rg (regs 0 (.yld L :: caps))) (hg (hput H L (some (.obj (.loop R N ps as_ bd)))))
        { tmps := (⟨.func (.yield (w.heap.size + 1)) #[] #[] :: cs⟩ : Array Value) ++ Array.replicate (fn.ntmps - (⟨.func (.yield (w.heap.size + 1)) #[] #[] :: cs⟩ : Array Value).size) undef, defers := [] } w1 := by
      refine ⟨by simp; omega, ?_, hheap1, hsep1, fun id hid => ?_, ⟨List.Pairwise.nil, fun d hd => by simp at hd, Nat.le_refl _⟩⟩
      · intro t v hv
        obtain ⟨_, h2⟩ := regs_get hv
        obtain ⟨u, hu, hr⟩ := hvs.get h2
        simp only [Nat.sub_zero] at hu
        have htl : t < (Value.func (Fn.yield (w.heap.size + 1)) #[] #[] :: cs).length := (List.getElem?_eq_some_iff.1 hu).1
        rw [Array.getD_eq_getD_getElem?, Array.getElem?_append_left (by simpa using htl)]
        simp only [List.getElem?_toArray, hu]
        exact hr
      · rw [hρne id (by omega)]; exact hfresh id (by omega)
    refine callsIn_of_wp_marks hf hb trivial ?_ rfl
    have hlen1 : (hput H L (some (.obj (.loop R N ps as_ bd)))).length ≤ L + 1 := hput_le (by omega) (by omega)
    refine wpIn_mono (hwalk.run none (n - 1) w1.heap.size ρ1 _ w1 rfl hsim hlen1) ?_
    rintro e a' w2 ⟨R2, H2, L2, ρ2, hq, hl2, hs2, he2⟩
    have main : rangeK L R Q H2 L2 → LeavesInM (Fw none) (n - 1) P fn a'.tmps (rangePost (Fw none) n P (w.heap.size + 1) (fun e a' w' => ∃ R' H' L' ρ', Q e R' H' L' ∧ H'.length ≤ L' ∧ Sim N B L' ρ' (rg R') (hg H') a' w' ∧ EvA A ρ (hg H) w ρ' (hg H') w')
        { a with defers := [{ target := .collected w.heap.size, args := #[] }] ++ a.defers }) a'.defers .returning w2 := by
      intro hq
      refine leaves_marks a'.defers w2 hs2.dfr (fun w3 hm => ?_)
      obtain ⟨v, hv⟩ := leaves_void (P := P) hres a'.tmps w3
      refine ⟨v, hv, ?_⟩
      have hAL := Nat.le_of_ble_eq_true hA
      have hρ2L : ρ2 L = some ⟨w.heap.size + 1, 0, 0, false⟩ := he2.ext L (by omega) _ hρL
      -- the record, behind the iterator
      have hrec : ∃ y, hg H2 L = some (.obj y) := by
        unfold rangeK at hq
        rw [hk_eq] at hq
        cases hh : hg H2 L with
        | none => rw [hh] at hq; exact hq.elim
        | some b => cases b with
          | obj y => exact ⟨y, rfl⟩
          | _ => rw [hh] at hq; exact hq.elim
      obtain ⟨y, hy⟩ := hrec
      obtain ⟨rb, hrb, hO⟩ := hs2.heap L _ hy
      rw [hρ2L] at hrb; cases hrb
      have hloop : ∃ r3 : Loop, w3.heap[w.heap.size + 1]? = some (.loop r3) ∧ r3.state ≠ .busy ∧ r3.pending = (match y with | .loop _ _ _ _ _ => none | .pend c => some c) := by
        cases y with
        | loop R3 N3 ps3 a3 b3 => obtain ⟨r3, g1, g2, g3, _⟩ := hO; exact ⟨r3, hm.loops _ _ g1, by rw [g2]; simp, g3⟩
        | pend c3 => obtain ⟨r3, g1, g2, g3⟩ := hO; exact ⟨r3, hm.loops _ _ g1, by rw [g2]; simp, g3⟩
      obtain ⟨r3, hr3, hnb, hpd⟩ := hloop
      obtain ⟨w4, hw4⟩ : ∃ w4, w4 = w3.putObj (w.heap.size + 1) (.loop { r3 with state := .exhausted }) := ⟨_, rfl⟩
      have hend := run_endLoop (P := P) hr3 hnb
      rw [← hw4] at hend
      -- the heap without the record
      have hgp2 : ∀ id, hg (hput H2 L none) id = if id = L then none else hg H2 id := fun id => by rw [hg_hput]
      have sub : ∀ id b, hg (hput H2 L none) id = some b → id ≠ L ∧ hg H2 id = some b := fun id b h => by
        rw [hgp2] at h
        by_cases e : id = L
        · rw [if_pos e] at h; cases h
        · rw [if_neg e] at h; exact ⟨e, h⟩
      have hobj : ∀ id y2, hg (hput H2 L none) id = some (.obj y2) → ∃ rb, ρ2 id = some rb ∧ rb.blk ≠ w.heap.size + 1 := fun id y2 h => by
        obtain ⟨hne, h2⟩ := sub id _ h
        obtain ⟨rb, g1, g2⟩ := hs2.heap id _ h2
        refine ⟨rb, g1, fun e => ?_⟩
        exact hs2.sep L id _ _ _ rb (fun e => hne e.symm) hy h2 hρ2L g1 rfl (w.heap.size + 1) 0 ⟨rfl, e.symm⟩
      have hheap4 : HRel ρ2 (hg (hput H2 L none)) w4 := by
        intro id b hb2
        obtain ⟨hne, h2⟩ := sub id b hb2
        obtain ⟨rb, g1, g2⟩ := hs2.heap id b h2
        refine ⟨rb, g1, ?_⟩
        rw [hw4]
        have g3 := g2.marks hm
        cases b with
        | obj y2 =>
          obtain ⟨rb3, q1, q2⟩ := hobj id y2 hb2
          rw [g1] at q1; cases q1
          have keep : (w3.putObj (w.heap.size + 1) (.loop { r3 with state := .exhausted })).heap[rb.blk]? = w3.heap[rb.blk]? := World.putObj_heap_other q2
          cases y2 with
          | loop R3 N3 ps3 a3 b3 => obtain ⟨r5, k1, k2⟩ := g3; exact ⟨r5, by rw [keep]; exact k1, k2⟩
          | pend c3 => obtain ⟨r5, k1, k2⟩ := g3; exact ⟨r5, by rw [keep]; exact k1, k2⟩
        | row t l => exact g3.putLoop hr3 (fun _ e => by cases e)
        | box l => exact g3.putLoop hr3 (fun _ e => by cases e)
        | ro l => exact g3.putLoop hr3 (fun _ e => by cases e)
      have hfr4 : Fr (Owned ρ (hg H)) w w4 := by
        have a2 : Fr (Owned ρ (hg H)) w w2 := (hfr1 _).trans he2.fr (fun k o hk h => by
          obtain ⟨id, b, rb, g1, g2, g3, g4⟩ := h
          rw [hgp] at g1
          by_cases e : id = L
          · rw [if_pos e] at g1; cases g1
            subst e; rw [hρL] at g2; cases g2
            have : k = w.heap.size + 1 := g4
            omega
          · rw [if_neg e] at g1
            rw [hρne id e] at g2
            exact ⟨id, b, rb, g1, g2, g3, g4⟩)
        have a3 : Fr (Owned ρ (hg H)) w w3 := by
          refine ⟨hm.os.trans a2.os, hm.tape.trans a2.tape, hm.output.trans a2.output, by rw [hm.size]; exact a2.size, fun k o ho => ?_⟩
          have hk : k < w.heap.size := (Array.getElem?_eq_some_iff.1 ho).1
          rw [hm.low k (by omega)]
          exact a2.blk k o ho
        refine ⟨by rw [hw4]; exact a3.os, by rw [hw4]; exact a3.tape, by rw [hw4]; exact a3.output, by rw [hw4]; simpa [World.putObj] using a3.size, fun k o ho => ?_⟩
        have hk : k < w.heap.size := (Array.getElem?_eq_some_iff.1 ho).1
        rw [hw4, World.putObj_heap_other (by omega)]
        exact a3.blk k o ho
      have hD4 : w4.heap[w.heap.size]? = some (.deferred (some [])) := by
        have d2 : w2.heap[w.heap.size]? = some (.deferred (some [])) := (he2.fr.blk _ _ hD1).fixed rfl (fun _ _ _ h => by cases h)
        have d3 : w3.heap[w.heap.size]? = some (.deferred (some [])) := by rw [hm.low _ (by omega)]; exact d2
        rw [hw4]; exact putLoop_dfr hr3 d3
      have hown4 : ∀ k o, Owned ρ2 (hg (hput H2 L none)) k o → Owned ρ (hg H) k o ∨ w.heap.size ≤ k := by
        rintro k o ⟨id, b, rb, g1, g2, g3, g4⟩
        obtain ⟨hne, h2⟩ := sub id b g1
        rcases he2.own k o ⟨id, b, rb, h2, g2, g3, g4⟩ with h | h
        · obtain ⟨id2, b2, rb2, q1, q2, q3, q4⟩ := h
          rw [hgp] at q1
          by_cases e : id2 = L
          · rw [if_pos e] at q1; cases q1
            subst e; rw [hρL] at q2; cases q2
            have : k = w.heap.size + 1 := q4
            exact .inr (by omega)
          · rw [if_neg e] at q1
            rw [hρne id2 e] at q2
            exact .inl ⟨id2, b2, rb2, q1, q2, q3, q4⟩
        · exact .inr (by omega)
      have hextA : ∀ id rb, ρ id = some rb → ρ2 id = some rb := fun id rb h => by
        have hid : id < L := by
          by_cases e : id < L
          · exact e
          · rw [hfresh id (by omega)] at h; cases h
        exact he2.ext id (by omega) rb (hext id rb h)
      have hsim4 : Sim N B L2 ρ2 (rg R) (hg (hput H2 L none)) { a with defers := [{ target := .collected w.heap.size, args := #[] }] ++ a.defers } w4 := by
        refine ⟨hs.size, fun t v hv => (hs.regs t v hv).ext (fun id rb h => hextA id rb h), hheap4, fun i j bi bj ri rj hne hi hj hri hrj hown => hs2.sep i j bi bj ri rj hne (sub i bi hi).2 (sub j bj hj).2 hri hrj hown, hs2.fresh, ?_⟩
        have hd0 : DfrOk B a.defers w4 := hs.dfr.fr hfr4
        refine ⟨?_, fun d hd => ?_, hd0.2.2⟩
        · simp only [List.singleton_append, List.map_cons, List.pairwise_cons]
          refine ⟨fun t ht k hk => ?_, hd0.1⟩
          cases hk
          intro e
          obtain ⟨d, hd, rfl⟩ := List.mem_map.1 ht
          obtain ⟨q, e2, _, hq2⟩ := hs.dfr.2.1 d hd
          rw [e2] at e
          simp only [Target.collected.injEq] at e
          subst e
          have := (Array.getElem?_eq_some_iff.1 hq2).1
          omega
        · rcases List.mem_append.1 hd with h | h
          · simp only [List.mem_singleton] at h
            subst h
            exact ⟨w.heap.size, rfl, hs.dfr.2.2, hD4⟩
          · exact hd0.2.1 d h
      have hev4 : EvA A ρ (hg H) w ρ2 (hg (hput H2 L none)) w4 := ⟨fun id _ rb h => hextA id rb h, hfr4, hown4⟩
      have hlen4 : (hput H2 L none).length ≤ L2 := hput_le hl2 (by have := hk_lt hl2 (by rw [hk_eq]; exact hy); omega)
      refine ⟨r3.pending, w4, hend, ?_⟩
      rw [hpd]
      unfold rangeK at hq
      rw [hk_eq, hy] at hq
      cases y with
      | loop R3 N3 ps3 a3 b3 => exact ⟨R, _, L2, ρ2, hq, hlen4, hsim4, hev4⟩
      | pend c3 =>
        cases c3 with
        | ret => exact wpIn_ret ⟨R, _, L2, ρ2, hq, hlen4, hsim4, hev4⟩
        | exit i => exact wpIn_exit ⟨R, _, L2, ρ2, hq, hlen4, hsim4, hev4⟩
        | _ => exact hq.elim
    cases e with
    | normal => exact main hq
    | ret => exact main hq
    | _ => exact hq.elim
end Go.Sh
/- Loads out of rows of numbers; small facts for walks, further. -/
namespace Go.Sh

theorem sload_map {α : Type} (f : α → SV) (d : α) {l : List α} {k i : Nat} (hk : k = i) (h : i < l.length) : sload false 1 (l.map f) k = some (f (l.getD i d)) := by
  subst hk
  simp [sload, h]
theorem sload_u8 {l : List UInt8} {k i : Nat} (hk : k = i) (h : i < l.length) : sload false 1 (l.map .u8) k = some (.u8 (l.getD i 0)) := sload_map _ _ hk h
theorem sload_u32 {l : List UInt32} {k i : Nat} (hk : k = i) (h : i < l.length) : sload false 1 (l.map .u32) k = some (.u32 (l.getD i 0)) := sload_map _ _ hk h
theorem sload_u64 {l : List UInt64} {k i : Nat} (hk : k = i) (h : i < l.length) : sload false 1 (l.map .u64) k = some (.u64 (l.getD i 0)) := sload_map _ _ hk h
theorem sload_i {l : List Int} {k i : Nat} (hk : k = i) (h : i < l.length) : sload false 1 (l.map .i) k = some (.i (l.getD i 0)) := sload_map _ _ hk h
theorem sload_all {l : List SV} {k sz : Nat} (hk : k = 0) (h : l.length = sz) : sload true sz l k = some (.agg l) := by
  subst hk; subst h
  simp only [sload, if_true]
  rw [if_pos (by omega), List.drop_zero, List.take_of_length_le (Nat.le_refl _)]
theorem sload_sub {α : Type} (f : α → SV) {l : List α} {k i sz : Nat} (hk : k = i) (h : i + sz ≤ l.length) : sload true sz (l.map f) k = some (.agg (((l.drop i).take sz).map f)) := by
  subst hk
  simp only [sload, if_true]
  rw [if_pos (by simpa using h), ← List.map_drop, ← List.map_take]
@[simp] theorem sput_agg_whole {l m : List SV} (h : m.length = l.length) : sput l 0 (.agg m) = m := by
  simp [sput, h]
theorem sput_all {l m : List SV} {k : Nat} (hk : k = 0) (h : m.length = l.length) : sput l k (.agg m) = m := by subst hk; exact sput_agg_whole h
theorem sput_m8 {l : List UInt8} {k i : Nat} {x : UInt8} (hk : k = i) : sput (l.map .u8) k (.u8 x) = (l.set i x).map .u8 := by subst hk; simp [sput, List.map_set]
theorem sput_mi {l : List Int} {k i : Nat} {x : Int} (hk : k = i) : sput (l.map .i) k (.i x) = (l.set i x).map .i := by subst hk; simp [sput, List.map_set]
theorem sput_m32 {l : List UInt32} {k i : Nat} {x : UInt32} (hk : k = i) : sput (l.map .u32) k (.u32 x) = (l.set i x).map .u32 := by subst hk; simp [sput, List.map_set]
theorem sput_m64 {l : List UInt64} {k i : Nat} {x : UInt64} (hk : k = i) : sput (l.map .u64) k (.u64 x) = (l.set i x).map .u64 := by subst hk; simp [sput, List.map_set]
theorem sload_pre8 {l : List UInt8} {r : List SV} {k i : Nat} (hk : k = i) (h : i < l.length) : sload false 1 (l.map .u8 ++ r) k = some (.u8 (l.getD i 0)) := by
  subst hk
  simp [sload, List.getElem?_append_left, h]
theorem sload_end {l : List SV} {x : SV} {k : Nat} (hk : k = l.length) : sload false 1 (l ++ [x]) k = some x := by
  subst hk; simp [sload]
theorem sput_end {l : List SV} {x y : SV} {k : Nat} (hk : k = l.length) (hy : y.atom = true) : sput (l ++ [x]) k y = l ++ [y] := by
  subst hk
  cases y <;> first | (simp [SV.atom] at hy; done) | simp [sput]
theorem bytesOf_cut {l r : List UInt8} {o n : Nat} (h : (l.drop o).take n = r) : bytesOf (((l.map SV.u8).drop o).take n) = some r := by
  subst h; rw [← List.map_drop, ← List.map_take, bytesOf_map]
theorem bytesOf_all {l : List UInt8} : bytesOf (((l.map SV.u8).drop 0).take l.length) = some l := by
  rw [List.drop_zero, take_map_len, bytesOf_map]
theorem set_map {α : Type} (f : α → SV) (l : List α) (k : Nat) (x : α) : (l.map f).set k (f x) = (l.set k x).map f := by simp [List.map_set]

theorem plainL_rep (n : Nat) {x : SV} (h : plainV x = true) : plainL (List.replicate n x) = true := by
  simp only [plainL, List.all_eq_true]; intro y hy; rw [List.eq_of_mem_replicate hy]; exact h
theorem ren_z8 {sel : List Nat} {n : Nat} {x : UInt8} : renL sel ((List.replicate n x).map .u8) = some (List.replicate n (.u8 x)) := by rw [List.map_replicate]; exact renL_plain sel (plainL_rep n rfl)
theorem ren_zi {sel : List Nat} {n : Nat} {x : Int} : renL sel ((List.replicate n x).map .i) = some (List.replicate n (.i x)) := by rw [List.map_replicate]; exact renL_plain sel (plainL_rep n rfl)
theorem ren_z32 {sel : List Nat} {n : Nat} {x : UInt32} : renL sel ((List.replicate n x).map .u32) = some (List.replicate n (.u32 x)) := by rw [List.map_replicate]; exact renL_plain sel (plainL_rep n rfl)
theorem ren_z64 {sel : List Nat} {n : Nat} {x : UInt64} : renL sel ((List.replicate n x).map .u64) = some (List.replicate n (.u64 x)) := by rw [List.map_replicate]; exact renL_plain sel (plainL_rep n rfl)
theorem ren_app {sel : List Nat} {a b c : List SV} (ha : plainL a = true) (h : renL sel b = some c) : renL sel (a ++ b) = some (a ++ c) := by
  induction a with
  | nil => exact h
  | cons x a ih =>
    simp only [plainL_cons, Bool.and_eq_true] at ha
    simp only [List.cons_append, renL, renV_plain sel ha.1, ih ha.2]
theorem ren_app2 {sel : List Nat} {a a' b c : List SV} (ha : plainL a = true) (e : a = a') (h : renL sel b = some c) : renL sel (a ++ b) = some (a' ++ c) := by subst e; exact ren_app ha h

/-! ### What stands in a register, as it is to stand -/
theorem wk_i {sel : List Nat} {n m : Int} (h : n = m) : renV sel (.i n) = some (.i m) := by subst h; rfl
theorem wk_u8 {sel : List Nat} {n m : UInt8} (h : n = m) : renV sel (.u8 n) = some (.u8 m) := by subst h; rfl
theorem wk_u32 {sel : List Nat} {n m : UInt32} (h : n = m) : renV sel (.u32 n) = some (.u32 m) := by subst h; rfl
theorem wk_u64 {sel : List Nat} {n m : UInt64} (h : n = m) : renV sel (.u64 n) = some (.u64 m) := by subst h; rfl
theorem wk_b {sel : List Nat} {n m : Bool} (h : n = m) : renV sel (.b n) = some (.b m) := by subst h; rfl
theorem wk_sl {sel : List Nat} {i j o o' n n' z : Nat} {f : Bool} (hi : sel[i]? = some j) (ho : o = o') (hn : n = n') : renV sel (.sl i o n z f) = some (.sl j o' n' z f) := by subst ho; subst hn; simp only [renV, hi]
theorem wk_tup {sel : List Nat} {l m : List SV} (h : renL sel l = some m) : renV sel (.tup l) = some (.tup m) := by simp only [renV, h]
theorem wk_agg {sel : List Nat} {l m : List SV} (h : renL sel l = some m) : renV sel (.agg l) = some (.agg m) := by simp only [renV, h]
theorem wk_cons {sel : List Nat} {x y : SV} {l m : List SV} (h : renV sel x = some y) (k : renL sel l = some m) : renL sel (x :: l) = some (y :: m) := by simp only [renL, h, k]
theorem wk_nil {sel : List Nat} : renL sel [] = some [] := rfl
theorem evb_i {R : RL} {d : Nat} {x : Operand} {n : Int} {m : Nat} (h : ev R x = some (.i n)) (hn : n = (m : Int)) : evb R d (some x) = some m := by
  subst hn; simp [evb, h, idxOf]
end Go.Sh
/- Yield, reckoned. -/
namespace Go.Sh

def sopYield (fl : List Bool) (R : RL) (H : HL) (L : Nat) (x : Operand) (args : List Operand) (id : Nat) (ss : List Nat) (args0 : List SV) (H0 : HL) (ret : SV) (H1 : HL) (k : K1) : Prop :=
  (match ev R x with
    | some (.yld i) => match evs R args with
      | some zs => i = id ∧ renL (id :: ss) args0 = some zs
      | none => False
    | _ => False) ∧ okH (id :: ss) H (id :: ss) H0 ∧ plainHf fl H1 = true ∧
  match Nat.beq (id :: ss).length H0.length with
  | true => match dupOk (id :: ss) 0 (id :: ss) H0 with
    | true => match cWf (id :: ss ++ newSel L (H1.length - H0.length)) fl (id :: ss ++ newSel L (H1.length - H0.length)) H0 H1 with
      | some W => match renV (id :: ss ++ newSel L (H1.length - H0.length)) ret with
        | some z => k (some z) W (id :: ss) (L + (H1.length - H0.length))
        | none => False
      | none => False
    | false => False
  | false => False

theorem ok1_yield {P : Program} {o : Oper} {R : RL} {H : HL} {L : Nat} {k : K1} {x : Operand} {args : Array Operand} {tys : Array TypeId} {args0 : List SV} {H0 H1 : HL} {ret : SV} (id : Nat) (ss : List Nat) (fl : List Bool)
    (hc : SYield P args0 H0 ret H1) (ho : o.op = .call ⟨.value x, args, tys⟩) (hle : Nat.ble H.length L = true) (h : sopYield fl R H L x args.toList id ss args0 H0 ret H1 k) : Ok1 P o R H L k := by
  have hl := Nat.le_of_ble_eq_true hle
  obtain ⟨h1, h2, hp, h3⟩ := h
  split at h1
  · rename_i i hx
    split at h1
    · rename_i zs hzs
      obtain ⟨rfl, hren⟩ := h1
      split at h3
      · rename_i hlen
        split at h3
        · rename_i hd
          split at h3
          · rename_i W hWf
            split at h3
            · rename_i z hz
              have hW := cWf_eq _ _ _ _ _ _ hp hWf
              obtain ⟨w1, w2, w3, w4, w5⟩ := cW_spec hW
              refine ⟨_, _, _, _, lt_yield hl ho (ev_some hx) (evs_eq hzs) hc hren (beqE hlen) h2 hd hW hz, by omega, ?_, h3⟩
              intro j ob hm
              obtain ⟨q, hj, hent⟩ := w3 j ob hm
              have hl0 := beqE hlen
              by_cases hjs : q < H0.length
              · rw [List.getElem?_append_left (by omega)] at hj
                obtain ⟨b0, hb0⟩ := w5 q hjs
                obtain ⟨s, b, e1, e2, _⟩ := okH_get h2 hb0
                rw [hj] at e1; cases e1
                have := hk_lt hl (by rw [hk_eq]; exact e2 : hk H _ = some b)
                exact ⟨by omega, fun hn => absurd (List.mem_of_getElem? hj) hn⟩
              · rw [List.getElem?_append_right (by omega), newSel_get] at hj
                split at hj
                · have := Option.some.inj hj
                  exact ⟨by omega, fun _ => by omega⟩
                · cases hj
            · exact h3.elim
          · exact h3.elim
        · exact h3.elim
      · exact h3.elim
    · exact h1.elim
  · exact h1.elim
end Go.Sh
/- Lists that are filled from the front. -/
namespace Go.Sh
variable {α : Type}
/-- The first i of n places have f, the others g. -/
def fil (n i : Nat) (f g : Nat → α) : List α := (List.range n).map (fun j => if j < i then f j else g j)
theorem fil_len (n i : Nat) (f g : Nat → α) : (fil n i f g).length = n := by simp [fil]
theorem fil_zero (n : Nat) (f : Nat → α) (z : α) : fil n 0 f (fun _ => z) = List.replicate n z := by
  apply List.ext_getElem?; intro j; by_cases h : j < n <;> simp [fil, h]
theorem fil_full (n : Nat) (f g : Nat → α) : fil n n f g = (List.range n).map f := by
  unfold fil; apply List.map_congr_left; intro j hj; rw [if_pos (by simpa using hj)]
theorem fil_getD {n i j : Nat} {f g : Nat → α} {d : α} (h : j < n) : (fil n i f g).getD j d = if j < i then f j else g j := by
  rw [List.getD_eq_getElem?_getD]; simp [fil, h]
theorem fil_set {n i : Nat} {f g : Nat → α} (h : i < n) : (fil n i f g).set i (f i) = fil n (i + 1) f g := by
  apply List.ext_getElem?; intro j
  rw [List.getElem?_set]
  by_cases hj : i = j
  · subst hj; simp [fil, h]
  · rw [if_neg hj]
    by_cases h2 : j < n
    · simp only [fil, List.getElem?_map, List.getElem?_range h2, Option.map_some]
      by_cases h3 : j < i
      · rw [if_pos h3, if_pos (by omega)]
      · rw [if_neg h3, if_neg (by omega)]
    · simp [fil, h2]
theorem fil_setx {n i : Nat} {f g : Nat → α} {x : α} (h : i < n) (hx : x = f i) : (fil n i f g).set i x = fil n (i + 1) f g := by subst hx; exact fil_set h
theorem fil_same {n i : Nat} {f g : Nat → α} {x : α} (h : i < n) (hx : x = g i) : (fil n i f g).set i x = fil n i f g := by
  apply List.ext_getElem?; intro j
  rw [List.getElem?_set]
  by_cases hj : i = j
  · subst hj; subst hx; simp [fil, h]
  · rw [if_neg hj]
theorem fil_of_list {n : Nat} {f : Nat → α} {l : List α} {d : α} (h : l.length = n) : fil n 0 f (fun j => l.getD j d) = l := by
  apply List.ext_getElem?; intro j
  by_cases h2 : j < n
  · simp only [fil, List.getElem?_map, List.getElem?_range h2, Option.map_some, Nat.not_lt_zero, if_false]
    rw [List.getD_eq_getElem?_getD, List.getElem?_eq_getElem (by omega)]; rfl
  · rw [List.getElem?_eq_none (by simp [fil_len]; omega), List.getElem?_eq_none (by omega)]
theorem rng_getD {n j : Nat} {f : Nat → α} {d : α} (h : j < n) : ((List.range n).map f).getD j d = f j := by
  rw [List.getD_eq_getElem?_getD]; simp [h]
theorem rng_len {n : Nat} {f : Nat → α} : ((List.range n).map f).length = n := by simp
theorem rng_succ {n : Nat} {f : Nat → α} : (List.range (n + 1)).map f = (List.range n).map f ++ [f n] := by rw [List.range_succ]; simp
theorem set_get_set {l : List UInt8} {i : Nat} {x c : UInt8} (h : i < l.length) : (l.set i x).set i ((l.set i x).getD i 0 + c) = l.set i (x + c) := by
  rw [List.getD_eq_getElem?_getD, List.getElem?_set]; simp [h]
theorem getD_app_l {l m : List α} {i : Nat} {d : α} (h : i < l.length) : (l ++ m).getD i d = l.getD i d := by
  rw [List.getD_eq_getElem?_getD, List.getD_eq_getElem?_getD, List.getElem?_append_left h]
theorem getD_app_r {l m : List α} {i j : Nat} {d : α} (h : i = l.length + j) : (l ++ m).getD i d = m.getD j d := by
  subst h; rw [List.getD_eq_getElem?_getD, List.getD_eq_getElem?_getD, List.getElem?_append_right (by omega)]; congr 2; omega
theorem ren_m8 {sel : List Nat} {l m : List UInt8} (h : l = m) : renL sel (l.map .u8) = some (m.map .u8) := by subst h; exact renL_plain sel (plainL_u8 l)
theorem ren_m32 {sel : List Nat} {l m : List UInt32} (h : l = m) : renL sel (l.map .u32) = some (m.map .u32) := by subst h; exact renL_plain sel (plainL_u32 l)
theorem ren_m64 {sel : List Nat} {l m : List UInt64} (h : l = m) : renL sel (l.map .u64) = some (m.map .u64) := by subst h; exact renL_plain sel (plainL_u64 l)
theorem ren_mi {sel : List Nat} {l m : List Int} (h : l = m) : renL sel (l.map .i) = some (m.map .i) := by subst h; exact renL_plain sel (plainL_i l)
theorem app1 {l : List UInt8} {n : Nat} {y : UInt8} (h : l.length = n) : List.take (n * 1) (List.drop 0 (l.map SV.u8)) ++ List.take (1 * 1) (List.drop 0 [SV.u8 y]) = (l ++ [y]).map SV.u8 := by
  rw [List.drop_zero, List.take_of_length_le (by simp; omega)]; simp
end Go.Sh
/- Numbers: Fermat's little theorem; which numbers are prime; 2^255 - 19 is. -/
namespace Go.Sh
set_option linter.unusedSimpArgs false

def Pr (n : Nat) : Prop := 2 ≤ n ∧ ∀ d, d ∣ n → d = 1 ∨ d = n

theorem Pr.coprime {p a : Nat} (h : Pr p) (ha : ¬ p ∣ a) : Nat.gcd p a = 1 := by
  rcases h.2 (Nat.gcd p a) (Nat.gcd_dvd_left p a) with e | e
  · exact e
  · exact absurd (e ▸ Nat.gcd_dvd_right p a) ha
theorem Pr.dvd_mul {p a b : Nat} (h : Pr p) (hd : p ∣ a * b) : p ∣ a ∨ p ∣ b := by
  by_cases ha : p ∣ a
  · exact .inl ha
  · exact .inr (Nat.Coprime.dvd_of_dvd_mul_left (h.coprime ha) hd)

/-! ### Fermat -/
def ch : Nat → Nat → Nat
  | _, 0 => 1
  | 0, _ + 1 => 0
  | n + 1, k + 1 => ch n k + ch n (k + 1)
theorem ch_z (n : Nat) : ch n 0 = 1 := by cases n <;> rfl
theorem ch_s (n k : Nat) : ch (n + 1) (k + 1) = ch n k + ch n (k + 1) := rfl
theorem ch_mul : ∀ n k, (k + 1) * ch (n + 1) (k + 1) = (n + 1) * ch n k
  | 0, 0 => rfl
  | 0, k + 1 => by simp [ch]
  | n + 1, 0 => by
    have := ch_mul n 0
    rw [ch_z] at this
    rw [ch_s (n + 1) 0, ch_z]
    omega
  | n + 1, j + 1 => by
    have h1 := ch_mul n j
    have h2 := ch_mul n (j + 1)
    rw [ch_s (n + 1) (j + 1), ch_s n j] at *
    rw [Nat.mul_add, h2, show j + 1 + 1 = (j + 1) + 1 from rfl, Nat.add_mul, h1, Nat.add_mul (n + 1) 1, Nat.mul_add (n + 1)]
    omega
theorem ch_gt : ∀ n k, n < k → ch n k = 0
  | 0, _ + 1, _ => rfl
  | n + 1, k + 1, h => by rw [ch_s, ch_gt n k (by omega), ch_gt n (k + 1) (by omega)]
theorem ch_self : ∀ n, ch n n = 1
  | 0 => rfl
  | n + 1 => by rw [ch_s, ch_self n, ch_gt n (n + 1) (by omega)]
def bs (a n : Nat) : Nat → Nat
  | 0 => 0
  | m + 1 => bs a n m + ch n m * a ^ m
theorem bs_s (a n m : Nat) : bs a n (m + 1) = bs a n m + ch n m * a ^ m := rfl
theorem bs_step (a n : Nat) : ∀ m, bs a (n + 1) (m + 1) = a * bs a n m + bs a n (m + 1)
  | 0 => by simp [bs, ch_z]
  | m + 1 => by
    rw [bs_s a (n + 1) (m + 1), bs_step a n m, bs_s a n (m + 1), ch_s, bs_s a n m, Nat.mul_add, Nat.add_mul, Nat.pow_succ, Nat.mul_comm (a ^ m) a, ← Nat.mul_assoc (ch n m), Nat.mul_comm (ch n m) a, Nat.mul_assoc a]
    omega
theorem binom (a : Nat) : ∀ n, (a + 1) ^ n = bs a n (n + 1)
  | 0 => by simp [bs, ch]
  | n + 1 => by
    rw [bs_step a n (n + 1), bs_s a n (n + 1), ch_gt n (n + 1) (by omega), ← binom a n, Nat.pow_succ, Nat.mul_add, Nat.mul_comm a]
    omega
theorem dvd_ch {p : Nat} (h : Pr p) {k : Nat} (h0 : 0 < k) (hk : k < p) : p ∣ ch p k := by
  obtain ⟨j, rfl⟩ : ∃ j, k = j + 1 := ⟨k - 1, by omega⟩
  obtain ⟨n, rfl⟩ : ∃ n, p = n + 1 := ⟨p - 1, by omega⟩
  have := ch_mul n j
  rcases h.dvd_mul (a := j + 1) (b := ch (n + 1) (j + 1)) ⟨_, this⟩ with e | e
  · exact absurd (Nat.le_of_dvd (by omega) e) (by omega)
  · exact e
theorem bs_mod {p : Nat} (h : Pr p) (a : Nat) : ∀ m, m + 1 ≤ p → bs a p (m + 1) % p = 1 % p
  | 0, _ => by simp [bs, ch_z]
  | m + 1, hm => by
    rw [bs_s, Nat.add_mod, bs_mod h a m (by omega)]
    obtain ⟨c, hc⟩ := dvd_ch h (k := m + 1) (by omega) (by omega)
    rw [hc, Nat.mul_assoc, Nat.mul_mod_right]
    simp
theorem fermat0 {p : Nat} (h : Pr p) : ∀ a, a ^ p % p = a % p
  | 0 => by rw [Nat.zero_pow (by have := h.1; omega)]
  | a + 1 => by
    have h2 := h.1
    rw [binom, bs_s, ch_self, Nat.one_mul]
    have hb := bs_mod h a (p - 1) (by omega)
    rw [show p - 1 + 1 = p by omega] at hb
    rw [Nat.add_mod, hb, fermat0 h a, ← Nat.add_mod, Nat.add_comm]
theorem mod_sub {p x y : Nat} (h : x % p = y % p) (hle : y ≤ x) : p ∣ x - y := by
  have h1 := Nat.div_add_mod x p
  have h2 := Nat.div_add_mod y p
  refine ⟨x / p - y / p, ?_⟩
  rw [Nat.mul_sub]; omega
theorem fermat {p : Nat} (h : Pr p) {a : Nat} (ha : ¬ p ∣ a) : a ^ (p - 1) % p = 1 := by
  have h2 := h.1
  have h0 := fermat0 h a
  have ha0 : 0 < a := by
    rcases Nat.eq_zero_or_pos a with e | e
    · exact absurd (e ▸ Nat.dvd_zero p) ha
    · exact e
  have e1 : a ^ p = a * a ^ (p - 1) := by rw [← Nat.pow_succ']; congr 1; omega
  have hp : 1 ≤ a ^ (p - 1) := Nat.pow_pos ha0
  have hd : p ∣ a * a ^ (p - 1) - a := mod_sub (by rw [← e1]; exact h0) (Nat.le_mul_of_pos_right a hp)
  rw [show a * a ^ (p - 1) - a = a * (a ^ (p - 1) - 1) by rw [Nat.mul_sub, Nat.mul_one]] at hd
  rcases h.dvd_mul hd with e | ⟨c, hc⟩
  · exact absurd e ha
  · rw [show a ^ (p - 1) = p * c + 1 by omega, Nat.mul_add_mod]
    exact Nat.mod_eq_of_lt (by omega)

/-! ### Which are prime -/
theorem has_prime : ∀ n, 2 ≤ n → ∃ r, Pr r ∧ r ∣ n := by
  intro n
  induction n using Nat.strongRecOn with
  | _ n ih =>
    intro h
    by_cases hp : Pr n
    · exact ⟨n, hp, Nat.dvd_refl n⟩
    · have : ∃ d, d ∣ n ∧ d ≠ 1 ∧ d ≠ n := by
        by_cases hx : ∃ d, d ∣ n ∧ d ≠ 1 ∧ d ≠ n
        · exact hx
        · refine absurd ⟨h, fun d hd => ?_⟩ hp
          by_cases h1 : d = 1
          · exact .inl h1
          · by_cases h2 : d = n
            · exact .inr h2
            · exact absurd ⟨d, hd, h1, h2⟩ hx
      obtain ⟨d, hd, h1, h2⟩ := this
      have hle := Nat.le_of_dvd (by omega) hd
      have h0 : d ≠ 0 := by rintro rfl; obtain ⟨c, hc⟩ := hd; omega
      obtain ⟨r, hr, hrd⟩ := ih d (by omega) (by omega)
      exact ⟨r, hr, Nat.dvd_trans hrd hd⟩
/-- If no prime up to the root divides it, it is one. -/
theorem prime_of {n : Nat} (h : 2 ≤ n) (hr : ∀ r, Pr r → r ∣ n → n < r * r) : Pr n := by
  refine ⟨h, fun d hd => ?_⟩
  by_cases h1 : d = 1
  · exact .inl h1
  · by_cases h2 : d = n
    · exact .inr h2
    · obtain ⟨e, he⟩ := hd
      have hd0 : d ≠ 0 := by rintro rfl; omega
      have he0 : e ≠ 0 := by rintro rfl; omega
      have he1 : e ≠ 1 := by rintro rfl; omega
      obtain ⟨r, hr1, hr2⟩ := has_prime d (by omega)
      obtain ⟨s, hs1, hs2⟩ := has_prime e (by omega)
      have ha := hr r hr1 (Nat.dvd_trans hr2 ⟨e, he⟩)
      have hb := hr s hs1 (Nat.dvd_trans hs2 ⟨d, by rw [he, Nat.mul_comm]⟩)
      have hrd := Nat.le_of_dvd (by omega) hr2
      have hse := Nat.le_of_dvd (by omega) hs2
      rcases Nat.le_total d e with hde | hde
      · have : r * r ≤ d * e := Nat.mul_le_mul hrd (by omega)
        omega
      · have : s * s ≤ d * e := Nat.mul_le_mul (by omega) hse
        omega
theorem pow_gcd {r b : Nat} : ∀ x y : Nat, b ^ x % r = 1 → b ^ y % r = 1 → b ^ Nat.gcd x y % r = 1 := by
  intro x y
  induction x, y using Nat.gcd.induction with
  | H0 y => intro _ h; simpa using h
  | H1 x y hx ih =>
    intro h1 h2
    rw [Nat.gcd_rec]
    refine ih ?_ h1
    have hy : y = x * (y / x) + y % x := (Nat.div_add_mod y x).symm
    rw [hy, Nat.pow_add, Nat.pow_mul, Nat.mul_mod, Nat.pow_mod, h1, Nat.one_pow] at h2
    by_cases hr : r = 1
    · subst hr; omega
    · by_cases hr0 : r = 0
      · subst hr0; simpa using h2
      · rw [Nat.mod_eq_of_lt (show 1 < r by omega), Nat.one_mul, Nat.mod_mod] at h2
        exact h2
/-- Pocklington's test, by one prime. -/
theorem pock {n q R a K : Nat} (hq : Pr q) (hn : n = R * q + 1) (h0 : 0 < R) (h1 : a ^ (n - 1) % n = 1) (h2 : Nat.gcd (a ^ R % n + n - 1) n = 1) (hK : n < (q * (K + 1) + 1) * (q * (K + 1) + 1)) (hk : ∀ k, k < K → n % (q * (k + 1) + 1) ≠ 0) : Pr n := by
  have hq2 := hq.1
  have hRq : 0 < R * q := Nat.mul_pos h0 (by omega)
  refine prime_of (by omega) fun r hr hrn => ?_
  have hr2 := hr.1
  have hb : (a ^ R) ^ q % r = 1 := by
    rw [← Nat.pow_mul, ← Nat.mod_mod_of_dvd _ hrn, show R * q = n - 1 by omega, h1]
    exact Nat.mod_eq_of_lt (by omega)
  have hb1 : a ^ R % r ≠ 1 := by
    intro e
    have hd : r ∣ a ^ R % n + n - 1 := by
      apply Nat.dvd_of_mod_eq_zero
      have e1 : (a ^ R % n) % r = 1 := by rw [Nat.mod_mod_of_dvd _ hrn]; exact e
      obtain ⟨c, hc⟩ := hrn
      have e2 : a ^ R % n = r * (a ^ R % n / r) + 1 := by have := Nat.div_add_mod (a ^ R % n) r; omega
      rw [e2, show r * (a ^ R % n / r) + 1 + n - 1 = r * (a ^ R % n / r) + n by omega, Nat.mul_add_mod, hc, Nat.mul_mod_right]
    have := Nat.dvd_gcd hd hrn
    rw [h2] at this
    have := Nat.le_of_dvd (by omega) this
    omega
  have hnd : ¬ r ∣ a ^ R := by
    intro e
    have : (a ^ R) ^ q % r = 0 := by
      rw [Nat.pow_mod, Nat.mod_eq_zero_of_dvd e, Nat.zero_pow (by omega)]; simp
    omega
  have hf := fermat hr hnd
  have hg := pow_gcd q (r - 1) hb hf
  have hqr : q ∣ r - 1 := by
    rcases hq.2 _ (Nat.gcd_dvd_left q (r - 1)) with e | e
    · rw [e, Nat.pow_one] at hg; exact absurd hg hb1
    · exact e ▸ Nat.gcd_dvd_right q (r - 1)
  obtain ⟨k, hk1⟩ := hqr
  have hk0 : k ≠ 0 := by rintro rfl; omega
  have hre : r = q * k + 1 := by omega
  by_cases hkK : k ≤ K
  · have := hk (k - 1) (by omega)
    rw [show k - 1 + 1 = k by omega, ← hre] at this
    exact absurd (Nat.mod_eq_zero_of_dvd hrn) this
  · have h3 : q * (K + 1) ≤ q * k := Nat.mul_le_mul_left q (by omega)
    have h4 : (q * (K + 1) + 1) * (q * (K + 1) + 1) ≤ r * r := Nat.mul_le_mul (by omega) (by omega)
    omega
/-- A power, modulo m. -/
def pm (m : Nat) : Nat → Nat → Nat → Nat
  | 0, _, _ => 1 % m
  | f + 1, a, e => match Nat.beq (e % 2) 1 with
    | true => a * pm m f (a * a % m) (e / 2) % m
    | false => pm m f (a * a % m) (e / 2)
theorem pm_eq (m : Nat) : ∀ f a e, e < 2 ^ f → pm m f a e = a ^ e % m
  | 0, a, e, h => by
    obtain rfl : e = 0 := by simpa using h
    simp [pm]
  | f + 1, a, e, h => by
    have hs : e / 2 < 2 ^ f := by rw [Nat.pow_succ] at h; omega
    have ih := pm_eq m f (a * a % m) (e / 2) hs
    rw [← Nat.pow_mod, ← Nat.pow_two, ← Nat.pow_mul, Nat.pow_two] at ih
    simp only [pm]
    split
    · rename_i hb
      have hb := Nat.eq_of_beq_eq_true hb
      rw [ih, Nat.mul_mod, Nat.mod_mod, ← Nat.mul_mod, ← Nat.pow_succ']
      congr 2; omega
    · rename_i hb
      have hb : e % 2 ≠ 1 := Nat.ne_of_beq_eq_false hb
      rw [ih]
      congr 2; omega
/-- No divisor from 2 on. -/
def noDiv (n : Nat) : Nat → Bool
  | 0 => true
  | k + 1 => match Nat.beq (n % (k + 2)) 0 with
    | true => false
    | false => noDiv n k
theorem noDiv_eq {n : Nat} : ∀ {k}, noDiv n k = true → ∀ d, 2 ≤ d → d < k + 2 → n % d ≠ 0
  | 0, _, d, h1, h2 => by omega
  | k + 1, h, d, h1, h2 => by
    simp only [noDiv] at h
    split at h
    · cases h
    · rename_i hb
      by_cases hd : d = k + 2
      · subst hd; exact Nat.ne_of_beq_eq_false hb
      · exact noDiv_eq h d h1 (by omega)
theorem pr0 : Pr 8574133 := by
  refine prime_of (by decide) fun r hr hd => ?_
  have h := noDiv_eq (n := 8574133) (k := 2930) (by decide +kernel) r hr.1
  by_cases hlt : r < 2932
  · exact absurd (Nat.mod_eq_zero_of_dvd hd) (h hlt)
  · exact Nat.lt_of_lt_of_le (show 8574133 < 2932 * 2932 by decide) (Nat.mul_le_mul (by omega) (by omega))
theorem tst {n R a f : Nat} (hR : R < 2 ^ f) (hn : n - 1 < 2 ^ f) (h1 : pm n f a (n - 1) = 1) (h2 : Nat.gcd (pm n f a R + n - 1) n = 1) : a ^ (n - 1) % n = 1 ∧ Nat.gcd (a ^ R % n + n - 1) n = 1 := by
  rw [pm_eq n f a _ hn] at h1
  rw [pm_eq n f a _ hR] at h2
  exact ⟨h1, h2⟩
theorem pockT {n q R a K f : Nat} (hq : Pr q) (hn : n = R * q + 1) (h0 : 0 < R) (hR : R < 2 ^ f) (hn2 : n - 1 < 2 ^ f) (h1 : pm n f a (n - 1) = 1) (h2 : Nat.gcd (pm n f a R + n - 1) n = 1) (hK : n < (q * (K + 1) + 1) * (q * (K + 1) + 1)) (hk : ∀ k, k < K → n % (q * (k + 1) + 1) ≠ 0) : Pr n :=
  have h := tst hR hn2 h1 h2
  pock hq hn h0 h.1 h.2 hK hk
theorem pr1 : Pr 1919519569386763 :=
  pockT (R := (1919519569386763 - 1) / 8574133) (a := 2) (f := 60) (K := 6) pr0 (by decide +kernel) (by decide +kernel) (by decide +kernel) (by decide +kernel) (by decide +kernel) (by decide +kernel) (by decide +kernel) (by decide +kernel)
theorem pr2 : Pr 75445702479781427272750846543864801 :=
  pockT (R := (75445702479781427272750846543864801 - 1) / 1919519569386763) (a := 2) (f := 130) (K := 150) pr1 (by decide +kernel) (by decide +kernel) (by decide +kernel) (by decide +kernel) (by decide +kernel) (by decide +kernel) (by decide +kernel) (by decide +kernel)
theorem pr3 : Pr 74058212732561358302231226437062788676166966415465897661863160754340907 :=
  pockT (R := (74058212732561358302231226437062788676166966415465897661863160754340907 - 1) / 75445702479781427272750846543864801) (a := 2) (f := 240) (K := 5) pr2 (by decide +kernel) (by decide +kernel) (by decide +kernel) (by decide +kernel) (by decide +kernel) (by decide +kernel) (by decide +kernel) (by decide +kernel)
def P25519 : Nat := 57896044618658097711785492504343953926634992332820282019728792003956564819949
theorem pr4 : Pr P25519 :=
  pockT (R := (P25519 - 1) / 74058212732561358302231226437062788676166966415465897661863160754340907) (a := 2) (f := 256) (K := 0) pr3 (by decide +kernel) (by decide +kernel) (by decide +kernel) (by decide +kernel) (by decide +kernel) (by decide +kernel) (by decide +kernel) (by decide +kernel)
/-- What is not 0 has an inverse. -/
theorem inv_mul {x : Nat} (h : x % P25519 ≠ 0) : x * x ^ (P25519 - 2) % P25519 = 1 := by
  rw [← Nat.pow_succ', show (P25519 - 2).succ = P25519 - 1 by decide +kernel]
  exact fermat pr4 (fun hd => h (Nat.mod_eq_zero_of_dvd hd))
end Go.Sh
/- field: numbers of five words, plainly. -/
namespace Go.Sh
set_option linter.unusedSimpArgs false
set_option maxHeartbeats 4000000

theorem shr_i64 {a : UInt64} {n : Int} {m : Nat} (h : n = (m : Int)) : snum .shr (.u64 a) (.i n) = some (.u64 (shr64 a m)) := by
  subst h; simp [snum, cnt, sshr]
theorem shl_i64 {a : UInt64} {n : Int} {m : Nat} (h : n = (m : Int)) : snum .shl (.u64 a) (.i n) = some (.u64 (shl64 a m)) := by
  subst h; simp [snum, cnt, sshl]
theorem shr_n (x : UInt64) (n : Nat) (h : n < 64) : (shr64 x n).toNat = x.toNat / 2 ^ n := by
  unfold shr64
  rw [if_pos h, UInt64.toNat_shiftRight, UInt64.toNat_ofNat', show n % 2 ^ 64 % 64 = n by omega, Nat.shiftRight_eq_div_pow]
theorem shl_n (x : UInt64) (n : Nat) (h : n < 64) : (shl64 x n).toNat = x.toNat * 2 ^ n % 2 ^ 64 := by
  unfold shl64
  rw [if_pos h, UInt64.toNat_shiftLeft, UInt64.toNat_ofNat', show n % 2 ^ 64 % 64 = n by omega, Nat.shiftLeft_eq]
theorem msk_n (x : UInt64) : (x &&& 2251799813685247).toNat = x.toNat % 2251799813685248 := by
  rw [UInt64.toNat_and]
  exact Nat.and_two_pow_sub_one_eq_mod x.toNat 51
theorem add_n (x y : UInt64) (h : x.toNat + y.toNat < 18446744073709551616) : (x + y).toNat = x.toNat + y.toNat := by
  rw [UInt64.toNat_add]; exact Nat.mod_eq_of_lt h
theorem mul_n (x y : UInt64) (h : x.toNat * y.toNat < 18446744073709551616) : (x * y).toNat = x.toNat * y.toNat := by
  rw [UInt64.toNat_mul]; exact Nat.mod_eq_of_lt h
theorem sub_n (x y : UInt64) (h : y.toNat ≤ x.toNat) : (x - y).toNat = x.toNat - y.toNat := UInt64.toNat_sub_of_le _ _ h

/-- The number of five words. -/
def nv (l : List UInt64) : Nat := (l.getD 0 0).toNat + 2251799813685248 * (l.getD 1 0).toNat + 5070602400912917605986812821504 * (l.getD 2 0).toNat + 11417981541647679048466287755595961091061972992 * (l.getD 3 0).toNat + 25711008708143844408671393477458601640355247900524685364822016 * (l.getD 4 0).toNat
theorem nv_5 (a b c d e : UInt64) : nv [a, b, c, d, e] = a.toNat + 2251799813685248 * b.toNat + 5070602400912917605986812821504 * c.toNat + 11417981541647679048466287755595961091061972992 * d.toNat + 25711008708143844408671393477458601640355247900524685364822016 * e.toNat := rfl
/-- Words that are a number's. -/
def Nm (l : List UInt64) : Prop := l.length = 5 ∧ ∀ x ∈ l, x.toNat < 4503599627370496
def cI (l : List UInt64) : Nat → UInt64
  | 0 => 0
  | i + 1 => shr64 (l.getD i 0 + cI l i) 51
def mI (l : List UInt64) (i : Nat) : UInt64 := (l.getD i 0 + cI l i) &&& 2251799813685247
def car1 (l : List UInt64) : List UInt64 := [mI l 0 + 19 * cI l 5, mI l 1, mI l 2, mI l 3, mI l 4]
def carL (l : List UInt64) : List UInt64 := car1 (car1 l)
theorem ex5 {α : Type} {l : List α} (h : l.length = 5) : ∃ a b c d e, l = [a, b, c, d, e] := by
  match l, h with
  | [a, b, c, d, e], _ => exact ⟨a, b, c, d, e, rfl⟩
theorem cs1 (x c : UInt64) (hx : x.toNat < 9223372036854775808) (hc : c.toNat < 8192) : (shr64 (x + c) 51).toNat = (x.toNat + c.toNat) / 2251799813685248 ∧ ((x + c) &&& 2251799813685247).toNat = (x.toNat + c.toNat) % 2251799813685248 := by
  have h := add_n x c (by omega)
  rw [shr_n _ _ (by decide), msk_n, h]
  exact ⟨rfl, rfl⟩
theorem car1_val {a b c d e : UInt64} (ha : a.toNat < 9223372036854775808) (hb : b.toNat < 9223372036854775808) (hc : c.toNat < 9223372036854775808) (hd : d.toNat < 9223372036854775808) (he : e.toNat < 9223372036854775808) :
    ∃ m0 m1 m2 m3 m4 : UInt64, ∃ q : Nat, car1 [a, b, c, d, e] = [m0, m1, m2, m3, m4] ∧ nv [a, b, c, d, e] = nv [m0, m1, m2, m3, m4] + q * P25519 ∧ q ≤ (e.toNat + 8191) / 2251799813685248 ∧
      m0.toNat < 2251799813685248 + 19 * q ∧ m1.toNat < 2251799813685248 ∧ m2.toNat < 2251799813685248 ∧ m3.toNat < 2251799813685248 ∧ m4.toNat < 2251799813685248 ∧
      (b.toNat < 2251799813685248 → c.toNat < 2251799813685248 → d.toNat < 2251799813685248 → e.toNat < 2251799813685248 → a.toNat < 4503599627370496 → q ≤ 1) := by
  obtain ⟨c1, h1⟩ : ∃ c1, c1 = cI [a, b, c, d, e] 1 := ⟨_, rfl⟩
  obtain ⟨c2, h2⟩ : ∃ c2, c2 = cI [a, b, c, d, e] 2 := ⟨_, rfl⟩
  obtain ⟨c3, h3⟩ : ∃ c3, c3 = cI [a, b, c, d, e] 3 := ⟨_, rfl⟩
  obtain ⟨c4, h4⟩ : ∃ c4, c4 = cI [a, b, c, d, e] 4 := ⟨_, rfl⟩
  obtain ⟨c5, h5⟩ : ∃ c5, c5 = cI [a, b, c, d, e] 5 := ⟨_, rfl⟩
  have e1 : c1 = shr64 (a + 0) 51 := h1
  have e2 : c2 = shr64 (b + c1) 51 := by rw [h1]; exact h2
  have e3 : c3 = shr64 (c + c2) 51 := by rw [h2]; exact h3
  have e4 : c4 = shr64 (d + c3) 51 := by rw [h3]; exact h4
  have e5 : c5 = shr64 (e + c4) 51 := by rw [h4]; exact h5
  obtain ⟨q1, r1⟩ := cs1 a 0 ha (by decide)
  rw [← e1] at q1
  rw [show (0 : UInt64).toNat = 0 from rfl] at q1 r1
  obtain ⟨q2, r2⟩ := cs1 b c1 hb (by omega)
  rw [← e2] at q2
  obtain ⟨q3, r3⟩ := cs1 c c2 hc (by omega)
  rw [← e3] at q3
  obtain ⟨q4, r4⟩ := cs1 d c3 hd (by omega)
  rw [← e4] at q4
  obtain ⟨q5, r5⟩ := cs1 e c4 he (by omega)
  rw [← e5] at q5
  have hm : (19 * c5).toNat = 19 * c5.toNat := mul_n 19 c5 (by show 19 * c5.toNat < _; omega)
  have hz : (((a + 0) &&& 2251799813685247) + 19 * c5).toNat = a.toNat % 2251799813685248 + 19 * c5.toNat := by
    rw [add_n _ _ (by omega), r1, hm, Nat.add_zero]
  refine ⟨((a + 0) &&& 2251799813685247) + 19 * c5, (b + c1) &&& 2251799813685247, (c + c2) &&& 2251799813685247, (d + c3) &&& 2251799813685247, (e + c4) &&& 2251799813685247, c5.toNat, ?_, ?_, ?_, ?_, ?_, ?_, ?_, ?_, ?_⟩
  · rw [h1, h2, h3, h4, h5]; rfl
  · rw [nv_5, nv_5, hz, r2, r3, r4, r5]
    unfold P25519
    omega
  all_goals omega
theorem carL_ok {l : List UInt64} (h : l.length = 5) (hb : ∀ x ∈ l, x.toNat < 9223372036854775808) : Nm (carL l) ∧ nv (carL l) % P25519 = nv l % P25519 := by
  obtain ⟨a, b, c, d, e, rfl⟩ := ex5 h
  simp only [List.mem_cons, List.not_mem_nil, or_false, forall_eq_or_imp, forall_eq] at hb
  obtain ⟨ha, hb, hc, hd, he⟩ := hb
  obtain ⟨m0, m1, m2, m3, m4, q, e1, n1, hq, b0, b1, b2, b3, b4, _⟩ := car1_val ha hb hc hd he
  obtain ⟨k0, k1, k2, k3, k4, q2, e2, n2, hq2, d0, d1, d2, d3, d4, hle⟩ := car1_val (a := m0) (b := m1) (c := m2) (d := m3) (e := m4) (by omega) (by omega) (by omega) (by omega) (by omega)
  have hle := hle b1 b2 b3 b4 (by omega)
  have ec : carL [a, b, c, d, e] = [k0, k1, k2, k3, k4] := by unfold carL; rw [e1, e2]
  rw [ec]
  refine ⟨⟨rfl, ?_⟩, ?_⟩
  · simp only [List.mem_cons, List.not_mem_nil, or_false, forall_eq_or_imp, forall_eq]
    refine ⟨?_, ?_, ?_, ?_, ?_⟩ <;> omega
  · rw [n1, n2, Nat.add_mul_mod_self_right, Nat.add_mul_mod_self_right]
theorem carL_len (l : List UInt64) : (carL l).length = 5 := rfl
theorem Nm.b {a b c d e : UInt64} (h : Nm [a, b, c, d, e]) : a.toNat < 4503599627370496 ∧ b.toNat < 4503599627370496 ∧ c.toNat < 4503599627370496 ∧ d.toNat < 4503599627370496 ∧ e.toNat < 4503599627370496 := by
  have := h.2
  simpa only [List.mem_cons, List.not_mem_nil, or_false, forall_eq_or_imp, forall_eq] using this
/-- The residue. -/
def nr (l : List UInt64) : Nat := nv l % P25519
def addL (x y : List UInt64) : List UInt64 := carL [x.getD 0 0 + y.getD 0 0, x.getD 1 0 + y.getD 1 0, x.getD 2 0 + y.getD 2 0, x.getD 3 0 + y.getD 3 0, x.getD 4 0 + y.getD 4 0]
theorem addL_ok {x y : List UInt64} (hx : Nm x) (hy : Nm y) : Nm (addL x y) ∧ nr (addL x y) = (nr x + nr y) % P25519 := by
  obtain ⟨a, b, c, d, e, rfl⟩ := ex5 hx.1
  obtain ⟨a2, b2, c2, d2, e2, rfl⟩ := ex5 hy.1
  obtain ⟨h1, h2, h3, h4, h5⟩ := hx.b
  obtain ⟨g1, g2, g3, g4, g5⟩ := hy.b
  have n1 := add_n a a2 (by omega)
  have n2 := add_n b b2 (by omega)
  have n3 := add_n c c2 (by omega)
  have n4 := add_n d d2 (by omega)
  have n5 := add_n e e2 (by omega)
  have := carL_ok (l := [a + a2, b + b2, c + c2, d + d2, e + e2]) rfl (by
    simp only [List.mem_cons, List.not_mem_nil, or_false, forall_eq_or_imp, forall_eq]
    refine ⟨?_, ?_, ?_, ?_, ?_⟩ <;> omega)
  refine ⟨this.1, ?_⟩
  have e1 : nr (addL [a, b, c, d, e] [a2, b2, c2, d2, e2]) = nv [a + a2, b + b2, c + c2, d + d2, e + e2] % P25519 := this.2
  rw [e1]
  unfold nr
  rw [← Nat.add_mod, nv_5, nv_5, nv_5, n1, n2, n3, n4, n5]
  congr 1; omega
def subL (x y : List UInt64) : List UInt64 := carL [x.getD 0 0 + (9007199254740988 - y.getD 0 0) - 72, x.getD 1 0 + (9007199254740988 - y.getD 1 0), x.getD 2 0 + (9007199254740988 - y.getD 2 0), x.getD 3 0 + (9007199254740988 - y.getD 3 0), x.getD 4 0 + (9007199254740988 - y.getD 4 0)]
theorem sb1 (x y : UInt64) (hx : x.toNat < 4503599627370496) (hy : y.toNat < 4503599627370496) : (x + (9007199254740988 - y)).toNat = x.toNat + 9007199254740988 - y.toNat := by
  have h1 : (9007199254740988 - y).toNat = 9007199254740988 - y.toNat := sub_n _ _ (by show _ ≤ 9007199254740988; omega)
  rw [add_n _ _ (by omega), h1]; omega
theorem mod_lt_P (n : Nat) : n % P25519 < P25519 := Nat.mod_lt _ (by decide)
theorem subL_ok {x y : List UInt64} (hx : Nm x) (hy : Nm y) : Nm (subL x y) ∧ nr (subL x y) = (nr x + (P25519 - nr y)) % P25519 := by
  obtain ⟨a, b, c, d, e, rfl⟩ := ex5 hx.1
  obtain ⟨a2, b2, c2, d2, e2, rfl⟩ := ex5 hy.1
  obtain ⟨h1, h2, h3, h4, h5⟩ := hx.b
  obtain ⟨g1, g2, g3, g4, g5⟩ := hy.b
  have n1 := sb1 a a2 (by omega) (by omega)
  have n2 := sb1 b b2 (by omega) (by omega)
  have n3 := sb1 c c2 (by omega) (by omega)
  have n4 := sb1 d d2 (by omega) (by omega)
  have n5 := sb1 e e2 (by omega) (by omega)
  have n6 : (a + (9007199254740988 - a2) - 72).toNat = a.toNat + 9007199254740988 - a2.toNat - 72 := by
    rw [sub_n _ _ (by rw [n1]; show 72 ≤ _; omega), n1]; rfl
  have := carL_ok (l := [a + (9007199254740988 - a2) - 72, b + (9007199254740988 - b2), c + (9007199254740988 - c2), d + (9007199254740988 - d2), e + (9007199254740988 - e2)]) rfl (by
    simp only [List.mem_cons, List.not_mem_nil, or_false, forall_eq_or_imp, forall_eq]
    refine ⟨?_, ?_, ?_, ?_, ?_⟩ <;> omega)
  refine ⟨this.1, ?_⟩
  have e1 : nr (subL [a, b, c, d, e] [a2, b2, c2, d2, e2]) = nv [a + (9007199254740988 - a2) - 72, b + (9007199254740988 - b2), c + (9007199254740988 - c2), d + (9007199254740988 - d2), e + (9007199254740988 - e2)] % P25519 := this.2
  rw [e1]
  have e3 : nv [a + (9007199254740988 - a2) - 72, b + (9007199254740988 - b2), c + (9007199254740988 - c2), d + (9007199254740988 - d2), e + (9007199254740988 - e2)] + nv [a2, b2, c2, d2, e2] = nv [a, b, c, d, e] + 4 * P25519 := by
    rw [nv_5, nv_5, nv_5, n6, n2, n3, n4, n5]; unfold P25519; omega
  generalize nv [a + (9007199254740988 - a2) - 72, b + (9007199254740988 - b2), c + (9007199254740988 - c2), d + (9007199254740988 - d2), e + (9007199254740988 - e2)] = z at e3 ⊢
  unfold nr
  generalize nv [a, b, c, d, e] = x at e3 ⊢
  generalize nv [a2, b2, c2, d2, e2] = y at e3 ⊢
  unfold P25519 at *
  omega

/-! ### Products -/
/-- A sum's carry. -/
def cy (x y : UInt64) : UInt64 := UInt64.ofNat ((x.toNat + y.toNat) / 18446744073709551616)
def mhi (x y : UInt64) : UInt64 := UInt64.ofNat (x.toNat * y.toNat / 18446744073709551616)
/-- The j-th word of y, as it stands beside the i-th one of x. -/
def yw (y : List UInt64) (i k : Nat) : UInt64 := if i ≤ k then y.getD (k - i) 0 else y.getD (k + 5 - i) 0 * 19
def lo (x y : List UInt64) : Nat → Nat → UInt64
  | 0, _ => 0
  | i + 1, k => lo x y i k + x.getD i 0 * yw y i k
def hi (x y : List UInt64) : Nat → Nat → UInt64
  | 0, _ => 0
  | i + 1, k => hi x y i k + mhi (x.getD i 0) (yw y i k) + cy (lo x y i k) (x.getD i 0 * yw y i k)
/-- What a column comes to. -/
def col (x y : List UInt64) : Nat → Nat → Nat
  | 0, _ => 0
  | i + 1, k => col x y i k + (x.getD i 0).toNat * (yw y i k).toNat
theorem cy_n (x y : UInt64) : (cy x y).toNat = (x.toNat + y.toNat) / 18446744073709551616 := by
  have h1 := UInt64.toNat_lt x
  have h2 := UInt64.toNat_lt y
  unfold cy; rw [UInt64.toNat_ofNat', Nat.mod_eq_of_lt]; omega
theorem mhi_n (x y : UInt64) : (mhi x y).toNat = x.toNat * y.toNat / 18446744073709551616 := by
  have h1 := UInt64.toNat_lt x
  have h2 := UInt64.toNat_lt y
  have : x.toNat * y.toNat < 18446744073709551616 * 18446744073709551616 := Nat.mul_lt_mul'' h1 h2
  unfold mhi; rw [UInt64.toNat_ofNat', Nat.mod_eq_of_lt]; omega
theorem hilo (x y : List UInt64) (k M : Nat) (hM : ∀ i, i < 5 → (x.getD i 0).toNat * (yw y i k).toNat < M) (hM2 : M ≤ 649037107316853453566312041152512) : ∀ i, i ≤ 5 → (hi x y i k).toNat * 18446744073709551616 + (lo x y i k).toNat = col x y i k ∧ col x y i k ≤ i * M
  | 0, _ => by simp [hi, lo, col]
  | i + 1, h => by
    obtain ⟨ih, ihb⟩ := hilo x y k M hM hM2 i (by omega)
    have hm := hM i (by omega)
    show (hi x y i k + mhi (x.getD i 0) (yw y i k) + cy (lo x y i k) (x.getD i 0 * yw y i k)).toNat * _ + (lo x y i k + x.getD i 0 * yw y i k).toNat = col x y i k + _ ∧ col x y i k + _ ≤ _
    generalize x.getD i 0 = a at *
    generalize yw y i k = b at *
    generalize hi x y i k = H at *
    generalize lo x y i k = L at *
    generalize col x y i k = C at *
    have h1 := mhi_n a b
    have h2 := cy_n L (a * b)
    have h3 : (a * b).toNat = a.toNat * b.toNat % 18446744073709551616 := UInt64.toNat_mul ..
    have hL := UInt64.toNat_lt L
    have h4 : (L + a * b).toNat = (L.toNat + (a * b).toNat) % 18446744073709551616 := UInt64.toNat_add ..
    generalize a.toNat * b.toNat = p at *
    have hiM : i * M ≤ 4 * M := Nat.mul_le_mul_right M (by omega)
    have h5 : (H + mhi a b).toNat = H.toNat + (mhi a b).toNat := add_n _ _ (by omega)
    have h6 : (H + mhi a b + cy L (a * b)).toNat = H.toNat + (mhi a b).toNat + (cy L (a * b)).toNat := by rw [add_n _ _ (by omega), h5]
    rw [h6, h4, Nat.add_mul i 1 M]
    omega
def cO (x y : List UInt64) : Nat → UInt64
  | 0 => 0
  | k + 1 => shl64 (hi x y 5 k + cy (lo x y 5 k) (cO x y k)) 13 ||| shr64 (lo x y 5 k + cO x y k) 51
def oO (x y : List UInt64) (k : Nat) : UInt64 := (lo x y 5 k + cO x y k) &&& 2251799813685247
def mulL (x y : List UInt64) : List UInt64 := carL [oO x y 0 + 19 * cO x y 5, oO x y 1, oO x y 2, oO x y 3, oO x y 4]
theorem shl_or_shr (h l : UInt64) (hh : h.toNat < 2251799813685248) : (shl64 h 13 ||| shr64 l 51).toNat = h.toNat * 8192 + l.toNat / 2251799813685248 := by
  have hl := UInt64.toNat_lt l
  rw [UInt64.toNat_or, shl_n _ _ (by decide), shr_n _ _ (by decide), Nat.mod_eq_of_lt (by omega), Nat.mul_comm]
  rw [← Nat.two_pow_add_eq_or_of_lt (show l.toNat / 2 ^ 51 < 2 ^ 13 by omega)]
theorem out1 {H L c : UInt64} {C : Nat} (h : H.toNat * 18446744073709551616 + L.toNat = C) (hC : C ≤ 4000000000000000000000000000000000) (hc : c.toNat < 9223372036854775808) :
    (shl64 (H + cy L c) 13 ||| shr64 (L + c) 51).toNat = (C + c.toNat) / 2251799813685248 ∧ ((L + c) &&& 2251799813685247).toNat = (C + c.toNat) % 2251799813685248 := by
  have hL := UInt64.toNat_lt L
  have h2 := cy_n L c
  have h4 : (L + c).toNat = (L.toNat + c.toNat) % 18446744073709551616 := UInt64.toNat_add ..
  have h5 : (H + cy L c).toNat = H.toNat + (cy L c).toNat := add_n _ _ (by omega)
  rw [shl_or_shr _ _ (by omega), msk_n, h4, h5]
  omega
theorem mulId (s P a b c d e f g h i j : Nat) (hP : P + 19 = s * s * s * s * s) :
  (a * f + b * (j * 19) + c * (i * 19) + d * (h * 19) + e * (g * 19)) + s * (a * g + b * f + c * (j * 19) + d * (i * 19) + e * (h * 19)) + s * s * (a * h + b * g + c * f + d * (j * 19) + e * (i * 19)) + s * s * s * (a * i + b * h + c * g + d * f + e * (j * 19)) + s * s * s * s * (a * j + b * i + c * h + d * g + e * f)
   + (b * j + c * i + d * h + e * g + s * (c * j + d * i + e * h) + s * s * (d * j + e * i) + s * s * s * (e * j)) * P
  = (a + s * b + s * s * c + s * s * s * d + s * s * s * s * e) * (f + s * g + s * s * h + s * s * s * i + s * s * s * s * j) := by
  grind
theorem mulL_ok {x y : List UInt64} (hx : Nm x) (hy : Nm y) : Nm (mulL x y) ∧ nr (mulL x y) = nr x * nr y % P25519 := by
  obtain ⟨a, b, c, d, e, rfl⟩ := ex5 hx.1
  obtain ⟨f, g, h, i, j, rfl⟩ := ex5 hy.1
  obtain ⟨a1, b1, c1, d1, e1⟩ := hx.b
  obtain ⟨f1, g1, h1, i1, j1⟩ := hy.b
  have m19 : ∀ z : UInt64, z.toNat < 4503599627370496 → (z * 19).toNat = z.toNat * 19 := fun z hz => mul_n z 19 (by show z.toNat * 19 < _; omega)
  have hx0 : ∀ n, n < 5 → (([a, b, c, d, e] : List UInt64).getD n 0).toNat < 4503599627370496 := by
    intro n hn
    match n, hn with
    | 0, _ => exact a1
    | 1, _ => exact b1
    | 2, _ => exact c1
    | 3, _ => exact d1
    | 4, _ => exact e1
  have hy0 : ∀ n, n < 5 → (([f, g, h, i, j] : List UInt64).getD n 0).toNat < 4503599627370496 := by
    intro n hn
    match n, hn with
    | 0, _ => exact f1
    | 1, _ => exact g1
    | 2, _ => exact h1
    | 3, _ => exact i1
    | 4, _ => exact j1
  have hyw : ∀ n k, n < 5 → k < 5 → (yw [f, g, h, i, j] n k).toNat < 4503599627370496 * 19 := by
    intro n k hn hk
    unfold yw
    split
    · have := hy0 (k - n) (by omega); omega
    · have := hy0 (k + 5 - n) (by omega)
      rw [m19 _ this]; omega
  have hyw4 : ∀ n, n < 5 → (yw [f, g, h, i, j] n 4).toNat < 4503599627370496 := by
    intro n hn
    unfold yw
    rw [if_pos (by omega)]
    exact hy0 _ (by omega)
  have hp : ∀ k, k < 5 → ∀ n, n < 5 → (([a, b, c, d, e] : List UInt64).getD n 0).toNat * (yw [f, g, h, i, j] n k).toNat < 4503599627370496 * (4503599627370496 * 19) := fun k hk n hn => Nat.mul_lt_mul'' (hx0 n hn) (hyw n k hn hk)
  have hp4 : ∀ n, n < 5 → (([a, b, c, d, e] : List UInt64).getD n 0).toNat * (yw [f, g, h, i, j] n 4).toNat < 4503599627370496 * 4503599627370496 := fun n hn => Nat.mul_lt_mul'' (hx0 n hn) (hyw4 n hn)
  have hcol : ∀ k, k < 5 → _ := fun k hk => hilo [a, b, c, d, e] [f, g, h, i, j] k _ (hp k hk) (by decide) 5 (by omega)
  obtain ⟨q0, r0⟩ := hcol 0 (by omega)
  obtain ⟨q1, r1⟩ := hcol 1 (by omega)
  obtain ⟨q2, r2⟩ := hcol 2 (by omega)
  obtain ⟨q3, r3⟩ := hcol 3 (by omega)
  obtain ⟨q4, r4⟩ := hilo [a, b, c, d, e] [f, g, h, i, j] 4 _ hp4 (by decide) 5 (by omega)
  clear hcol hp hp4
  have k0 : col [a, b, c, d, e] [f, g, h, i, j] 5 0 = a.toNat * f.toNat + b.toNat * (j.toNat * 19) + c.toNat * (i.toNat * 19) + d.toNat * (h.toNat * 19) + e.toNat * (g.toNat * 19) := by
    rw [← m19 j j1, ← m19 i i1, ← m19 h h1, ← m19 g g1, ← Nat.zero_add (a.toNat * f.toNat)]; rfl
  have k1 : col [a, b, c, d, e] [f, g, h, i, j] 5 1 = a.toNat * g.toNat + b.toNat * f.toNat + c.toNat * (j.toNat * 19) + d.toNat * (i.toNat * 19) + e.toNat * (h.toNat * 19) := by
    rw [← m19 j j1, ← m19 i i1, ← m19 h h1, ← Nat.zero_add (a.toNat * g.toNat)]; rfl
  have k2 : col [a, b, c, d, e] [f, g, h, i, j] 5 2 = a.toNat * h.toNat + b.toNat * g.toNat + c.toNat * f.toNat + d.toNat * (j.toNat * 19) + e.toNat * (i.toNat * 19) := by
    rw [← m19 j j1, ← m19 i i1, ← Nat.zero_add (a.toNat * h.toNat)]; rfl
  have k3 : col [a, b, c, d, e] [f, g, h, i, j] 5 3 = a.toNat * i.toNat + b.toNat * h.toNat + c.toNat * g.toNat + d.toNat * f.toNat + e.toNat * (j.toNat * 19) := by
    rw [← m19 j j1, ← Nat.zero_add (a.toNat * i.toNat)]; rfl
  have k4 : col [a, b, c, d, e] [f, g, h, i, j] 5 4 = a.toNat * j.toNat + b.toNat * i.toNat + c.toNat * h.toNat + d.toNat * g.toNat + e.toNat * f.toNat := by
    rw [← Nat.zero_add (a.toNat * j.toNat)]; rfl
  obtain ⟨z0, hz0⟩ : ∃ z, z = cO [a, b, c, d, e] [f, g, h, i, j] 0 := ⟨_, rfl⟩
  obtain ⟨z1, hz1⟩ : ∃ z, z = cO [a, b, c, d, e] [f, g, h, i, j] 1 := ⟨_, rfl⟩
  obtain ⟨z2, hz2⟩ : ∃ z, z = cO [a, b, c, d, e] [f, g, h, i, j] 2 := ⟨_, rfl⟩
  obtain ⟨z3, hz3⟩ : ∃ z, z = cO [a, b, c, d, e] [f, g, h, i, j] 3 := ⟨_, rfl⟩
  obtain ⟨z4, hz4⟩ : ∃ z, z = cO [a, b, c, d, e] [f, g, h, i, j] 4 := ⟨_, rfl⟩
  obtain ⟨z5, hz5⟩ : ∃ z, z = cO [a, b, c, d, e] [f, g, h, i, j] 5 := ⟨_, rfl⟩
  have y0 : z0.toNat = 0 := by rw [hz0]; rfl
  obtain ⟨s0, t0⟩ := out1 (c := z0) q0 (by omega) (by omega)
  obtain ⟨s1, t1⟩ := out1 (c := z1) q1 (by omega) (by rw [hz1]; show (shl64 _ _ ||| _).toNat < _; rw [← hz0, s0]; omega)
  have y1 : z1.toNat = (col [a, b, c, d, e] [f, g, h, i, j] 5 0 + z0.toNat) / 2251799813685248 := by rw [← s0, hz0]; rw [hz1]; rfl
  obtain ⟨s2, t2⟩ := out1 (c := z2) q2 (by omega) (by rw [hz2]; show (shl64 _ _ ||| _).toNat < _; rw [← hz1, s1]; omega)
  have y2 : z2.toNat = (col [a, b, c, d, e] [f, g, h, i, j] 5 1 + z1.toNat) / 2251799813685248 := by rw [← s1, hz1]; rw [hz2]; rfl
  obtain ⟨s3, t3⟩ := out1 (c := z3) q3 (by omega) (by rw [hz3]; show (shl64 _ _ ||| _).toNat < _; rw [← hz2, s2]; omega)
  have y3 : z3.toNat = (col [a, b, c, d, e] [f, g, h, i, j] 5 2 + z2.toNat) / 2251799813685248 := by rw [← s2, hz2]; rw [hz3]; rfl
  obtain ⟨s4, t4⟩ := out1 (c := z4) q4 (by omega) (by rw [hz4]; show (shl64 _ _ ||| _).toNat < _; rw [← hz3, s3]; omega)
  have y4 : z4.toNat = (col [a, b, c, d, e] [f, g, h, i, j] 5 3 + z3.toNat) / 2251799813685248 := by rw [← s3, hz3]; rw [hz4]; rfl
  have y5 : z5.toNat = (col [a, b, c, d, e] [f, g, h, i, j] 5 4 + z4.toNat) / 2251799813685248 := by rw [← s4, hz4]; rw [hz5]; rfl
  have o0 : (oO [a, b, c, d, e] [f, g, h, i, j] 0).toNat = (col [a, b, c, d, e] [f, g, h, i, j] 5 0 + z0.toNat) % 2251799813685248 := by rw [← t0, hz0]; rfl
  have o1 : (oO [a, b, c, d, e] [f, g, h, i, j] 1).toNat = (col [a, b, c, d, e] [f, g, h, i, j] 5 1 + z1.toNat) % 2251799813685248 := by rw [← t1, hz1]; rfl
  have o2 : (oO [a, b, c, d, e] [f, g, h, i, j] 2).toNat = (col [a, b, c, d, e] [f, g, h, i, j] 5 2 + z2.toNat) % 2251799813685248 := by rw [← t2, hz2]; rfl
  have o3 : (oO [a, b, c, d, e] [f, g, h, i, j] 3).toNat = (col [a, b, c, d, e] [f, g, h, i, j] 5 3 + z3.toNat) % 2251799813685248 := by rw [← t3, hz3]; rfl
  have o4 : (oO [a, b, c, d, e] [f, g, h, i, j] 4).toNat = (col [a, b, c, d, e] [f, g, h, i, j] 5 4 + z4.toNat) % 2251799813685248 := by rw [← t4, hz4]; rfl
  clear s0 s1 s2 s3 s4 t0 t1 t2 t3 t4 q0 q1 q2 q3 q4
  have w0 : (19 * z5).toNat = 19 * z5.toNat := mul_n 19 z5 (by show 19 * z5.toNat < _; omega)
  have w1 : (oO [a, b, c, d, e] [f, g, h, i, j] 0 + 19 * z5).toNat = (oO [a, b, c, d, e] [f, g, h, i, j] 0).toNat + 19 * z5.toNat := by rw [add_n _ _ (by omega), w0]
  have := carL_ok (l := [oO [a, b, c, d, e] [f, g, h, i, j] 0 + 19 * z5, oO [a, b, c, d, e] [f, g, h, i, j] 1, oO [a, b, c, d, e] [f, g, h, i, j] 2, oO [a, b, c, d, e] [f, g, h, i, j] 3, oO [a, b, c, d, e] [f, g, h, i, j] 4]) rfl (by
    simp only [List.mem_cons, List.not_mem_nil, or_false, forall_eq_or_imp, forall_eq]
    refine ⟨?_, ?_, ?_, ?_, ?_⟩ <;> omega)
  have em : mulL [a, b, c, d, e] [f, g, h, i, j] = carL [oO [a, b, c, d, e] [f, g, h, i, j] 0 + 19 * z5, oO [a, b, c, d, e] [f, g, h, i, j] 1, oO [a, b, c, d, e] [f, g, h, i, j] 2, oO [a, b, c, d, e] [f, g, h, i, j] 3, oO [a, b, c, d, e] [f, g, h, i, j] 4] := by rw [hz5]; rfl
  refine ⟨by rw [em]; exact this.1, ?_⟩
  unfold nr
  rw [em, this.2, ← Nat.mul_mod, nv_5, w1]
  generalize oO [a, b, c, d, e] [f, g, h, i, j] 0 = v0 at *
  generalize oO [a, b, c, d, e] [f, g, h, i, j] 1 = v1 at *
  generalize oO [a, b, c, d, e] [f, g, h, i, j] 2 = v2 at *
  generalize oO [a, b, c, d, e] [f, g, h, i, j] 3 = v3 at *
  generalize oO [a, b, c, d, e] [f, g, h, i, j] 4 = v4 at *
  generalize col [a, b, c, d, e] [f, g, h, i, j] 5 0 = C0 at *
  generalize col [a, b, c, d, e] [f, g, h, i, j] 5 1 = C1 at *
  generalize col [a, b, c, d, e] [f, g, h, i, j] 5 2 = C2 at *
  generalize col [a, b, c, d, e] [f, g, h, i, j] 5 3 = C3 at *
  generalize col [a, b, c, d, e] [f, g, h, i, j] 5 4 = C4 at *
  have hsum : v0.toNat + 19 * z5.toNat + 2251799813685248 * v1.toNat + 5070602400912917605986812821504 * v2.toNat + 11417981541647679048466287755595961091061972992 * v3.toNat + 25711008708143844408671393477458601640355247900524685364822016 * v4.toNat + z5.toNat * P25519 = C0 + 2251799813685248 * C1 + 5070602400912917605986812821504 * C2 + 11417981541647679048466287755595961091061972992 * C3 + 25711008708143844408671393477458601640355247900524685364822016 * C4 := by
    unfold P25519; omega
  rw [← Nat.add_mul_mod_self_right _ z5.toNat, hsum, k0, k1, k2, k3, k4, nv_5, nv_5]
  have hid := mulId 2251799813685248 P25519 a.toNat b.toNat c.toNat d.toNat e.toNat f.toNat g.toNat h.toNat i.toNat j.toNat (by decide)
  rw [show 5070602400912917605986812821504 = 2251799813685248 * 2251799813685248 by decide, show 11417981541647679048466287755595961091061972992 = 2251799813685248 * 2251799813685248 * 2251799813685248 by decide, show 25711008708143844408671393477458601640355247900524685364822016 = 2251799813685248 * 2251799813685248 * 2251799813685248 * 2251799813685248 by decide, ← hid, Nat.add_mul_mod_self_right]
end Go.Sh
/- field: numbers of parts (the reference's), and bytes, plainly. -/
namespace Go.Sh
set_option linter.unusedSimpArgs false
set_option maxHeartbeats 4000000

/-- The first i parts of b bits each. -/
def pv (B : Nat) (l : Nat → Nat) : Nat → Nat
  | 0 => 0
  | i + 1 => pv B l i + l i * B ^ i
theorem pv_lt {B : Nat} {l : Nat → Nat} (hB : 0 < B) (h : ∀ i, l i < B) : ∀ n, pv B l n < B ^ n
  | 0 => by simp [pv]
  | n + 1 => by
    have ih := pv_lt hB h n
    have h2 : l n * B ^ n ≤ (B - 1) * B ^ n := Nat.mul_le_mul_right _ (by have := h n; omega)
    have h3 : (B - 1) * B ^ n + B ^ n = B ^ (n + 1) := by
      rw [Nat.pow_succ, Nat.mul_comm (B ^ n) B, ← Nat.succ_mul]; congr 1; omega
    show pv B l n + l n * B ^ n < _
    omega
theorem pv_congr {B : Nat} {l m : Nat → Nat} : ∀ n, (∀ i, i < n → l i = m i) → pv B l n = pv B m n
  | 0, _ => rfl
  | n + 1, h => by
    show pv B l n + l n * _ = pv B m n + m n * _
    rw [pv_congr n (fun i hi => h i (by omega)), h n (by omega)]
theorem pv_dig {B : Nat} {l : Nat → Nat} (hB : 0 < B) (h : ∀ i, l i < B) : ∀ n i, i < n → pv B l n / B ^ i % B = l i
  | n + 1, i, hi => by
    show (pv B l n + l n * B ^ n) / B ^ i % B = _
    by_cases he : i = n
    · subst he
      rw [Nat.add_mul_div_right _ _ (Nat.pow_pos hB), Nat.div_eq_of_lt (pv_lt hB h i), Nat.zero_add, Nat.mod_eq_of_lt (h i)]
    · have e : B ^ n = B ^ (n - i - 1) * B * B ^ i := by rw [← Nat.pow_succ, ← Nat.pow_add]; congr 1; omega
      rw [e, ← Nat.mul_assoc, Nat.add_mul_div_right _ _ (Nat.pow_pos hB), ← Nat.mul_assoc, Nat.add_mul_mod_self_right]
      exact pv_dig hB h n i (by omega)
theorem pv_of {B : Nat} (hB : 0 < B) (v : Nat) : ∀ n, pv B (fun i => v / B ^ i % B) n = v % B ^ n
  | 0 => by simp [pv, Nat.mod_one]
  | n + 1 => by
    show pv B _ n + v / B ^ n % B * B ^ n = _
    rw [pv_of hB v n, Nat.pow_succ, Nat.mod_mul, Nat.mul_comm (v / B ^ n % B)]
/-- The parts of a number. -/
def dg (v : Nat) : List UInt64 := (List.range 16).map fun i => UInt64.ofNat (v / 65536 ^ i % 65536)
def rv (l : List UInt64) : Nat := pv 65536 (fun i => (l.getD i 0).toNat) 16
theorem dg_len (v : Nat) : (dg v).length = 16 := rng_len
theorem dg_get (v i : Nat) (h : i < 16) : ((dg v).getD i 0).toNat = v / 65536 ^ i % 65536 := by
  unfold dg; rw [rng_getD h, UInt64.toNat_ofNat', Nat.mod_eq_of_lt]
  have := Nat.mod_lt (v / 65536 ^ i) (show 0 < 65536 by decide)
  omega
theorem rv_dg (v : Nat) (h : v < 65536 ^ 16) : rv (dg v) = v := by
  unfold rv
  rw [pv_congr (m := fun i => v / 65536 ^ i % 65536) 16 (fun i hi => dg_get v i hi), pv_of (by decide), Nat.mod_eq_of_lt h]
theorem dg_rv {l : List UInt64} (hl : l.length = 16) (h : ∀ i, i < 16 → (l.getD i 0).toNat < 65536) : l = dg (rv l) := by
  apply List.ext_getElem (by rw [hl, dg_len])
  intro i h1 h2
  apply UInt64.toNat_inj.mp
  have e1 : l[i] = l.getD i 0 := by rw [List.getD_eq_getElem?_getD, List.getElem?_eq_getElem h1]; rfl
  have e2 : (dg (rv l))[i] = (dg (rv l)).getD i 0 := by rw [List.getD_eq_getElem?_getD, List.getElem?_eq_getElem h2]; rfl
  rw [e1, e2, dg_get _ _ (by omega)]
  unfold rv
  have hb : ∀ i, (l.getD i 0).toNat < 65536 := by
    intro j
    by_cases hj : j < 16
    · exact h j hj
    · rw [List.getD_eq_getElem?_getD, List.getElem?_eq_none (by omega)]; decide
  rw [pv_dig (by decide) hb 16 i (by omega)]

/-! ### Carried, a round -/
def rc (l : List UInt64) : Nat → UInt64
  | 0 => 0
  | i + 1 => (l.getD i 0 + rc l i) / 65536
def rdg (l : List UInt64) (i : Nat) : UInt64 := (l.getD i 0 + rc l i) % 65536
/-- A round. -/
def rd1 (l : List UInt64) : List UInt64 := (List.range 16).map fun i => if i = 0 then rdg l 0 + 38 * rc l 16 else rdg l i
def rdN (l : List UInt64) : Nat → List UInt64
  | 0 => l
  | n + 1 => rd1 (rdN l n)
theorem rc_step (x c : UInt64) (hx : x.toNat < 9223372036854775808) (hc : c.toNat < 9223372036854775808) : ((x + c) / 65536).toNat = (x.toNat + c.toNat) / 65536 ∧ ((x + c) % 65536).toNat = (x.toNat + c.toNat) % 65536 := by
  have h := add_n x c (by omega)
  rw [UInt64.toNat_div, UInt64.toNat_mod, h]
  exact ⟨rfl, rfl⟩
theorem rc_val {l : List UInt64} {M : Nat} (hl : ∀ i, i < 16 → (l.getD i 0).toNat < M) (hM : M ≤ 4611686018427387904) : ∀ i, i ≤ 16 → (rc l i).toNat ≤ M / 32768 ∧ pv 65536 (fun i => (l.getD i 0).toNat) i = pv 65536 (fun i => (rdg l i).toNat) i + (rc l i).toNat * 65536 ^ i
  | 0, _ => ⟨Nat.zero_le _, rfl⟩
  | i + 1, h => by
    obtain ⟨h1, h2⟩ := rc_val hl hM i (by omega)
    have hx := hl i (by omega)
    obtain ⟨g1, g2⟩ := rc_step (l.getD i 0) (rc l i) (by omega) (by omega)
    have e1 : (rc l (i + 1)).toNat = ((l.getD i 0).toNat + (rc l i).toNat) / 65536 := g1
    have e2 : (rdg l i).toNat = ((l.getD i 0).toNat + (rc l i).toNat) % 65536 := g2
    refine ⟨by rw [e1]; omega, ?_⟩
    show pv 65536 _ i + (l.getD i 0).toNat * 65536 ^ i = pv 65536 _ i + (rdg l i).toNat * 65536 ^ i + (rc l (i + 1)).toNat * 65536 ^ (i + 1)
    rw [h2, Nat.pow_succ, Nat.mul_comm (65536 ^ i), ← Nat.mul_assoc, Nat.add_assoc, Nat.add_assoc, ← Nat.add_mul, ← Nat.add_mul]
    congr 2
    rw [e1, e2]; omega
theorem pv_0 {B : Nat} {l m : Nat → Nat} {c : Nat} (h0 : l 0 = m 0 + c) (h : ∀ i, 0 < i → l i = m i) : ∀ n, pv B l (n + 1) = pv B m (n + 1) + c
  | 0 => by simp [pv, h0]
  | n + 1 => by
    show pv B l (n + 1) + l (n + 1) * _ = pv B m (n + 1) + m (n + 1) * _ + c
    rw [pv_0 h0 h n, h (n + 1) (by omega)]; omega
theorem rd1_len (l : List UInt64) : (rd1 l).length = 16 := rng_len
theorem pow_B : (65536 : Nat) ^ 16 = 2 * P25519 + 38 := by decide
theorem rd1_val {l : List UInt64} {M : Nat} (hl : ∀ i, i < 16 → (l.getD i 0).toNat < M) (hM : M ≤ 4611686018427387904) :
    ∃ c, c ≤ M / 32768 ∧ rv l = rv (rd1 l) + 2 * c * P25519 ∧ rv l = rv (rd1 l) - 38 * c + c * 65536 ^ 16 ∧ 38 * c ≤ rv (rd1 l) ∧ rv (rd1 l) - 38 * c < 65536 ^ 16 ∧ ((rd1 l).getD 0 0).toNat < 65536 + 38 * c ∧ ∀ i, 0 < i → i < 16 → ((rd1 l).getD i 0).toNat < 65536 := by
  obtain ⟨h1, h2⟩ := rc_val hl hM 16 (by omega)
  have hd : ∀ i, (rdg l i).toNat < 65536 := fun i => by unfold rdg; rw [UInt64.toNat_mod]; exact Nat.mod_lt _ (by decide)
  have hm : (38 * rc l 16).toNat = 38 * (rc l 16).toNat := mul_n 38 _ (by show 38 * _ < _; omega)
  have h0 : ((rd1 l).getD 0 0).toNat = (rdg l 0).toNat + 38 * (rc l 16).toNat := by
    have : (rd1 l).getD 0 0 = rdg l 0 + 38 * rc l 16 := rfl
    rw [this, add_n _ _ (by have := hd 0; omega), hm]
  have hi : ∀ i, 0 < i → i < 16 → (rd1 l).getD i 0 = rdg l i := by
    intro i h3 h4
    unfold rd1; rw [rng_getD h4, if_neg (by omega)]
  have hrv : rv (rd1 l) = pv 65536 (fun i => (rdg l i).toNat) 16 + 38 * (rc l 16).toNat := by
    unfold rv
    rw [pv_congr (m := fun i => if i = 0 then (rdg l 0).toNat + 38 * (rc l 16).toNat else (rdg l i).toNat) 16 (fun i h4 => by
      by_cases h5 : i = 0
      · subst h5; exact h0
      · rw [if_neg h5, hi i (by omega) h4])]
    exact pv_0 (by simp) (fun i h5 => by rw [if_neg (by omega)]) 15
  have hlt := pv_lt (show 0 < 65536 by decide) hd 16
  refine ⟨(rc l 16).toNat, h1, ?_, ?_, by omega, by omega, by have := hd 0; omega, fun i h3 h4 => by rw [hi i h3 h4]; exact hd i⟩
  · unfold rv at hrv ⊢
    have hg : (rc l 16).toNat * (2 * P25519 + 38) = 2 * (rc l 16).toNat * P25519 + 38 * (rc l 16).toNat := by grind
    rw [hrv, h2, pow_B, hg]; omega
  · unfold rv at hrv ⊢
    rw [hrv, h2]; omega
/-- Four rounds: the parts of a number below 2^256. -/
theorem rdN_val {l : List UInt64} (hl : ∀ i, i < 16 → (l.getD i 0).toNat < 35184372088832) : ∃ w, w < 65536 ^ 16 ∧ rdN l 4 = dg w ∧ w % P25519 = rv l % P25519 := by
  obtain ⟨c1, a1, b1, d1, e1, f1, g1, k1⟩ := rd1_val hl (by decide)
  have l1 : ∀ i, i < 16 → ((rd1 l).getD i 0).toNat < 65536 + 38 * c1 + 1 := fun i hi => by
    by_cases h : i = 0
    · subst h; omega
    · have := k1 i (by omega) hi; omega
  obtain ⟨c2, a2, b2, d2, e2, f2, g2, k2⟩ := rd1_val (M := 65536 + 38 * c1 + 1) l1 (by omega)
  have hc2 : c2 ≤ 1 := by
    have h0 : rv (rd1 l) < 2 * 65536 ^ 16 := by
      have : 38 * c1 < 65536 ^ 16 := by
        have : (65536 : Nat) ^ 16 = 115792089237316195423570985008687907853269984665640564039457584007913129639936 := by decide
        omega
      omega
    have hle : c2 * 65536 ^ 16 ≤ rv (rd1 l) := by omega
    have h9 : c2 * 65536 ^ 16 < 2 * 65536 ^ 16 := Nat.lt_of_le_of_lt hle h0
    have := Nat.lt_of_mul_lt_mul_right h9
    omega
  have l2 : ∀ i, i < 16 → ((rd1 (rd1 l)).getD i 0).toNat < 65600 := fun i hi => by
    by_cases h : i = 0
    · subst h; omega
    · have := k2 i (by omega) hi; omega
  obtain ⟨c3, a3, b3, d3, e3, f3, g3, k3⟩ := rd1_val (M := 65600) l2 (by omega)
  have hB : (65536 : Nat) ^ 16 = 115792089237316195423570985008687907853269984665640564039457584007913129639936 := by decide
  have hc3 : c3 = 0 := by
    have h0 : rv (rd1 (rd1 l)) < 65536 ^ 16 := by
      by_cases h : c2 = 0
      · subst h; omega
      · have : c2 = 1 := by omega
        subst this
        have : 38 * c1 < 65536 ^ 16 / 2 := by rw [hB]; omega
        omega
    have : c3 * 65536 ^ 16 < 1 * 65536 ^ 16 := by omega
    have := Nat.lt_of_mul_lt_mul_right this
    omega
  subst hc3
  have l3 : ∀ i, i < 16 → ((rd1 (rd1 (rd1 l))).getD i 0).toNat < 65536 := fun i hi => by
    by_cases h : i = 0
    · subst h; omega
    · exact k3 i (by omega) hi
  obtain ⟨c4, a4, b4, d4, e4, f4, g4, k4⟩ := rd1_val (M := 65536) l3 (by omega)
  have hc4 : c4 = 0 := by
    have h0 : rv (rd1 (rd1 (rd1 l))) < 65536 ^ 16 := by omega
    have : c4 * 65536 ^ 16 < 1 * 65536 ^ 16 := by omega
    have := Nat.lt_of_mul_lt_mul_right this
    omega
  subst hc4
  refine ⟨rv (rdN l 4), ?_, ?_, ?_⟩
  · show rv (rd1 (rd1 (rd1 (rd1 l)))) < _; omega
  · apply dg_rv
    · exact rd1_len _
    · intro i hi
      show ((rd1 (rd1 (rd1 (rd1 l)))).getD i 0).toNat < _
      by_cases h : i = 0
      · subst h; omega
      · exact k4 i (by omega) hi
  · show rv (rd1 (rd1 (rd1 (rd1 l)))) % _ = _
    rw [b1, Nat.add_mul_mod_self_right, b2, Nat.add_mul_mod_self_right, b3, Nat.add_mul_mod_self_right, b4, Nat.add_mul_mod_self_right]

/-! ### p taken off -/
def pp : List UInt64 := dg P25519
def sbw (n : List UInt64) : Nat → UInt64
  | 0 => 0
  | i + 1 => 1 - (65536 + n.getD i 0 - pp.getD i 0 - sbw n i) / 65536
def sdg (n : List UInt64) (i : Nat) : UInt64 := (65536 + n.getD i 0 - pp.getD i 0 - sbw n i) % 65536
theorem sb_step (x y b : UInt64) (hx : x.toNat < 65536) (hy : y.toNat < 65536) (hb : b.toNat ≤ 1) :
    (65536 + x - y - b).toNat = 65536 + x.toNat - y.toNat - b.toNat ∧ (1 - (65536 + x - y - b) / 65536).toNat = (if x.toNat < y.toNat + b.toNat then 1 else 0) := by
  have h1 : (65536 + x).toNat = 65536 + x.toNat := add_n 65536 x (by show 65536 + _ < _; omega)
  have h2 : (65536 + x - y).toNat = 65536 + x.toNat - y.toNat := by rw [sub_n _ _ (by omega), h1]
  have h3 : (65536 + x - y - b).toNat = 65536 + x.toNat - y.toNat - b.toNat := by rw [sub_n _ _ (by omega), h2]
  refine ⟨h3, ?_⟩
  have h4 : ((65536 + x - y - b) / 65536).toNat = (65536 + x.toNat - y.toNat - b.toNat) / 65536 := by rw [UInt64.toNat_div, h3]; rfl
  have h5 : (1 - (65536 + x - y - b) / 65536).toNat = 1 - (65536 + x.toNat - y.toNat - b.toNat) / 65536 := by rw [sub_n _ _ (by rw [h4]; show _ ≤ 1; omega), h4]; rfl
  rw [h5]
  split <;> omega
theorem sdg_val {w : Nat} : ∀ i, i ≤ 16 → (sbw (dg w) i).toNat ≤ 1 ∧ pv 65536 (fun i => (sdg (dg w) i).toNat) i + P25519 % 65536 ^ i = w % 65536 ^ i + (sbw (dg w) i).toNat * 65536 ^ i
  | 0, _ => ⟨by show (0 : UInt64).toNat ≤ 1; decide, by simp [pv, sbw, Nat.mod_one]⟩
  | i + 1, h => by
    obtain ⟨h1, h2⟩ := sdg_val (w := w) i (by omega)
    have hx := dg_get w i (by omega)
    have hy := dg_get P25519 i (by omega)
    have hx2 := Nat.mod_lt (w / 65536 ^ i) (show 0 < 65536 by decide)
    have hy2 := Nat.mod_lt (P25519 / 65536 ^ i) (show 0 < 65536 by decide)
    obtain ⟨g1, g2⟩ := sb_step ((dg w).getD i 0) (pp.getD i 0) (sbw (dg w) i) (by rw [hx]; exact hx2) (by unfold pp; rw [hy]; exact hy2) h1
    have e1 : (sbw (dg w) (i + 1)).toNat = _ := g2
    have e2 : (sdg (dg w) i).toNat = (65536 + w / 65536 ^ i % 65536 - P25519 / 65536 ^ i % 65536 - (sbw (dg w) i).toNat) % 65536 := by
      show ((65536 + (dg w).getD i 0 - pp.getD i 0 - sbw (dg w) i) % 65536).toNat = _
      rw [UInt64.toNat_mod, g1, hx]; unfold pp; rw [hy]; rfl
    rw [hx] at e1; unfold pp at e1; rw [hy] at e1
    refine ⟨by rw [e1]; split <;> omega, ?_⟩
    show pv 65536 _ i + (sdg (dg w) i).toNat * 65536 ^ i + _ = _
    rw [Nat.pow_succ, Nat.mod_mul, Nat.mod_mul, e1, e2]
    generalize w / 65536 ^ i % 65536 = x at *
    generalize P25519 / 65536 ^ i % 65536 = y at *
    generalize (sbw (dg w) i).toNat = b at *
    have key : (65536 + x - y - b) % 65536 + y + b = x + (if x < y + b then 1 else 0) * 65536 := by split <;> omega
    have key2 := congrArg (fun z => z * 65536 ^ i) key
    simp only [Nat.add_mul] at key2
    rw [Nat.mul_comm (65536 ^ i) 65536, Nat.mul_comm (65536 ^ i) y, Nat.mul_comm (65536 ^ i) x, ← Nat.mul_assoc]
    omega
def subP (n : List UInt64) : List UInt64 := (List.range 16).map (sdg n)
theorem subP_val {w : Nat} (h : P25519 ≤ w) (hw : w < 65536 ^ 16) : subP (dg w) = dg (w - P25519) := by
  obtain ⟨h1, h2⟩ := sdg_val (w := w) 16 (by omega)
  have hd : ∀ i, (sdg (dg w) i).toNat < 65536 := fun i => by unfold sdg; rw [UInt64.toNat_mod]; exact Nat.mod_lt _ (by decide)
  have hlt := pv_lt (show 0 < 65536 by decide) hd 16
  have hP : P25519 < 65536 ^ 16 := by decide
  rw [Nat.mod_eq_of_lt hw, Nat.mod_eq_of_lt hP] at h2
  have hb : (sbw (dg w) 16).toNat = 0 := by
    rcases Nat.eq_zero_or_pos (sbw (dg w) 16).toNat with e | e
    · exact e
    · have : (sbw (dg w) 16).toNat = 1 := by omega
      rw [this] at h2; omega
  have hl : (subP (dg w)).length = 16 := rng_len
  have hg : ∀ i, i < 16 → (subP (dg w)).getD i 0 = sdg (dg w) i := fun i hi => by unfold subP; exact rng_getD hi
  have e := dg_rv hl (fun i hi => by rw [hg i hi]; exact hd i)
  have e2 : rv (subP (dg w)) = w - P25519 := by
    unfold rv
    rw [pv_congr (m := fun i => (sdg (dg w) i).toNat) 16 (fun i hi => by rw [hg i hi])]
    rw [hb] at h2; omega
  rw [e2] at e; exact e
/-- The highest parts that are unlike decide. -/
theorem dg_cmp {v w : Nat} (hv : v < 65536 ^ 16) (hw : w < 65536 ^ 16) {i : Nat} (hi : i < 16) (h : ∀ j, i < j → j < 16 → (dg v).getD j 0 = (dg w).getD j 0) : (((dg v).getD i 0).toNat < ((dg w).getD i 0).toNat → v < w) ∧ (((dg w).getD i 0).toNat < ((dg v).getD i 0).toNat → w < v) := by
  have key : ∀ n, i < n → n ≤ 16 → ∀ a b : Nat, (∀ j, i < j → j < n → a / 65536 ^ j % 65536 = b / 65536 ^ j % 65536) → a / 65536 ^ i % 65536 < b / 65536 ^ i % 65536 → a % 65536 ^ n < b % 65536 ^ n := by
    intro n
    induction n with
    | zero => intro h0; omega
    | succ n ih =>
      intro h1 h2 a b h3 h4
      rw [Nat.pow_succ, Nat.mod_mul, Nat.mod_mul]
      by_cases he : i = n
      · subst he
        have ha := Nat.mod_lt a (show 0 < 65536 ^ i from Nat.pow_pos (by decide))
        have : 65536 ^ i * (a / 65536 ^ i % 65536 + 1) ≤ 65536 ^ i * (b / 65536 ^ i % 65536) := Nat.mul_le_mul_left _ h4
        rw [Nat.mul_add] at this
        omega
      · have := ih (by omega) (by omega) a b (fun j g1 g2 => h3 j g1 (by omega)) h4
        rw [h3 n (by omega) (by omega)]; omega
  have e : ∀ j, i < j → j < 16 → v / 65536 ^ j % 65536 = w / 65536 ^ j % 65536 := fun j g1 g2 => by rw [← dg_get v j g2, ← dg_get w j g2, h j g1 g2]
  rw [dg_get _ _ hi, dg_get _ _ hi]
  constructor
  · intro g
    have := key 16 hi (Nat.le_refl _) v w e g
    rwa [Nat.mod_eq_of_lt hv, Nat.mod_eq_of_lt hw] at this
  · intro g
    have := key 16 hi (Nat.le_refl _) w v (fun j g1 g2 => (e j g1 g2).symm) g
    rwa [Nat.mod_eq_of_lt hv, Nat.mod_eq_of_lt hw] at this
theorem dg_inj {v w : Nat} (hv : v < 65536 ^ 16) (hw : w < 65536 ^ 16) (h : ∀ j, j < 16 → (dg v).getD j 0 = (dg w).getD j 0) : v = w := by
  have e1 := rv_dg v hv
  have e2 := rv_dg w hw
  rw [← e1, ← e2]
  unfold rv
  exact pv_congr 16 (fun i hi => by rw [h i hi])

/-! ### Bytes -/
/-- 32 bytes, the lowest first. -/
def le32 (v : Nat) : List UInt8 := (List.range 32).map fun i => UInt8.ofNat (v / 256 ^ i % 256)
theorem le32_len (v : Nat) : (le32 v).length = 32 := rng_len
theorem le32_get (v i : Nat) (h : i < 32) : ((le32 v).getD i 0).toNat = v / 256 ^ i % 256 := by
  unfold le32; rw [rng_getD h, UInt8.toNat_ofNat']
  exact Nat.mod_eq_of_lt (Nat.mod_lt _ (by decide))
def bv (b : List UInt8) : Nat := pv 256 (fun i => (b.getD i 0).toNat) 32
theorem bv_le32 (v : Nat) (h : v < 256 ^ 32) : bv (le32 v) = v := by
  unfold bv
  rw [pv_congr (m := fun i => v / 256 ^ i % 256) 32 (fun i hi => le32_get v i hi), pv_of (by decide), Nat.mod_eq_of_lt h]
theorem le32_inj {v w : Nat} (hv : v < 256 ^ 32) (hw : w < 256 ^ 32) (h : le32 v = le32 w) : v = w := by
  rw [← bv_le32 v hv, ← bv_le32 w hw, h]
/-- What bytes tell: without the highest bit, modulo p. -/
def bn (b : List UInt8) : Nat := bv b % 57896044618658097711785492504343953926634992332820282019728792003956564819968
def br (b : List UInt8) : Nat := bn b % P25519
theorem br_lt (b : List UInt8) : br b < P25519 := mod_lt_P _
theorem nr_lt (l : List UInt64) : nr l < P25519 := mod_lt_P _
/-- So many of p - 2's highest bits. -/
def pw (x : Nat) : Nat → Nat
  | 0 => 1
  | k + 1 => if k = 250 ∨ k = 252 then pw x k * pw x k % P25519 else pw x k * pw x k % P25519 * x % P25519
def pwe : Nat → Nat
  | 0 => 0
  | k + 1 => if k = 250 ∨ k = 252 then 2 * pwe k else 2 * pwe k + 1
theorem pwe_all : pwe 255 = P25519 - 2 := by decide +kernel
theorem pw_eq (x : Nat) : ∀ k, pw x k = x ^ pwe k % P25519
  | 0 => by show 1 = x ^ 0 % P25519; rw [Nat.pow_zero]; decide
  | k + 1 => by
    show (if k = 250 ∨ k = 252 then _ else _) = x ^ (if k = 250 ∨ k = 252 then _ else _) % _
    have e : pw x k * pw x k % P25519 = x ^ (2 * pwe k) % P25519 := by
      rw [pw_eq x k, ← Nat.mul_mod, ← Nat.pow_add]; congr 2; omega
    split
    · exact e
    · rw [e, Nat.mul_mod, Nat.mod_mod, ← Nat.mul_mod, ← Nat.pow_succ]
def invN (x : Nat) : Nat := pw x 255
theorem invN_mul {x : Nat} (h : x % P25519 ≠ 0) : x * invN x % P25519 = 1 := by
  unfold invN
  rw [pw_eq, pwe_all, Nat.mul_mod, Nat.mod_mod, ← Nat.mul_mod]
  exact inv_mul h
theorem invN_lt (x : Nat) : invN x < P25519 := by unfold invN; rw [pw_eq]; exact mod_lt_P _
theorem invN_0 : invN 0 = 0 := by unfold invN; rw [pw_eq, pwe_all, Nat.zero_pow (by decide)]; rfl
end Go.Sh
/- field: numbers out of bytes and back, plainly. -/
namespace Go.Sh
set_option linter.unusedSimpArgs false
set_option maxHeartbeats 8000000

theorem or_add (a b : UInt64) (k : Nat) (c : Nat) (ha : a.toNat < 2 ^ k) (hb : b.toNat = 2 ^ k * c) : (a ||| b).toNat = a.toNat + b.toNat := by
  rw [UInt64.toNat_or, Nat.or_comm, hb, ← Nat.two_pow_add_eq_or_of_lt ha, Nat.add_comm]
theorem pv_split {B : Nat} (l : Nat → Nat) (n : Nat) : ∀ m, pv B l (n + m) = pv B l n + B ^ n * pv B (fun i => l (n + i)) m
  | 0 => by simp [pv]
  | m + 1 => by
    show pv B l (n + m) + l (n + m) * B ^ (n + m) = _
    rw [pv_split l n m]
    show _ = pv B l n + B ^ n * (pv B (fun i => l (n + i)) m + l (n + m) * B ^ m)
    rw [Nat.mul_add, Nat.pow_add, Nat.mul_left_comm, Nat.add_assoc]
/-- The k-th word's first bytes. -/
def wW (b : List UInt8) (k : Nat) : Nat → UInt64
  | 0 => 0
  | m + 1 => wW b k m ||| shl64 (b.getD (8 * k + m) 0).toUInt64 (8 * m)
def byN (b : List UInt8) (i : Nat) : Nat := (b.getD i 0).toNat
theorem byN_lt (b : List UInt8) (i : Nat) : byN b i < 256 := UInt8.toNat_lt _
theorem wW_n (b : List UInt8) (k : Nat) : ∀ m, m ≤ 8 → (wW b k m).toNat = pv 256 (fun i => byN b (8 * k + i)) m
  | 0, _ => rfl
  | m + 1, h => by
    have ih := wW_n b k m (by omega)
    have hlt := pv_lt (B := 256) (l := fun i => byN b (8 * k + i)) (by decide) (fun i => byN_lt b _) m
    have e8 : (256 : Nat) ^ m = 2 ^ (8 * m) := by rw [Nat.pow_mul]
    have hb := byN_lt b (8 * k + m)
    have hs : (shl64 (b.getD (8 * k + m) 0).toUInt64 (8 * m)).toNat = 2 ^ (8 * m) * byN b (8 * k + m) := by
      rw [shl_n _ _ (by omega), UInt8.toNat_toUInt64, Nat.mod_eq_of_lt, Nat.mul_comm]
      · rfl
      · have h1 : (b.getD (8 * k + m) 0).toNat * 2 ^ (8 * m) < 256 * 2 ^ (8 * m) := Nat.mul_lt_mul_of_pos_right hb (Nat.pow_pos (by decide))
        have h2 : 256 * 2 ^ (8 * m) ≤ 2 ^ 64 := by
          rw [show (256 : Nat) = 2 ^ 8 from rfl, ← Nat.pow_add]
          exact Nat.pow_le_pow_right (by decide) (by omega)
        exact Nat.lt_of_lt_of_le h1 h2
    show (wW b k m ||| _).toNat = pv 256 _ m + byN b (8 * k + m) * 256 ^ m
    rw [or_add _ _ (8 * m) _ (by rw [ih, ← e8]; exact hlt) hs, ih, hs, e8, Nat.mul_comm (2 ^ (8 * m))]
theorem wW_8 (b : List UInt8) (k : Nat) : (wW b k 8).toNat < 18446744073709551616 := UInt64.toNat_lt _
theorem bv_w (b : List UInt8) : bv b = (wW b 0 8).toNat + 18446744073709551616 * (wW b 1 8).toNat + 340282366920938463463374607431768211456 * (wW b 2 8).toNat + 6277101735386680763835789423207666416102355444464034512896 * (wW b 3 8).toNat := by
  rw [wW_n b 0 8 (by decide), wW_n b 1 8 (by decide), wW_n b 2 8 (by decide), wW_n b 3 8 (by decide)]
  unfold bv
  have h1 := pv_split (B := 256) (byN b) 8 24
  have h2 := pv_split (B := 256) (fun i => byN b (8 + i)) 8 16
  have h3 := pv_split (B := 256) (fun i => byN b (8 + (8 + i))) 8 8
  have e1 : (256 : Nat) ^ 8 = 18446744073709551616 := by decide
  rw [e1] at h1 h2 h3
  show pv 256 (byN b) (8 + 24) = _
  rw [h1, show (24 : Nat) = 8 + 16 from rfl, h2, show (16 : Nat) = 8 + 8 from rfl, h3]
  have f0 : pv 256 (byN b) 8 = pv 256 (fun i => byN b (8 * 0 + i)) 8 := pv_congr 8 (fun i _ => by rw [show 8 * 0 + i = i by omega])
  have f1 : pv 256 (fun i => byN b (8 + i)) 8 = pv 256 (fun i => byN b (8 * 1 + i)) 8 := rfl
  have f2 : pv 256 (fun i => byN b (8 + (8 + i))) 8 = pv 256 (fun i => byN b (8 * 2 + i)) 8 := pv_congr 8 (fun i _ => by rw [show 8 * 2 + i = 8 + (8 + i) by omega])
  have f3 : pv 256 (fun i => byN b (8 + (8 + (8 + i)))) 8 = pv 256 (fun i => byN b (8 * 3 + i)) 8 := pv_congr 8 (fun i _ => by rw [show 8 * 3 + i = 8 + (8 + (8 + i)) by omega])
  rw [f0, f1, f2, f3]
  omega
theorem X1 (a b : Nat) (ha : a < 18446744073709551616) : (a / 2251799813685248 + b * 8192 % 18446744073709551616) % 2251799813685248 = a / 2251799813685248 + b % 274877906944 * 8192 := by omega
theorem X2 (b c : Nat) (hb : b < 18446744073709551616) : (b / 274877906944 + c * 67108864 % 18446744073709551616) % 2251799813685248 = b / 274877906944 + c % 33554432 * 67108864 := by omega
theorem X3 (c d : Nat) (hb : c < 18446744073709551616) : (c / 33554432 + d * 549755813888 % 18446744073709551616) % 2251799813685248 = c / 33554432 + d % 4096 * 549755813888 := by omega
theorem Y1 (b : Nat) : b * 8192 % 18446744073709551616 = 8192 * (b % 2251799813685248) := by omega
theorem Y2 (b : Nat) : b * 67108864 % 18446744073709551616 = 67108864 * (b % 274877906944) := by omega
theorem Y3 (b : Nat) : b * 549755813888 % 18446744073709551616 = 549755813888 * (b % 33554432) := by omega
theorem sum4 (a b c d : Nat) (ha : a < 18446744073709551616) (hb : b < 18446744073709551616) (hc : c < 18446744073709551616) :
  a % 2251799813685248 + 2251799813685248 * (a / 2251799813685248 + b % 274877906944 * 8192) + 5070602400912917605986812821504 * (b / 274877906944 + c % 33554432 * 67108864) + 11417981541647679048466287755595961091061972992 * (c / 33554432 + d % 4096 * 549755813888) + 25711008708143844408671393477458601640355247900524685364822016 * (d / 4096 % 2251799813685248) = (a + 18446744073709551616 * b + 340282366920938463463374607431768211456 * c + 6277101735386680763835789423207666416102355444464034512896 * d) % 57896044618658097711785492504343953926634992332820282019728792003956564819968 := by
  obtain ⟨a0, a1, h1, h2, h3⟩ : ∃ a0 a1, a % 2251799813685248 = a0 ∧ a / 2251799813685248 = a1 ∧ a = a0 + 2251799813685248 * a1 := ⟨_, _, rfl, rfl, by omega⟩
  obtain ⟨b0, b1, i1, i2, i3⟩ : ∃ b0 b1, b % 274877906944 = b0 ∧ b / 274877906944 = b1 ∧ b = b0 + 274877906944 * b1 := ⟨_, _, rfl, rfl, by omega⟩
  obtain ⟨c0, c1, j1, j2, j3⟩ : ∃ c0 c1, c % 33554432 = c0 ∧ c / 33554432 = c1 ∧ c = c0 + 33554432 * c1 := ⟨_, _, rfl, rfl, by omega⟩
  obtain ⟨d0, d1, d2, k1, k2, k3⟩ : ∃ d0 d1 d2, d % 4096 = d0 ∧ d / 4096 % 2251799813685248 = d1 ∧ d = d0 + 4096 * (d1 + 2251799813685248 * d2) := ⟨_, _, d / 4096 / 2251799813685248, rfl, rfl, by omega⟩
  have a0l : a0 < 2251799813685248 := by omega
  have a1l : a1 < 8192 := by omega
  have b0l : b0 < 274877906944 := by omega
  have b1l : b1 < 67108864 := by omega
  have c0l : c0 < 33554432 := by omega
  have c1l : c1 < 549755813888 := by omega
  have d0l : d0 < 4096 := by omega
  have d1l : d1 < 2251799813685248 := by omega
  rw [h1, h2, i1, i2, j1, j2, k1, k2]
  clear h1 h2 i1 i2 j1 j2 k1 k2 ha hb hc
  subst h3; subst i3; subst j3; subst k3
  have e : a0 + 2251799813685248 * a1 + 18446744073709551616 * (b0 + 274877906944 * b1) + 340282366920938463463374607431768211456 * (c0 + 33554432 * c1) + 6277101735386680763835789423207666416102355444464034512896 * (d0 + 4096 * (d1 + 2251799813685248 * d2)) = (a0 + 2251799813685248 * (a1 + b0 * 8192) + 5070602400912917605986812821504 * (b1 + c0 * 67108864) + 11417981541647679048466287755595961091061972992 * (c1 + d0 * 549755813888) + 25711008708143844408671393477458601640355247900524685364822016 * d1) + 57896044618658097711785492504343953926634992332820282019728792003956564819968 * d2 := by omega
  rw [e, Nat.add_mul_mod_self_left, Nat.mod_eq_of_lt]
  omega
/-- The words of a number out of bytes. -/
def ofB (b : List UInt8) : List UInt64 := [wW b 0 8 &&& 2251799813685247, (shr64 (wW b 0 8) 51 ||| shl64 (wW b 1 8) 13) &&& 2251799813685247, (shr64 (wW b 1 8) 38 ||| shl64 (wW b 2 8) 26) &&& 2251799813685247, (shr64 (wW b 2 8) 25 ||| shl64 (wW b 3 8) 39) &&& 2251799813685247, shr64 (wW b 3 8) 12 &&& 2251799813685247]
theorem ofB_ok (b : List UInt8) : Nm (ofB b) ∧ nv (ofB b) = bn b := by
  have b0 := wW_8 b 0
  have b1 := wW_8 b 1
  have b2 := wW_8 b 2
  have b3 := wW_8 b 3
  have hv := bv_w b
  unfold ofB bn
  generalize bv b = V at *
  generalize wW b 0 8 = w0 at *
  generalize wW b 1 8 = w1 at *
  generalize wW b 2 8 = w2 at *
  generalize wW b 3 8 = w3 at *
  have e0 := msk_n w0
  have s0 := shr_n w0 51 (by decide)
  have s1 := shr_n w1 38 (by decide)
  have s2 := shr_n w2 25 (by decide)
  have s3 := shr_n w3 12 (by decide)
  have t1 := shl_n w1 13 (by decide)
  have t2 := shl_n w2 26 (by decide)
  have t3 := shl_n w3 39 (by decide)
  rw [show (2 : Nat) ^ 51 = 2251799813685248 from rfl] at s0
  rw [show (2 : Nat) ^ 38 = 274877906944 from rfl] at s1
  rw [show (2 : Nat) ^ 25 = 33554432 from rfl] at s2
  rw [show (2 : Nat) ^ 12 = 4096 from rfl] at s3
  rw [show (2 : Nat) ^ 13 = 8192 from rfl, show (2 : Nat) ^ 64 = 18446744073709551616 from rfl] at t1
  rw [show (2 : Nat) ^ 26 = 67108864 from rfl, show (2 : Nat) ^ 64 = 18446744073709551616 from rfl] at t2
  rw [show (2 : Nat) ^ 39 = 549755813888 from rfl, show (2 : Nat) ^ 64 = 18446744073709551616 from rfl] at t3
  have o1 := or_add (shr64 w0 51) (shl64 w1 13) 13 (w1.toNat % 2251799813685248) (by rw [s0]; clear s1 s2 s3 t1 t2 t3 e0 hv; omega) (by rw [t1]; exact Y1 _)
  have o2 := or_add (shr64 w1 38) (shl64 w2 26) 26 (w2.toNat % 274877906944) (by rw [s1]; clear s0 s2 s3 t1 t2 t3 e0 hv; omega) (by rw [t2]; exact Y2 _)
  have o3 := or_add (shr64 w2 25) (shl64 w3 39) 39 (w3.toNat % 33554432) (by rw [s2]; clear s0 s1 s3 t1 t2 t3 e0 hv; omega) (by rw [t3]; exact Y3 _)
  have m1 := msk_n (shr64 w0 51 ||| shl64 w1 13)
  have m2 := msk_n (shr64 w1 38 ||| shl64 w2 26)
  have m3 := msk_n (shr64 w2 25 ||| shl64 w3 39)
  have m4 := msk_n (shr64 w3 12)
  rw [o1, s0, t1] at m1
  rw [o2, s1, t2] at m2
  rw [o3, s2, t3] at m3
  rw [s3] at m4
  constructor
  · refine ⟨rfl, ?_⟩
    simp only [List.mem_cons, List.not_mem_nil, or_false, forall_eq_or_imp, forall_eq]
    clear o1 o2 o3 s0 s1 s2 s3 t1 t2 t3 hv
    refine ⟨?_, ?_, ?_, ?_, ?_⟩
    · rw [e0]; exact Nat.lt_of_lt_of_le (Nat.mod_lt _ (by decide)) (by decide)
    · rw [m1]; exact Nat.lt_of_lt_of_le (Nat.mod_lt _ (by decide)) (by decide)
    · rw [m2]; exact Nat.lt_of_lt_of_le (Nat.mod_lt _ (by decide)) (by decide)
    · rw [m3]; exact Nat.lt_of_lt_of_le (Nat.mod_lt _ (by decide)) (by decide)
    · rw [m4]; exact Nat.lt_of_lt_of_le (Nat.mod_lt _ (by decide)) (by decide)
  · rw [nv_5, e0, m1, m2, m3, m4, hv, X1 _ _ b0, X2 _ _ b1, X3 _ _ b2]
    exact sum4 _ _ _ _ b0 b1 b2
theorem nr_of (b : List UInt8) : nr (ofB b) = br b := by unfold nr br; rw [(ofB_ok b).2]

end Go.Sh
/- field: bytes out of numbers, plainly. -/
namespace Go.Sh
set_option linter.unusedSimpArgs false
set_option linter.unusedVariables false
set_option maxHeartbeats 8000000

theorem dm (r : Nat) : ∃ v q, r % 2251799813685248 = v ∧ r / 2251799813685248 = q ∧ r = v + 2251799813685248 * q ∧ v < 2251799813685248 := ⟨_, _, rfl, rfl, by omega, by omega⟩
theorem chain {x0 x1 x2 x3 x4 r0 r1 r2 r3 r4 : Nat} (h0 : r0 = x0) (h1 : r1 = x1 + r0 / 2251799813685248) (h2 : r2 = x2 + r1 / 2251799813685248) (h3 : r3 = x3 + r2 / 2251799813685248) (h4 : r4 = x4 + r3 / 2251799813685248) :
    ∃ V, V = r0 % 2251799813685248 + 2251799813685248 * (r1 % 2251799813685248) + 5070602400912917605986812821504 * (r2 % 2251799813685248) + 11417981541647679048466287755595961091061972992 * (r3 % 2251799813685248) + 25711008708143844408671393477458601640355247900524685364822016 * (r4 % 2251799813685248) ∧ V < 57896044618658097711785492504343953926634992332820282019728792003956564819968 ∧
      x0 + 2251799813685248 * x1 + 5070602400912917605986812821504 * x2 + 11417981541647679048466287755595961091061972992 * x3 + 25711008708143844408671393477458601640355247900524685364822016 * x4 = V + 57896044618658097711785492504343953926634992332820282019728792003956564819968 * (r4 / 2251799813685248) := by
  obtain ⟨v0, q0, a0, b0, c0, d0⟩ := dm r0
  obtain ⟨v1, q1, a1, b1, c1, d1⟩ := dm r1
  obtain ⟨v2, q2, a2, b2, c2, d2⟩ := dm r2
  obtain ⟨v3, q3, a3, b3, c3, d3⟩ := dm r3
  obtain ⟨v4, q4, a4, b4, c4, d4⟩ := dm r4
  rw [b0] at h1
  rw [b1] at h2
  rw [b2] at h3
  rw [b3] at h4
  rw [a0, a1, a2, a3, a4, b4]
  clear a0 a1 a2 a3 a4 b0 b1 b2 b3 b4
  exact ⟨_, rfl, by omega, by omega⟩
theorem fin5 {N V t q : Nat} (P U : Nat) (hP : P = 57896044618658097711785492504343953926634992332820282019728792003956564819949) (hN : N < 57896044618658097711785492504343953926634992332820282019728792003956564819988) (hU : U < 57896044618658097711785492504343953926634992332820282019728792003956564819968) (h1 : N + 19 = U + 57896044618658097711785492504343953926634992332820282019728792003956564819968 * q)
    (hV : V < 57896044618658097711785492504343953926634992332820282019728792003956564819968) (h2 : N + 19 * q = V + 57896044618658097711785492504343953926634992332820282019728792003956564819968 * t) : V = N % P := by
  have hq : q = 0 ∨ q = 1 := by omega
  rcases hq with rfl | rfl
  · have : t = 0 := by omega
    subst this
    rw [Nat.mod_eq_of_lt] <;> omega
  · have : t = 1 := by omega
    subst this
    rw [Nat.mod_eq_sub_mod (by omega), Nat.mod_eq_of_lt (by omega)]
    omega
theorem d64 (A B C D : Nat) (ha : A < 18446744073709551616) (hb : B < 18446744073709551616) (hc : C < 18446744073709551616) (hd : D < 18446744073709551616) (V : Nat) (hV : V = A + 18446744073709551616 * B + 340282366920938463463374607431768211456 * C + 6277101735386680763835789423207666416102355444464034512896 * D) :
    A = V % 18446744073709551616 ∧ B = V / 18446744073709551616 % 18446744073709551616 ∧ C = V / 340282366920938463463374607431768211456 % 18446744073709551616 ∧ D = V / 6277101735386680763835789423207666416102355444464034512896 % 18446744073709551616 := by
  refine ⟨by omega, by omega, by omega, by omega⟩
theorem Z1 (s : Nat) : s * 2251799813685248 % 18446744073709551616 = 2251799813685248 * (s % 8192) := by omega
theorem Z2 (s : Nat) : s * 274877906944 % 18446744073709551616 = 274877906944 * (s % 67108864) := by omega
theorem Z3 (s : Nat) : s * 33554432 % 18446744073709551616 = 33554432 * (s % 549755813888) := by omega
theorem Z4 (s : Nat) : s * 4096 % 18446744073709551616 = 4096 * (s % 4503599627370496) := by omega
theorem s64 (s0 s1 s2 s3 s4 : Nat) (h0 : s0 < 2251799813685248) (h1 : s1 < 2251799813685248) (h2 : s2 < 2251799813685248) (h3 : s3 < 2251799813685248) (h4 : s4 < 2251799813685248) :
    s0 + s1 * 2251799813685248 % 18446744073709551616 < 18446744073709551616 ∧ s1 / 8192 + s2 * 274877906944 % 18446744073709551616 < 18446744073709551616 ∧ s2 / 67108864 + s3 * 33554432 % 18446744073709551616 < 18446744073709551616 ∧ s3 / 549755813888 + s4 * 4096 % 18446744073709551616 < 18446744073709551616 ∧
    s0 + 2251799813685248 * s1 + 5070602400912917605986812821504 * s2 + 11417981541647679048466287755595961091061972992 * s3 + 25711008708143844408671393477458601640355247900524685364822016 * s4 = (s0 + s1 * 2251799813685248 % 18446744073709551616) + 18446744073709551616 * (s1 / 8192 + s2 * 274877906944 % 18446744073709551616) + 340282366920938463463374607431768211456 * (s2 / 67108864 + s3 * 33554432 % 18446744073709551616) + 6277101735386680763835789423207666416102355444464034512896 * (s3 / 549755813888 + s4 * 4096 % 18446744073709551616) := by
  obtain ⟨e0, e1, k1, k2, k3⟩ : ∃ e0 e1, s1 / 8192 = e1 ∧ s1 * 2251799813685248 % 18446744073709551616 = 2251799813685248 * e0 ∧ s1 = e0 + 8192 * e1 := ⟨s1 % 8192, _, rfl, Z1 _, (Nat.mod_add_div _ _).symm⟩
  obtain ⟨f0, f1, l1, l2, l3⟩ : ∃ e0 e1, s2 / 67108864 = e1 ∧ s2 * 274877906944 % 18446744073709551616 = 274877906944 * e0 ∧ s2 = e0 + 67108864 * e1 := ⟨s2 % 67108864, _, rfl, Z2 _, (Nat.mod_add_div _ _).symm⟩
  obtain ⟨g0, g1, m1, m2, m3⟩ : ∃ e0 e1, s3 / 549755813888 = e1 ∧ s3 * 33554432 % 18446744073709551616 = 33554432 * e0 ∧ s3 = e0 + 549755813888 * e1 := ⟨s3 % 549755813888, _, rfl, Z3 _, (Nat.mod_add_div _ _).symm⟩
  have m4 : s4 * 4096 % 18446744073709551616 = 4096 * s4 := by rw [Nat.mod_eq_of_lt (by omega), Nat.mul_comm]
  refine ⟨by omega, by omega, by omega, by omega, ?_⟩
  rw [k1, k2, l1, l2, m1, m2, m4]
  clear k1 k2 l1 l2 m1 m2 m4 h0 h1 h2 h3 h4
  omega
theorem d32 {j : Nat} (h : j < 32) : j / 8 = 0 ∨ j / 8 = 1 ∨ j / 8 = 2 ∨ j / 8 = 3 := by omega
theorem d64b (j : Nat) : 8 * (j % 8) < 64 := by omega
theorem e256 (j : Nat) : (256 : Nat) ^ j = 2 ^ (64 * (j / 8)) * 2 ^ (8 * (j % 8)) := by
  rw [← Nat.pow_add, show (256 : Nat) = 2 ^ 8 from rfl, ← Nat.pow_mul]; congr 1; omega
theorem by8x (x t : Nat) (ht : t < 8) : x % 18446744073709551616 / 2 ^ (8 * t) % 2 ^ 8 = x / 2 ^ (8 * t) % 256 % 2 ^ 8 := by
  have : t = 0 ∨ t = 1 ∨ t = 2 ∨ t = 3 ∨ t = 4 ∨ t = 5 ∨ t = 6 ∨ t = 7 := by omega
  rcases this with h | h | h | h | h | h | h | h <;> rw [h] <;> simp only [Nat.reduceMul, Nat.reducePow] <;> omega
theorem lt38 {s : Nat} (h : s < 2251799813685248) : s / 8192 < 2 ^ 38 := by omega
theorem lt25 {s : Nat} (h : s < 2251799813685248) : s / 67108864 < 2 ^ 25 := by omega
theorem lt12 {s : Nat} (h : s < 2251799813685248) : s / 549755813888 < 2 ^ 12 := by omega
/-! ### Back -/
theorem carL_tight {l : List UInt64} (h : l.length = 5) (hb : ∀ x ∈ l, x.toNat < 9223372036854775808) :
    ∃ k0 k1 k2 k3 k4 : UInt64, carL l = [k0, k1, k2, k3, k4] ∧ k0.toNat < 2251799813685268 ∧ k1.toNat < 2251799813685248 ∧ k2.toNat < 2251799813685248 ∧ k3.toNat < 2251799813685248 ∧ k4.toNat < 2251799813685248 := by
  obtain ⟨a, b, c, d, e, rfl⟩ := ex5 h
  simp only [List.mem_cons, List.not_mem_nil, or_false, forall_eq_or_imp, forall_eq] at hb
  obtain ⟨ha, hb, hc, hd, he⟩ := hb
  obtain ⟨m0, m1, m2, m3, m4, q, e1, n1, hq, b0, b1, b2, b3, b4, _⟩ := car1_val ha hb hc hd he
  obtain ⟨k0, k1, k2, k3, k4, q2, e2, n2, hq2, d0, d1, d2, d3, d4, hle⟩ := car1_val (a := m0) (b := m1) (c := m2) (d := m3) (e := m4) (by omega) (by omega) (by omega) (by omega) (by omega)
  have hle := hle b1 b2 b3 b4 (by omega)
  refine ⟨k0, k1, k2, k3, k4, ?_, by omega, d1, d2, d3, d4⟩
  unfold carL; rw [e1, e2]
def qB (m : List UInt64) : UInt64 := shr64 (m.getD 4 0 + shr64 (m.getD 3 0 + shr64 (m.getD 2 0 + shr64 (m.getD 1 0 + shr64 (m.getD 0 0 + 19) 51) 51) 51) 51) 51
/-- Carried on, i words. -/
def rB (m : List UInt64) : Nat → UInt64
  | 0 => m.getD 0 0 + 19 * qB m
  | i + 1 => m.getD (i + 1) 0 + shr64 (rB m i) 51
def sB (m : List UInt64) (i : Nat) : UInt64 := rB m i &&& 2251799813685247
def w4 (m : List UInt64) : List UInt64 := [sB m 0 ||| shl64 (sB m 1) 51, shr64 (sB m 1) 13 ||| shl64 (sB m 2) 38, shr64 (sB m 2) 26 ||| shl64 (sB m 3) 25, shr64 (sB m 3) 39 ||| shl64 (sB m 4) 12]
def byB (m : List UInt64) : List UInt8 := (List.range 32).map fun j => (shr64 ((w4 m).getD (j / 8) 0) (8 * (j % 8))).toUInt8
theorem nq {x c : Nat} (hx : x < 2251799813685268) (hc : c ≤ 19) : (x + c) / 2251799813685248 ≤ 1 := by omega
theorem nl {x c : Nat} (hx : x < 2251799813685268) (hc : c ≤ 19) : x + c < 18446744073709551616 := by omega
theorem nr1 {r : Nat} (hr : r < 2251799813685300) : r / 2251799813685248 ≤ 1 := by omega
theorem c51q (x c : UInt64) (hx : x.toNat < 2251799813685268) (hc : c.toNat ≤ 19) : (shr64 (x + c) 51).toNat = (x.toNat + c.toNat) / 2251799813685248 ∧ (shr64 (x + c) 51).toNat ≤ 1 := by
  have h : (shr64 (x + c) 51).toNat = (x.toNat + c.toNat) / 2251799813685248 := by rw [shr_n _ _ (by decide), add_n x c (nl hx hc)]
  exact ⟨h, by rw [h]; exact nq hx hc⟩
theorem rstp5 (x r : UInt64) (hx : x.toNat < 2251799813685248) (hr : r.toNat < 2251799813685300) : (x + shr64 r 51).toNat = x.toNat + r.toNat / 2251799813685248 ∧ (x + shr64 r 51).toNat < 2251799813685300 := by
  have h1 : (shr64 r 51).toNat = r.toNat / 2251799813685248 := shr_n r 51 (by decide)
  have h2 := nr1 hr
  have h : (x + shr64 r 51).toNat = x.toNat + r.toNat / 2251799813685248 := by rw [add_n _ _ (by rw [h1]; clear h1; omega), h1]
  exact ⟨h, by rw [h]; clear h h1; omega⟩
theorem byB_val {a b c d e : UInt64} (ha : a.toNat < 2251799813685268) (hb : b.toNat < 2251799813685248) (hc : c.toNat < 2251799813685248) (hd : d.toNat < 2251799813685248) (he : e.toNat < 2251799813685248) :
    byB [a, b, c, d, e] = le32 (nr [a, b, c, d, e]) := by
  obtain ⟨q0, hq0⟩ : ∃ q, q = shr64 (a + 19) 51 := ⟨_, rfl⟩
  obtain ⟨q1, hq1⟩ : ∃ q, q = shr64 (b + q0) 51 := ⟨_, rfl⟩
  obtain ⟨q2, hq2⟩ : ∃ q, q = shr64 (c + q1) 51 := ⟨_, rfl⟩
  obtain ⟨q3, hq3⟩ : ∃ q, q = shr64 (d + q2) 51 := ⟨_, rfl⟩
  obtain ⟨q4, hq4⟩ : ∃ q, q = shr64 (e + q3) 51 := ⟨_, rfl⟩
  have hqB : qB [a, b, c, d, e] = q4 := by rw [hq4, hq3, hq2, hq1, hq0]; rfl
  obtain ⟨v0, l0⟩ := c51q a 19 ha (by decide)
  rw [← hq0] at v0 l0
  rw [show (19 : UInt64).toNat = 19 from rfl] at v0
  obtain ⟨v1, l1⟩ := c51q b q0 (Nat.lt_trans hb (by decide)) (Nat.le_trans l0 (by decide))
  rw [← hq1] at v1 l1
  obtain ⟨v2, l2⟩ := c51q c q1 (Nat.lt_trans hc (by decide)) (Nat.le_trans l1 (by decide))
  rw [← hq2] at v2 l2
  obtain ⟨v3, l3⟩ := c51q d q2 (Nat.lt_trans hd (by decide)) (Nat.le_trans l2 (by decide))
  rw [← hq3] at v3 l3
  obtain ⟨v4, l4⟩ := c51q e q3 (Nat.lt_trans he (by decide)) (Nat.le_trans l3 (by decide))
  rw [← hq4] at v4 l4
  obtain ⟨p, hp⟩ : ∃ p, p = 19 * q4 := ⟨_, rfl⟩
  have hpn : p.toNat = 19 * q4.toNat := by rw [hp]; exact mul_n 19 q4 (by show 19 * _ < _; clear v0 v1 v2 v3 v4; omega)
  have hpl : p.toNat ≤ 19 := by rw [hpn]; clear v0 v1 v2 v3 v4; omega
  obtain ⟨r0, hr0⟩ : ∃ r, r = a + p := ⟨_, rfl⟩
  obtain ⟨r1, hr1⟩ : ∃ r, r = b + shr64 r0 51 := ⟨_, rfl⟩
  obtain ⟨r2, hr2⟩ : ∃ r, r = c + shr64 r1 51 := ⟨_, rfl⟩
  obtain ⟨r3, hr3⟩ : ∃ r, r = d + shr64 r2 51 := ⟨_, rfl⟩
  obtain ⟨r4, hr4⟩ : ∃ r, r = e + shr64 r3 51 := ⟨_, rfl⟩
  have k0 : rB [a, b, c, d, e] 0 = r0 := by rw [hr0, hp, ← hqB]; rfl
  have k1 : rB [a, b, c, d, e] 1 = r1 := by rw [hr1, ← k0]; rfl
  have k2 : rB [a, b, c, d, e] 2 = r2 := by rw [hr2, ← k1]; rfl
  have k3 : rB [a, b, c, d, e] 3 = r3 := by rw [hr3, ← k2]; rfl
  have k4 : rB [a, b, c, d, e] 4 = r4 := by rw [hr4, ← k3]; rfl
  have n0 : r0.toNat = a.toNat + 19 * q4.toNat := by rw [hr0, add_n _ _ (nl ha hpl), hpn]
  have g0 : r0.toNat < 2251799813685300 := by rw [n0]; clear v0 v1 v2 v3 v4; omega
  obtain ⟨n1, g1⟩ := rstp5 b r0 hb g0
  rw [← hr1] at n1 g1
  obtain ⟨n2, g2⟩ := rstp5 c r1 hc g1
  rw [← hr2] at n2 g2
  obtain ⟨n3, g3⟩ := rstp5 d r2 hd g2
  rw [← hr3] at n3 g3
  obtain ⟨n4, g4⟩ := rstp5 e r3 he g3
  rw [← hr4] at n4 g4
  have z0 : (sB [a, b, c, d, e] 0).toNat = r0.toNat % 2251799813685248 := by unfold sB; rw [k0, msk_n]
  have z1 : (sB [a, b, c, d, e] 1).toNat = r1.toNat % 2251799813685248 := by unfold sB; rw [k1, msk_n]
  have z2 : (sB [a, b, c, d, e] 2).toNat = r2.toNat % 2251799813685248 := by unfold sB; rw [k2, msk_n]
  have z3 : (sB [a, b, c, d, e] 3).toNat = r3.toNat % 2251799813685248 := by unfold sB; rw [k3, msk_n]
  have z4 : (sB [a, b, c, d, e] 4).toNat = r4.toNat % 2251799813685248 := by unfold sB; rw [k4, msk_n]
  have ch1 := chain (x0 := a.toNat + 19) (x1 := b.toNat) (x2 := c.toNat) (x3 := d.toNat) (x4 := e.toNat) rfl rfl rfl rfl rfl
  have ch2 := chain n0 n1 n2 n3 n4
  rw [← z0, ← z1, ← z2, ← z3, ← z4] at ch2
  obtain ⟨V, hV, hVl, hV2⟩ := ch2
  obtain ⟨U, _, hUl, hU2⟩ := ch1
  rw [← v0, Nat.add_comm b.toNat, Nat.add_comm q0.toNat, ← v1, ← v2, ← v3, ← v4] at hU2
  have hVr : V = nr [a, b, c, d, e] := by
    unfold nr
    rw [nv_5]
    clear z0 z1 z2 z3 z4 n0 n1 n2 n3 n4 k0 k1 k2 k3 k4 v0 v1 v2 v3 v4 hqB hq0 hq1 hq2 hq3 hq4 hV hp hpn
    refine fin5 (q := q4.toNat) (t := r4.toNat / 2251799813685248) P25519 U rfl ?_ hUl ?_ hVl ?_
    · clear hU2 hV2; omega
    · rw [← hU2]; clear hU2 hV2; omega
    · rw [← hV2]; clear hU2 hV2; omega
  have y0 : (sB [a, b, c, d, e] 0).toNat < 2251799813685248 := by rw [z0]; exact Nat.mod_lt _ (by decide)
  have y1 : (sB [a, b, c, d, e] 1).toNat < 2251799813685248 := by rw [z1]; exact Nat.mod_lt _ (by decide)
  have y2 : (sB [a, b, c, d, e] 2).toNat < 2251799813685248 := by rw [z2]; exact Nat.mod_lt _ (by decide)
  have y3 : (sB [a, b, c, d, e] 3).toNat < 2251799813685248 := by rw [z3]; exact Nat.mod_lt _ (by decide)
  have y4 : (sB [a, b, c, d, e] 4).toNat < 2251799813685248 := by rw [z4]; exact Nat.mod_lt _ (by decide)
  rw [← hVr]
  have hw4 : w4 [a, b, c, d, e] = [sB [a, b, c, d, e] 0 ||| shl64 (sB [a, b, c, d, e] 1) 51, shr64 (sB [a, b, c, d, e] 1) 13 ||| shl64 (sB [a, b, c, d, e] 2) 38, shr64 (sB [a, b, c, d, e] 2) 26 ||| shl64 (sB [a, b, c, d, e] 3) 25, shr64 (sB [a, b, c, d, e] 3) 39 ||| shl64 (sB [a, b, c, d, e] 4) 12] := rfl
  clear z0 z1 z2 z3 z4 n0 n1 n2 n3 n4 k0 k1 k2 k3 k4 hVr hU2 hV2 hUl hVl v0 v1 v2 v3 v4
  generalize sB [a, b, c, d, e] 0 = s0 at *
  generalize sB [a, b, c, d, e] 1 = s1 at *
  generalize sB [a, b, c, d, e] 2 = s2 at *
  generalize sB [a, b, c, d, e] 3 = s3 at *
  generalize sB [a, b, c, d, e] 4 = s4 at *
  have t1 := shl_n s1 51 (by decide)
  have t2 := shl_n s2 38 (by decide)
  have t3 := shl_n s3 25 (by decide)
  have t4 := shl_n s4 12 (by decide)
  have u1 := shr_n s1 13 (by decide)
  have u2 := shr_n s2 26 (by decide)
  have u3 := shr_n s3 39 (by decide)
  rw [show (2 : Nat) ^ 51 = 2251799813685248 from rfl, show (2 : Nat) ^ 64 = 18446744073709551616 from rfl] at t1
  rw [show (2 : Nat) ^ 38 = 274877906944 from rfl, show (2 : Nat) ^ 64 = 18446744073709551616 from rfl] at t2
  rw [show (2 : Nat) ^ 25 = 33554432 from rfl, show (2 : Nat) ^ 64 = 18446744073709551616 from rfl] at t3
  rw [show (2 : Nat) ^ 12 = 4096 from rfl, show (2 : Nat) ^ 64 = 18446744073709551616 from rfl] at t4
  rw [show (2 : Nat) ^ 13 = 8192 from rfl] at u1
  rw [show (2 : Nat) ^ 26 = 67108864 from rfl] at u2
  rw [show (2 : Nat) ^ 39 = 549755813888 from rfl] at u3
  have o0 := or_add s0 (shl64 s1 51) 51 (s1.toNat % 8192) y0 (by rw [t1]; exact Z1 _)
  have o1 := or_add (shr64 s1 13) (shl64 s2 38) 38 (s2.toNat % 67108864) (by rw [u1]; exact lt38 y1) (by rw [t2]; exact Z2 _)
  have o2 := or_add (shr64 s2 26) (shl64 s3 25) 25 (s3.toNat % 549755813888) (by rw [u2]; exact lt25 y2) (by rw [t3]; exact Z3 _)
  have o3 := or_add (shr64 s3 39) (shl64 s4 12) 12 (s4.toNat % 4503599627370496) (by rw [u3]; exact lt12 y3) (by rw [t4]; exact Z4 _)
  rw [t1] at o0
  rw [u1, t2] at o1
  rw [u2, t3] at o2
  rw [u3, t4] at o3
  obtain ⟨l0, l1, l2, l3, hs⟩ := s64 _ _ _ _ _ y0 y1 y2 y3 y4
  obtain ⟨W0, W1, W2, W3⟩ := d64 _ _ _ _ l0 l1 l2 l3 V (hV.trans hs)
  rw [← o0] at W0
  rw [← o1] at W1
  rw [← o2] at W2
  rw [← o3] at W3
  unfold byB le32
  apply List.map_congr_left
  intro j hj
  have hj : j < 32 := List.mem_range.1 hj
  have hWk : ((w4 [a, b, c, d, e]).getD (j / 8) 0).toNat = V / 2 ^ (64 * (j / 8)) % 18446744073709551616 := by
    rw [hw4]
    rcases d32 hj with h | h | h | h <;> rw [h]
    · rw [show (2 : Nat) ^ (64 * 0) = 1 from rfl, Nat.div_one]; exact W0
    · exact W1
    · exact W2
    · exact W3
  apply UInt8.toNat_inj.mp
  rw [UInt64.toNat_toUInt8, shr_n _ _ (d64b j), UInt8.toNat_ofNat', hWk, e256, ← Nat.div_div_eq_div_mul]
  exact by8x _ _ (Nat.mod_lt _ (by decide))
end Go.Sh
/- Calls of what the model stands in for: bits.Add64. -/
namespace Go.Sh
open Go.Proofs
set_option linter.unusedSimpArgs false

theorem lt_ext {P : Program} {H : Heap} {o : Oper} {R : Env} {x : Operand} {args : Array Operand} {tys : Array TypeId} {f : Nat} {zs : List SV} {z : SV} (ho : o.op = .call ⟨.value x, args, tys⟩)
    (hx : evO R x = some (.fn f [])) (hargs : args.toList.map (evO R) = zs.map some)
    (hrun : ∀ (ρ : Ren) (w : World) (vs : List Value), Rels ρ zs vs → ∃ rv, (callFunc f ⟨vs⟩).run P w = .ok (.value rv) w ∧ Rel ρ z rv) : LT P o R H [] [] (some z) := by
  refine LT.pure (by simp [ho]) fun e w ρ h1 _ => ?_
  have hxr := h1 x (by simp [ho, Op.operands, Call.operands]) _ hx
  simp only [Rel] at hxr
  obtain ⟨cs, he, hcs⟩ := hxr
  rw [Rels.nil_iff] at hcs; subst hcs
  have hv : Rels ρ zs (args.toList.map e) := by
    have : ∀ (l : List Operand) (zs : List SV), (∀ y ∈ l, y ∈ args.toList) → l.map (evO R) = zs.map some → Rels ρ zs (l.map e) := by
      intro l
      induction l with
      | nil => intro zs _ h; cases zs with
        | nil => exact Rels.nil_iff.2 rfl
        | cons _ _ => simp at h
      | cons y l ih =>
        intro zs hm h
        cases zs with
        | nil => simp at h
        | cons z zs =>
          simp only [List.map_cons, List.cons.injEq] at h
          exact Rels.cons (h1 y (by have := hm y (by simp); simp [ho, Op.operands, Call.operands]; exact .inr (by simpa using this)) _ h.1) (ih zs (fun y hy => hm y (by simp [hy])) h.2)
    exact this _ _ (fun _ h => h) hargs
  obtain ⟨rv, hr, hz⟩ := hrun ρ w _ hv
  refine ⟨rv, ?_, hz⟩
  have ea : (⟨args.toList.map e⟩ : Array Value) = args.map e := by
    apply Array.ext'; simp
  rw [ea] at hr
  unfold execOp
  simp only [ho, resolve, he, Deferred.ofValue, Sem.run_bind, Sem.run_pure, Result.andThen, invoke]
  simpa [Result.andThen] using hr

theorem run_add64F {P : Program} {f : FuncId} {fn : Func} (hf : P.funcs[f]? = some fn) (hname : (fn.name == "runtime.NumGoroutine") = false)
    (hb : fn.body.isNone = true) (hn : Extern.findNext fn = none) (he : Extern.find fn = some add64Entry) (x y c : UInt64) (hc : c.toNat ≤ 1) (w : World) :
    (callFunc f #[.int .u64 (x.toNat : Int), .int .u64 (y.toNat : Int), .int .u64 (c.toNat : Int)]).run P w =
      .ok (.value (.tuple #[.int .u64 (((x.toNat + y.toNat + c.toNat) % 18446744073709551616 : Nat) : Int), .int .u64 (((x.toNat + y.toNat + c.toNat) / 18446744073709551616 : Nat) : Int)])) w := by
  rw [run_callFunc_extern hf hname hb hn he, run_add64 _ _ _ (by omega) (by omega) (by omega) (by omega)]
  simp only [Result.andThen]
  congr 5 <;> omega

/-- A sum with a carry. -/
theorem ok1_add64 {P : Program} {o : Oper} {R : RL} {H : HL} {L : Nat} {k : K1} {x : Operand} {args : Array Operand} {tys : Array TypeId} {f : Nat} (fn : Func) (a b c s t : UInt64)
    (hf : P.funcs[f]? = some fn) (hname : (fn.name == "runtime.NumGoroutine") = false) (hb : fn.body.isNone = true) (hn : Extern.findNext fn = none) (he : Extern.find fn = some add64Entry)
    (ho : o.op = .call ⟨.value x, args, tys⟩) (hx : ev R x = some (.fn f [])) (hargs : evs R args.toList = some [.u64 a, .u64 b, .u64 c]) (hc : c.toNat ≤ 1)
    (hs : s.toNat = (a.toNat + b.toNat + c.toNat) % 18446744073709551616) (ht : t.toNat = (a.toNat + b.toNat + c.toNat) / 18446744073709551616)
    (h : k (some (.tup [.u64 s, .u64 t])) [] [] L) : Ok1 P o R H L k := by
  refine ⟨_, [], [], L, lt_ext (z := .tup [.u64 s, .u64 t]) ho (ev_some hx) (evs_eq hargs) ?_, Nat.le_refl _, by simp, h⟩
  intro ρ w vs hv
  have hv2 : vs = [.int .u64 (a.toNat : Int), .int .u64 (b.toNat : Int), .int .u64 (c.toNat : Int)] := by
    simp only [Rels, Rel] at hv
    obtain ⟨_, _, rfl, rfl, _, _, rfl, rfl, _, _, rfl, rfl, rfl⟩ := hv
    rfl
  subst hv2
  refine ⟨_, run_add64F hf hname hb hn he a b c hc w, ?_⟩
  rw [← hs, ← ht]
  simp only [Rel]
  exact ⟨_, rfl, Rels.cons (by simp only [Rel]) (Rels.cons (by simp only [Rel]) (Rels.nil_iff.2 rfl))⟩
end Go.Sh
/- A promise about a slice of a block that is only read holds of the slice as a part of a longer block. -/
namespace Go.Sh
set_option linter.unusedSimpArgs false

theorem rel_plain {ρ ρ' : Ren} {x : SV} {v : Value} (h : plainV x = true) (hr : Rel ρ x v) : Rel ρ' x v := by
  cases x <;> simp only [plainV, Bool.false_eq_true] at h <;> simpa only [Rel] using hr
theorem rels_plain {ρ ρ' : Ren} : ∀ {l : List SV} {vs : List Value}, plainL l = true → Rels ρ l vs → Rels ρ' l vs
  | [], _, _, h => by simpa only [Rels] using h
  | x :: l, vs, hp, h => by
    simp only [plainL, List.all_cons, Bool.and_eq_true] at hp
    simp only [Rels] at h ⊢
    obtain ⟨y, ys, e, hy, hys⟩ := h
    exact ⟨y, ys, e, rel_plain hp.1 hy, rels_plain (by simpa [plainL] using hp.2) hys⟩

def skp (j n : Nat) : List Nat := (List.range n).map fun k => if k = j then 1000000 else k
theorem pull_skp {j n : Nat} {ρ ρ' : Ren} (h : ∀ id, id ≠ j → ρ id = ρ' id) (hj : j ≠ 1000000) : pullR (skp j n) ρ = pullR (skp j n) ρ' := by
  funext k
  simp only [pullR, skp, List.getElem?_map]
  by_cases hk : k < n
  · rw [List.getElem?_range hk]
    simp only [Option.map_some]
    by_cases hkj : k = j
    · rw [if_pos hkj]; exact h _ (fun e => hj e.symm)
    · rw [if_neg hkj]; exact h _ hkj
  · rw [List.getElem?_eq_none (by simp; omega)]; rfl

def shA (j o : Nat) : SV → SV
  | .sl id q n sz f => match Nat.beq id j with | true => .sl id (o + q) n sz f | false => .sl id q n sz f
  | x => x

def isSl (j : Nat) : SV → Bool
  | .sl id _ _ _ _ => Nat.beq id j
  | _ => false
def argOk (j n : Nat) : List SV → Prop
  | [] => True
  | x :: xs => (isSl j x = true ∨ (isSl j x = false ∧ renV (skp j n) x = some x)) ∧ argOk j n xs
def blkOk (j n : Nat) : Nat → HL → Prop
  | _, [] => True
  | k, none :: H => blkOk j n (k + 1) H
  | k, some b :: H => (k = j ∨ plainB b = true ∨ renB (skp j n) b = some b) ∧ blkOk j n (k + 1) H

theorem blkOk_get {j n : Nat} : ∀ {H : HL} {k id : Nat} {b : SB}, blkOk j n k H → hg H id = some b → k + id = j ∨ renB (skp j n) b = some b
  | [], k, id, b, _, h => by simp [hg] at h
  | none :: H, k, 0, b, _, h => by simp [hg] at h
  | none :: H, k, id + 1, b, ho, h => by
    have := blkOk_get (H := H) (k := k + 1) (id := id) ho (by simpa [hg] using h)
    rcases this with e | e
    · exact .inl (by omega)
    · exact .inr e
  | some b1 :: H, k, 0, b, ho, h => by
    have e : b1 = b := by simpa [hg] using h
    subst e
    rcases ho.1 with h1 | h1 | h1
    · exact .inl (by omega)
    · exact .inr (renB_plain _ h1)
    · exact .inr h1
  | some b1 :: H, k, id + 1, b, ho, h => by
    have := blkOk_get (H := H) (k := k + 1) (id := id) ho.2 (by simpa [hg] using h)
    rcases this with e | e
    · exact .inl (by omega)
    · exact .inr e

theorem hg_set {H : HL} {j id : Nat} {b : SB} (hj : j < H.length) : hg (H.set j (some b)) id = if id = j then some b else hg H id := by
  unfold hg
  rw [List.getElem?_set]
  by_cases h : j = id
  · subst h; simp [hj]
  · rw [if_neg h, if_neg (fun e => h e.symm)]

theorem SCall.sub {P : Program} {f : Nat} {args : List SV} {H0 : HL} {ret : SV} {H1 : HL} (h : SCall P f args H0 ret H1) (j o : Nat) (L l0 : List SV) (n : Nat)
    (hj0 : hg H0 j = some (.ro l0)) (hj1 : hg H1 j = some (.ro l0)) (hL : (L.drop o).take l0.length = l0) (hp : plainL L = true) (hp0 : plainL l0 = true) (hjn : j ≠ 1000000)
    (ha : argOk j n args) (hr : renV (skp j n) ret = some ret) (h0 : blkOk j n 0 H0) (h1 : blkOk j n 0 H1) :
    SCall P f (args.map (shA j o)) (H0.set j (some (.ro L))) ret (H1.set j (some (.ro L))) := by
  have hjl0 : j < H0.length := by unfold hg at hj0; rcases Nat.lt_or_ge j H0.length with h | h; exact h; rw [List.getElem?_eq_none h] at hj0; simp at hj0
  have hjl1 : j < H1.length := by unfold hg at hj1; rcases Nat.lt_or_ge j H1.length with h | h; exact h; rw [List.getElem?_eq_none h] at hj1; simp at hj1
  have hlen : l0.length ≤ L.length - o := by have := congrArg List.length hL; simp at this; omega
  refine ⟨h.fn, fun nn ρ w vs hA hH hS hF => ?_⟩
  obtain ⟨rb, hρ, hB⟩ := hH j (.ro L) (by rw [hg_set hjl0, if_pos rfl])
  let rbs : RB := { rb with off := rb.off + o, cap := rb.cap - o }
  let ρs : Ren := fun id => if id = j then some rbs else ρ id
  have hρs : ∀ id, id ≠ j → ρs id = ρ id := fun id hid => if_neg hid
  have hsj : ρs j = some rbs := if_pos rfl
  have tr : ∀ {ρa ρb : Ren} {x : SV} {v : Value}, (∀ id, id ≠ j → ρa id = ρb id) → renV (skp j n) x = some x → Rel ρa x v → Rel ρb x v := by
    intro ρa ρb x v e hx hv
    have h1 := (rel_ren x hx (ρ := ρa)).2 hv
    rw [pull_skp e hjn] at h1
    exact (rel_ren x hx (ρ := ρb)).1 h1
  have trB : ∀ {ρa ρb : Ren} {b : SB} {w : World} {r : RB}, (∀ id, id ≠ j → ρa id = ρb id) → renB (skp j n) b = some b → BRel ρa w r b → BRel ρb w r b := by
    intro ρa ρb b w r e hx hv
    have h1 := (brel_ren hx (ρ := ρa) (w := w) (rb := r)).2 hv
    rw [pull_skp e hjn] at h1
    exact (brel_ren hx).1 h1
  -- the arguments
  have hA' : Rels ρs args vs := by
    have : ∀ (xs : List SV) (us : List Value), argOk j n xs → Rels ρ (xs.map (shA j o)) us → Rels ρs xs us := by
      intro xs
      induction xs with
      | nil => intro us _ h; simpa only [List.map_nil, Rels] using h
      | cons x xs ih =>
        intro us hok h
        simp only [List.map_cons, Rels] at h ⊢
        obtain ⟨y, ys, e, hy, hys⟩ := h
        refine ⟨y, ys, e, ?_, ih ys hok.2 hys⟩
        rcases hok.1 with hx | ⟨hx0, hx⟩
        · cases x with
          | sl id q nn2 sz full =>
            simp only [isSl] at hx
            have hid : id = j := Nat.eq_of_beq_eq_true hx
            subst hid
            simp only [shA, hx, Rel] at hy
            obtain ⟨rb2, a, c, g1, g2, g3, g4, g5⟩ := hy
            rw [hρ] at g1; cases g1
            simp only [Rel]
            refine ⟨rbs, a, c, hsj, g2, g3, g4, ?_⟩
            rcases g5 with g5 | ⟨g5, g6, g7⟩
            · exact .inl g5
            · exact .inr ⟨g5, by rw [g6]; simp only [rbs, Nat.add_assoc], by simp only [rbs]; omega⟩
          | _ => simp [isSl] at hx
        · have e2 : shA j o x = x := by
            cases x <;> first | rfl | (simp only [isSl] at hx0; simp only [shA, hx0])
          rw [e2] at hy
          exact tr (fun id hid => (hρs id hid).symm) hx hy
    exact this args vs ha hA
  -- the block
  have hBs : ∀ {ρ1 : Ren} {w1 : World}, BRel ρ1 w1 rb (.ro L) → BRel ρs w1 rbs (.ro l0) := by
    intro ρ1 w1 hb
    by_cases hl0 : l0 = []
    · exact .inl hl0
    have hpos : 0 < l0.length := List.length_pos_iff.2 hl0
    rcases hb with rfl | ⟨⟨c, t, fz, g1, g2, g3, g4, g5⟩, g6, g7⟩
    · exact absurd (List.eq_nil_of_length_eq_zero (by simpa using hlen)) hl0
    · right
      refine ⟨⟨c, t, fz, g1, ?_, ?_, fun h => (by cases h), ?_⟩, by simp only [rbs]; omega, g7⟩
      · have : ∀ l : List SV, plainL l = true → atoms l = true := by
          intro l; induction l with
          | nil => intro _; rfl
          | cons x xs ih =>
            intro h
            simp only [plainL, List.all_cons, Bool.and_eq_true] at h
            simp only [atoms, List.all_cons, Bool.and_eq_true]
            exact ⟨by cases x <;> simp_all [plainV, SV.atom], by simpa [atoms] using ih (by simpa [plainL] using h.2)⟩
        exact this l0 hp0
      · have := Rels.take l0.length (Rels.drop o g3)
        rw [hL] at this
        have e : List.take l0.length (List.drop o (List.take L.length (List.drop rb.off c.toList))) = List.take l0.length (List.drop rbs.off c.toList) := by
          simp only [rbs]
          rw [List.drop_take, List.drop_drop, List.take_take]
          congr 1; omega
        rw [e] at this
        exact rels_plain hp0 this
      · simp only [rbs]; omega
  have hgt : ∀ {H : HL} {b : SB}, j < H.length → hg (H.set j (some b)) j = some b := fun {H b} hl => by rw [hg_set hl, if_pos rfl]
  have hgo : ∀ {H : HL} {b : SB} {id : Nat}, j < H.length → id ≠ j → hg (H.set j (some b)) id = hg H id := fun {H b id} hl hid => by rw [hg_set hl, if_neg hid]
  have hHs : HRel ρs (hg H0) w := by
    intro id b hb
    by_cases hid : id = j
    · subst hid
      rw [hj0] at hb; cases hb
      exact ⟨rbs, hsj, hBs hB⟩
    · obtain ⟨r, e1, e2⟩ := hH id b (by rw [hgo hjl0 hid]; exact hb)
      exact ⟨r, by rw [hρs id hid]; exact e1, trB (fun id hid => (hρs id hid).symm) ((blkOk_get h0 hb).resolve_left (by omega)) e2⟩
  have hfoot : ∀ k q, foot rbs (.ro l0) k q → foot rb (.ro L) k q := fun k q ⟨e1, e2, e3⟩ => by
    simp only [rbs] at e1 e2 e3
    exact ⟨e1, by omega, by omega⟩
  have hown : ∀ k q, Owned ρs (hg H0) k q → Owned ρ (hg (H0.set j (some (.ro L)))) k q ∧ ¬ foot rb (.ro L) k q := by
    rintro k q ⟨id, b, r, e1, e2, e3, e4⟩
    have hid : id ≠ j := fun e => by subst e; rw [hj0] at e1; cases e1; cases e3
    rw [hρs id hid] at e2
    exact ⟨⟨id, b, r, by rw [hgo hjl0 hid]; exact e1, e2, e3, e4⟩, fun hf => hS id j b (.ro L) r rb hid (by rw [hgo hjl0 hid]; exact e1) (hgt hjl0) e2 hρ e3 k q ⟨e4, hf⟩⟩
  have hSs : Sep ρs (hg H0) := by
    intro i k bi bk ri rk hne hi hk hri hrk hw q p ⟨hfi, hfk⟩
    have hij : i ≠ j := fun e => by subst e; rw [hj0] at hi; cases hi; cases hw
    rw [hρs i hij] at hri
    by_cases hkj : k = j
    · subst hkj
      rw [hj0] at hk; cases hk
      rw [hsj] at hrk; cases hrk
      exact hS i k bi (.ro L) ri rb hne (by rw [hgo hjl0 hij]; exact hi) (hgt hjl0) hri hρ hw q p ⟨hfi, hfoot q p hfk⟩
    · rw [hρs k hkj] at hrk
      exact hS i k bi bk ri rk hne (by rw [hgo hjl0 hij]; exact hi) (by rw [hgo hjl0 hkj]; exact hk) hri hrk hw q p ⟨hfi, hfk⟩
  have hFs : ∀ id, H0.length ≤ id → ρs id = none := fun id hid => by
    rw [hρs id (by omega)]; exact hF id (by simpa using hid)
  refine (h.call nn ρs w vs hA' hHs hSs hFs).mono fun e w' hR => ?_
  cases e with
  | returned v =>
    obtain ⟨ρ1, q1, q2, q3, q4, q5⟩ := hR
    let ρ2 : Ren := fun id => if id = j then some rb else ρ1 id
    have h21 : ∀ id, id ≠ j → ρ2 id = ρ1 id := fun id hid => if_neg hid
    have h2j : ρ2 j = some rb := if_pos rfl
    have hB2 : BRel ρ2 w' rb (.ro L) := by
      rcases hB with hB | ⟨⟨c, t, fz, g1, g2, g3, g4, g5⟩, g6, g7⟩
      · exact .inl hB
      · obtain ⟨c', k1, k2, k3⟩ := q5.fr.blk rb.blk _ g1
        have hsame : ∀ i, rb.off ≤ i → i < rb.off + L.length → c'[i]? = c[i]? := fun i h1 h2 => k3 i fun ho => (hown _ _ ho).2 ⟨rfl, h1, h2⟩
        have e : List.take L.length (List.drop rb.off c'.toList) = List.take L.length (List.drop rb.off c.toList) := by
          apply List.ext_getElem?
          intro i
          by_cases hi : i < L.length
          · rw [List.getElem?_take_of_lt hi, List.getElem?_take_of_lt hi, List.getElem?_drop, List.getElem?_drop, Array.getElem?_toList, Array.getElem?_toList]
            exact hsame _ (by omega) (by omega)
          · rw [List.getElem?_eq_none (by simp; omega), List.getElem?_eq_none (by simp; omega)]
        exact .inr ⟨⟨c', t, fz, k1, g2, by rw [e]; exact rels_plain hp g3, fun h => (by cases h), by omega⟩, g6, g7⟩
    refine ⟨ρ2, tr (fun id hid => (h21 id hid).symm) hr q1, ?_, ?_, ?_, ?_, ?_, ?_⟩
    · intro id b hb
      by_cases hid : id = j
      · subst hid
        rw [hgt hjl1] at hb; cases hb
        exact ⟨rb, h2j, hB2⟩
      · rw [hgo hjl1 hid] at hb
        obtain ⟨r, e1, e2⟩ := q2 id b hb
        exact ⟨r, by rw [h21 id hid]; exact e1, trB (fun id hid => (h21 id hid).symm) ((blkOk_get h1 hb).resolve_left (by omega)) e2⟩
    · intro i k bi bk ri rk hne hi hk hri hrk hw q p ⟨hfi, hfk⟩
      have hij : i ≠ j := fun e => by subst e; rw [hgt hjl1] at hi; cases hi; cases hw
      rw [h21 i hij] at hri
      rw [hgo hjl1 hij] at hi
      by_cases hkj : k = j
      · subst hkj
        rw [hgt hjl1] at hk; cases hk
        rw [h2j] at hrk; cases hrk
        have hb := q5.own q p ⟨i, bi, ri, hi, hri, hw, hfi⟩
        rcases hb with hb | hb
        · exact (hown _ _ hb).2 hfk
        · rcases hB with hB | ⟨⟨c, t, fz, g1, _⟩, _⟩
          · subst hB; have := hfk.2; simp at this; omega
          · have hlt := (Array.getElem?_eq_some_iff.1 g1).1
            have := hfk.1
            omega
      · rw [h21 k hkj] at hrk
        rw [hgo hjl1 hkj] at hk
        exact q3 i k bi bk ri rk hne hi hk hri hrk hw q p ⟨hfi, hfk⟩
    · intro id hid
      rw [List.length_set] at hid
      rw [h21 id (by omega)]; exact q4 id hid
    · intro id hid r hr2
      rw [List.length_set] at hid
      by_cases hij : id = j
      · subst hij; rw [hρ] at hr2; cases hr2; exact h2j
      · rw [h21 id hij]; exact q5.ext id hid r (by rw [hρs id hij]; exact hr2)
    · exact q5.fr.mono (fun k q _ ho => (hown k q ho).1)
    · rintro k q ⟨id, b, r, e1, e2, e3, e4⟩
      have hij : id ≠ j := fun e => by subst e; rw [hgt hjl1] at e1; cases e1; cases e3
      rw [hgo hjl1 hij] at e1
      rw [h21 id hij] at e2
      exact (q5.own k q ⟨id, b, r, e1, e2, e3, e4⟩).imp (fun ho => (hown k q ho).1) (fun h => h)
  | _ => exact hR
end Go.Sh
/- Calls whose blocks are told outright. -/
namespace Go.Sh
set_option linter.unusedSimpArgs false

/-- The blocks under the caller's names. -/
def renHs (sel : List Nat) : HL → HL → Prop
  | [], [] => True
  | none :: a, none :: b => renHs sel a b
  | some x :: a, some y :: b => (y.own = x.own ∧ match x.own with | true => renB sel x = some y | false => True) ∧ renHs sel a b
  | _, _ => False

theorem cW_renHs {sel : List Nat} : ∀ (ss : List Nat) (H0 H1 H1r : HL) (W : Upd), renHs sel H1 H1r → cWp ss H0 H1r = some W → cW sel ss H0 H1 = some W
  | s :: ss, some b0 :: H0, none :: H1, none :: H1r, W, h, hw => by
    simp only [renHs] at h
    simp only [cWp] at hw
    split at hw
    · rename_i W2 hw2
      simp only [cW, cW_renHs ss H0 H1 H1r W2 h hw2]
      exact hw
    · cases hw
  | s :: ss, some b0 :: H0, some x :: H1, some y :: H1r, W, h, hw => by
    simp only [renHs] at h
    obtain ⟨⟨h1, h2⟩, h3⟩ := h
    simp only [cWp] at hw
    split at hw
    · rename_i W2 hw2
      simp only [cW, cW_renHs ss H0 H1 H1r W2 h3 hw2]
      cases hb : b0.own with
      | false => rw [hb] at hw; exact hw
      | true =>
        rw [hb] at hw
        simp only at hw ⊢
        rw [h1] at hw
        cases hx : x.own with
        | true => rw [hx] at h2 hw; simp only at h2 hw ⊢; rw [h2]; exact hw
        | false => rw [hx] at hw; cases hw
    · cases hw
  | s :: ss, [], none :: H1, none :: H1r, W, h, hw => by
    simp only [renHs] at h
    simp only [cWp] at hw
    split at hw
    · rename_i W2 hw2
      simp only [cW, cW_renHs ss [] H1 H1r W2 h hw2]
      exact hw
    · cases hw
  | s :: ss, [], some x :: H1, some y :: H1r, W, h, hw => by
    simp only [renHs] at h
    obtain ⟨⟨h1, h2⟩, h3⟩ := h
    simp only [cWp] at hw
    split at hw
    · rename_i W2 hw2
      simp only [cW, cW_renHs ss [] H1 H1r W2 h3 hw2]
      rw [h1] at hw
      cases hx : x.own with
      | true => rw [hx] at h2 hw; simp only at h2 hw ⊢; rw [h2]; exact hw
      | false => rw [hx] at hw; cases hw
    · cases hw
  | [], [], [], [], W, _, hw => by simpa only [cW, cWp] using hw
  | _, _, [], _ :: _, _, h, _ => by simp only [renHs] at h
  | _, _, _ :: _, [], _, h, _ => by simp [renHs] at h
  | _, _, none :: _, some _ :: _, _, h, _ => by simp only [renHs] at h
  | _, _, some _ :: _, none :: _, _, h, _ => by simp only [renHs] at h
  | [], _ :: _, [], [], _, _, hw => by simp [cWp] at hw
  | [], _, none :: _, none :: _, _, _, hw => by simp [cWp] at hw
  | [], _, some _ :: _, some _ :: _, _, _, hw => by simp [cWp] at hw
  | _ :: _, none :: _, _, _, _, _, hw => by simp [cWp] at hw
  | _ :: _, [], [], [], _, _, hw => by simp [cWp] at hw
  | _ :: _, some _ :: _, [], [], _, _, hw => by simp [cWp] at hw

theorem rb_boxa {sel : List Nat} {a b c : List SV} (ha : plainL a = true) (h : renL sel b = some c) : renB sel (.box (a ++ b)) = some (.box (a ++ c)) := by
  simp only [renB, ren_app ha h]

def sopCallE (H1r : HL) (z : SV) (R : RL) (H : HL) (L : Nat) (x : Operand) (args : List Operand) (f : Nat) (sel : List Nat) (args0 : List SV) (H0 : HL) (ret : SV) (H1 : HL) (k : K1) : Prop :=
  (match ev R x with
    | some (.fn g caps) => match evs R args with
      | some zs => g = f ∧ renL sel args0 = some (zs ++ caps)
      | none => False
    | _ => False) ∧ okH sel H sel H0 ∧ renHs (sel ++ newSel L (H1.length - H0.length)) H1 H1r ∧ renV (sel ++ newSel L (H1.length - H0.length)) ret = some z ∧
  match Nat.beq sel.length H0.length with
  | true => match dupOk sel 0 sel H0 with
    | true => match cWp (sel ++ newSel L (H1.length - H0.length)) H0 H1r with
      | some W => k (some z) W sel (L + (H1.length - H0.length))
      | none => False
    | false => False
  | false => False

theorem ok1_callE {P : Program} {o : Oper} {R : RL} {H : HL} {L : Nat} {k : K1} {x : Operand} {args : Array Operand} {tys : Array TypeId} {f : Nat} {args0 : List SV} {H0 H1 : HL} {ret : SV} (sel : List Nat) (H1r : HL) (z : SV)
    (hc : SCall P f args0 H0 ret H1) (ho : o.op = .call ⟨.value x, args, tys⟩) (hle : Nat.ble H.length L = true) (h : sopCallE H1r z R H L x args.toList f sel args0 H0 ret H1 k) : Ok1 P o R H L k := by
  obtain ⟨h1, h2, hp, hr, h3⟩ := h
  refine ok1_call sel hc ho hle ⟨h1, h2, ?_⟩
  cases hl : Nat.beq sel.length H0.length with
  | false => rw [hl] at h3; exact h3.elim
  | true =>
    rw [hl] at h3
    simp only at h3 ⊢
    cases hd : dupOk sel 0 sel H0 with
    | false => rw [hd] at h3; exact h3.elim
    | true =>
      rw [hd] at h3
      simp only at h3 ⊢
      cases hw : cWp (sel ++ newSel L (H1.length - H0.length)) H0 H1r with
      | none => rw [hw] at h3; exact h3.elim
      | some W =>
        rw [hw] at h3
        rw [cW_renHs _ _ _ _ _ hp hw]
        simp only [hr]
        exact h3
end Go.Sh
/- clear, of a slice of one-cell values. -/
namespace Go.Sh
section
variable {P : Program} {ρ : Ren} {H : Heap} {w : World}

theorem zeroCells_one (v : Value) (n : Nat) : (Builtin.zeroCells #[v] n).toList = List.replicate n v := by
  apply List.ext_getElem?
  intro j
  unfold Builtin.zeroCells
  by_cases h : j < n
  · simp [h, Nat.mod_one]
  · simp [h]

theorem clear_ok {o : Oper} {x : Operand} {t el id k n : Nat} {full : Bool} {b : SB} {z : SV} {rb : RB} {e : Operand → Value} (ho : o.op = .call { callee := .builtin .clear, args := #[x], argTypes := #[t] })
    (hT : P.underlying t = some (.slice el)) (hz : pzero P el = some z) (hza : z.atom = true) (hx : Rel ρ (.sl id k n 1 full) (e x)) (hid : H id = some b) (hr : ρ id = some rb) (hb : BRel ρ w rb b) (hown : b.own = true) (hin : k + n ≤ b.cells.length)
    (h0 : 0 < b.cells.length) :
    ∃ w', (execOp e o).run P w = .ok (.value (.tuple #[])) w' ∧ Chg ρ H w [(id, some (b.with (sput b.cells k (.agg (List.replicate n z)))))] ρ w' := by
  obtain ⟨zv, hzv, hzr, _⟩ := run_zero (w := w) hz
  have hrel : Rel ρ (.agg (List.replicate n z)) (.agg ⟨List.replicate n zv⟩) := by
    simp only [Rel]
    refine ⟨_, rfl, ?_, Rels.replicate (hzr ρ) n⟩
    simp only [atoms, List.all_eq_true]
    exact fun y hy => by rw [(List.mem_replicate.1 hy).2]; exact hza
  obtain ⟨p1, p2, p3⟩ := hb.put (k := k) hown hrel (by simp) (by simpa [SV.cells] using hin) h0
  simp only [Rel] at hx
  obtain ⟨rb', a, cap, hr', he, hnc, hfull, hdis⟩ := hx
  rw [hr] at hr'; cases hr'
  have hzc : zv.cells = #[zv] := (hzr ρ).cells hza
  have hclear : ∀ w', (match a with | some a => if n = 0 then Result.ok () w else (storeCells a (List.replicate n zv)).run P w | none => Result.ok () w) = .ok () w' → (execOp e o).run P w = .ok (.value (.tuple #[])) w' := fun w' hst => by
    simp only [execOp, ho, resolve, invoke, builtin, Sem.run_bind, Sem.run_pure, Result.andThen_ok, List.map_toArray, List.map_cons, List.map_nil, Builtin.clear_, List.getElem?_toArray, List.getElem?_cons_zero, run_und hT, he]
    cases a with
    | none => simp only at hst; cases hst; rfl
    | some a =>
      cases n with
      | zero => simp only [if_true] at hst; cases hst; rfl
      | succ n =>
        simp only [Nat.add_one_ne_zero, if_false] at hst
        simp only [Sem.run_bind, hzv, Result.andThen_ok, hzc, zeroCells_one, hst, Sem.run_pure]
  by_cases hz0 : n = 0
  · subst hz0
    refine ⟨w, hclear w ?_, ?_⟩
    · cases a <;> rfl
    · have : World.putCells w rb.blk (rb.off + k) (Value.cells (.agg ⟨List.replicate 0 zv⟩)).toList = w := putCells_nil w _ _
      rw [this] at p1 p2
      exact Chg.put hid hr hown p3 p1 p2
  · obtain ⟨hv, ha2, hcapb⟩ := hdis.resolve_left (by omega)
    obtain ⟨⟨ca, ty, fz, hca, _, hrl, hzz, hsz⟩, _⟩ := hb.cellsAt h0
    rw [hown] at hzz
    have hst := run_puts (P := P) (o := rb.off + k) (List.replicate n zv) 0 hca (hzz rfl) (by have := hrl.length; simp at this ⊢; omega) (fun v hv => by rw [(List.mem_replicate.1 hv).2]; exact (hzr ρ).oneCell hza)
    exact ⟨_, hclear _ (by rw [ha2]; simp only [hz0, if_false]; exact hst), Chg.put hid hr hown p3 p1 p2⟩
end
theorem lt_clear {P : Program} {H : Heap} {o : Oper} {R : Env} {x : Operand} {t el n id k : Nat} {full : Bool} {b : SB} {z : SV} (ho : o.op = .call { callee := .builtin .clear, args := #[x], argTypes := #[t] })
    (hT : P.underlying t = some (.slice el)) (hz : pzero P el = some z) (hza : z.atom = true) (hx : evO R x = some (.sl id k n 1 full)) (hid : H id = some b) (hown : b.own = true) (hin : k + n ≤ b.cells.length) (h0 : 0 < b.cells.length) :
    LT P o R H [id] [(id, some (b.with (sput b.cells k (.agg (List.replicate n z)))))] (some (.tup [])) := by
  refine LT.of_run (by simp [ho]) fun e w ρ h1 h2 _ hfresh => ?_
  have hx2 := h1 x (by simp [ho, Op.operands, Call.operands]) _ hx
  obtain ⟨rb, hr, hbr⟩ := h2 id (by simp) _ hid
  obtain ⟨w', a1, a2⟩ := clear_ok (w := w) (H := H) ho hT hz hza hx2 hid hr hbr hown hin h0
  exact ⟨_, w', ρ, a1, a2, .inl ⟨_, rfl, fun u hu => by cases hu; simp only [Rel]; exact ⟨[], rfl, by simp only [Rels]⟩⟩⟩

/-- clear, in a walk. -/
theorem ok1_clear {P : Program} {o : Oper} {R : RL} {H : HL} {L : Nat} {k : K1} {x : Operand} {t : Nat} (el id off n e : Nat) (full : Bool) (l : List SV) (z : SV) (ho : o.op = .call { callee := .builtin .clear, args := #[x], argTypes := #[t] })
    (hT : P.underlying t = some (.slice el)) (hz : pzero P el = some z) (hza : z.atom = true) (hx : ev R x = some (.sl id off n 1 full)) (hid : hk H id = some (.row e l)) (hin : off + n ≤ l.length) (h0 : 0 < l.length) (hl : H.length ≤ L)
    (h : k (some (.tup [])) [(id, some (.row e (sput l off (.agg (List.replicate n z)))))] [id] L) : Ok1 P o R H L k :=
  ok1_put (hk_lt hl hid) (by simp) (lt_clear ho hT hz hza (ev_some hx) (hk_some hid) rfl hin h0) h
end Go.Sh
/- A range over a function, its round's code under names. -/
namespace Go.Sh
theorem range_named {P : Program} {N A : Nat} {g : Operand} {ps : List Nat} {as_ bd : Code} {Q : Exit → RL → HL → Nat → Prop} {R : RL} {H : HL} {L : Nat} {gf : Nat} {caps : List SV} {fn : Func} {c : Code}
    (hg0 : ev R g = some (.fn gf caps)) (hle : Nat.ble H.length L = true) (hA : Nat.ble A L = true) (hf : P.funcs[gf]? = some fn) (hb : fn.body = some c) (hnm : (fn.name == "runtime.NumGoroutine") = false) (hres : fn.results = #[]) (hnt : Nat.ble (caps.length + 1) fn.ntmps = true)
    (hwalk : ∀ a b, a = as_ → b = bd → SWp P (· = none) fn.ntmps (L + 1) c (rangeQ L R Q) (regs 0 (.yld L :: caps)) (hput H L (some (.obj (.loop R N ps a b)))) (L + 1)) :
    SWp P (· = none) N A (.rangeFunc g ⟨ps⟩ as_ bd) Q R H L := range_rule hg0 hle hA hf hb hnm hres hnt (hwalk _ _ rfl rfl)
end Go.Sh
/- field: Small (f22), carried (f85), Add (f26), Sub (f27), Mul64 (f86), Add64. -/
namespace Go.Sh
open Go.Proofs
set_option maxHeartbeats 4000000
set_option linter.unusedSimpArgs false

def smallL (n : UInt32) : List UInt64 := [n.toUInt64, 0, 0, 0, 0]
theorem f22 (n : UInt32) : SCall Try.prog 22 [.u32 n] [] (.agg ((smallL n).map .u64)) [] := by
  refine scall_of ttOk (by kernel_rfl : Try.prog.funcs[22]? = some Try.f22) rfl rfl rfl ?_
  try simp only [List.length_cons, List.length_nil, Nat.zero_add, Nat.reduceAdd]
  refine sw_ok ttOk mixed (by kernel_rfl) ?_
  conv => whnf
  repeat (first | (refine Exists.intro _ (And.intro (sload_all rfl (by first | rfl | fail)) ?_); conv => whnf) | (refine Exists.intro _ (And.intro (sput_all rfl (by first | rfl | fail)) ?_); conv => whnf) | (refine Exists.intro _ (And.intro rfl ?_); conv => whnf) | (refine And.intro (by first | (simp; done) | fail) ?_; conv => whnf) | fail)
  refine ⟨[], ?_, rfl, rfl, ?_, rfl⟩
  · (repeat' (first | (refine wk_agg ?_) | (refine wk_cons ?_ ?_))) <;> first | rfl | fail
  · (repeat' (first | exact trivial | fail)) <;> fail
def carI (l : List UInt64) : Nat → List UInt64
  | 0 => l
  | i + 1 => car1 (carI l i)
theorem carI_len {l : List UInt64} (h : l.length = 5) : ∀ i, (carI l i).length = 5
  | 0 => h
  | _ + 1 => rfl
theorem f85 (l : List UInt64) (hl : l.length = 5) : SCall Try.prog 85 [.agg (l.map .u64)] [] (.agg ((carL l).map .u64)) [] := by
  refine scall_of ttOk (by kernel_rfl : Try.prog.funcs[85]? = some Try.f85) rfl rfl rfl ?_
  try simp only [List.length_cons, List.length_nil, Nat.zero_add, Nat.reduceAdd]
  refine sw_ok ttOk mixed (by kernel_rfl) ?_
  conv => whnf
  repeat (fail)
  refine loop_rule ttOk mixed (by kernel_rfl) (ι := { i : Nat // i ≤ 2 }) (fun i => [(1, .p 0 0), (2, .p 1 0), (5, .i (i.1 : Int))]) (fun i => [some (.box ((carI l i.1).map .u64)), some (.box (List.replicate 5 (.u64 0)))]) (fun _ => 2) (fun i => 2 - i.1) ⟨0, by omega⟩ ?_ ?_
  · refine Weak.sel [0, 1] rfl rfl ?_ ?_ rfl rfl
    · (repeat' (first | exact trivial | refine And.intro ?_ ?_ | fail)) <;> first | rfl | fail
    · (repeat' (first | exact trivial | refine And.intro ?_ ?_ | (refine wk_cons ?_ ?_))) <;> first | rfl | exact ren_eq (by first | (simp; done) | fail) (by first | rfl | fail) | fail
  · rintro ⟨i, hi⟩
    obtain ⟨p, q, r, s, t, h5⟩ := ex5 (carI_len hl i)
    have hs : carI l (i + 1) = car1 [p, q, r, s, t] := by show car1 (carI l i) = _; rw [h5]
    dsimp only
    by_cases hi2 : i < 2
    · have hlt : decide ((i : Int) < 2) = true := by simp; omega
      have hp1 : w64 ((i : Int) + 1) = ((i + 1 : Nat) : Int) := by simp only [w64_eq]; omega
      rw [h5]
      conv => whnf
      first | refine brT (by exact hlt) ?_ | fail
      conv => whnf
      repeat (fail)
      refine loop_rounds ttOk mixed (by kernel_rfl) 6 ?_
      conv => whnf
      repeat (first | (refine brT rfl ?_; conv => whnf) | (refine brF rfl ?_; conv => whnf) | (refine Exists.intro _ (And.intro rfl ?_); conv => whnf) | (refine And.intro (by first | omega | (simp; done) | fail) ?_; conv => whnf) | (refine And.intro (Nat.le_of_ble_eq_true rfl) ?_; conv => whnf) | (refine And.intro ⟨rfl, Nat.le_of_ble_eq_true rfl⟩ ?_; conv => whnf) | (refine And.intro (by kernel_rfl) ?_; conv => whnf) | fail)
      refine ⟨⟨i + 1, by omega⟩, by simp only; omega, ?_⟩
      dsimp only
      rw [hs]
      refine Weak.sel [0, 1] rfl rfl ?_ ?_ rfl rfl
      · (repeat' (first | exact trivial | refine And.intro ?_ ?_ | fail)) <;> first | exact wk_i (by first | exact hp1 | exact hp1.symm | fail) | rfl | fail
      · (repeat' (first | exact trivial | refine And.intro ?_ ?_ | (refine wk_cons ?_ ?_))) <;> first | rfl | fail
    · obtain rfl : i = 2 := by omega
      have hfin : carI l 2 = carL l := rfl
      rw [hfin]
      have hcl := carL_len l
      conv => whnf
      first | refine brF (by rfl) ?_ | fail
      conv => whnf
      repeat (first | (refine Exists.intro _ (And.intro (sload_all rfl (by first | rfl | fail)) ?_); conv => whnf) | (refine Exists.intro _ (And.intro (sput_all rfl (by first | rfl | fail)) ?_); conv => whnf) | (refine Exists.intro _ (And.intro rfl ?_); conv => whnf) | (refine And.intro ⟨rfl, Nat.le_of_ble_eq_true rfl⟩ ?_; conv => whnf) | fail)
      refine ⟨[], ?_, rfl, rfl, ?_, rfl⟩
      · (repeat' (first | (refine wk_agg ?_) | (refine wk_cons ?_ ?_))) <;> first | rfl | fail
      · (repeat' (first | exact trivial | fail)) <;> fail
attribute [local irreducible] carL
theorem f26 {x y : List UInt64} (hx : x.length = 5) (hy : y.length = 5) : SCall Try.prog 26 [.agg (x.map .u64), .agg (y.map .u64)] [] (.agg ((addL x y).map .u64)) [] := by
  obtain ⟨a, b, c, d, e, rfl⟩ := ex5 hx
  obtain ⟨f, g, h, i, j, rfl⟩ := ex5 hy
  have h85 := f85 [a + f, b + g, c + h, d + i, e + j] rfl
  have hcl := carL_len [a + f, b + g, c + h, d + i, e + j]
  have hadd : addL [a, b, c, d, e] [f, g, h, i, j] = carL [a + f, b + g, c + h, d + i, e + j] := rfl
  rw [hadd]
  refine scall_of ttOk (by kernel_rfl : Try.prog.funcs[26]? = some Try.f26) rfl rfl rfl ?_
  try simp only [List.length_cons, List.length_nil, Nat.zero_add, Nat.reduceAdd]
  refine sw_ok ttOk mixed (by kernel_rfl) ?_
  conv => whnf
  repeat (first | (refine Exists.intro _ (And.intro (sload_all rfl (by first | rfl | fail)) ?_); conv => whnf) | (refine Exists.intro _ (And.intro (sput_all rfl (by first | rfl | fail)) ?_); conv => whnf) | (refine And.intro (by first | omega | (simp; done) | fail) ?_; conv => whnf) | fail)
  refine loop_rounds ttOk mixed (by kernel_rfl) 6 ?_
  conv => whnf
  repeat (first | (refine brT rfl ?_; conv => whnf) | (refine brF rfl ?_; conv => whnf) | (refine Exists.intro _ (And.intro (sload_all rfl (by first | rfl | fail)) ?_); conv => whnf) | (refine Exists.intro _ (And.intro rfl ?_); conv => whnf) | (refine And.intro (by first | omega | (simp; done) | fail) ?_; conv => whnf) | (refine And.intro (Nat.le_of_ble_eq_true rfl) ?_; conv => whnf) | (refine And.intro ⟨rfl, Nat.le_of_ble_eq_true rfl⟩ ?_; conv => whnf) | fail)
  refine ok1_callF [] [] true (h85) rfl rfl ⟨⟨rfl, by first | rfl | fail⟩, trivial, by first | rfl | fail, by first | simp [plainRf, plainR, plainT, plainW], ?_⟩
  conv => whnf
  repeat (first | (refine Exists.intro _ (And.intro (sload_all rfl (by first | rfl | (simp [hcl]; done) | fail)) ?_); conv => whnf) | (refine Exists.intro _ (And.intro (sput_all rfl (by first | rfl | (simp [hcl]; done) | fail)) ?_); conv => whnf) | (refine And.intro (by first | omega | (simp; omega) | fail) ?_; conv => whnf) | fail)
  refine ⟨[], ?_, rfl, rfl, ?_, rfl⟩
  · (repeat' (first | (refine wk_agg ?_) | fail)) <;> first | exact ren_eq (by first | (simp; done) | fail) (by first | rfl | fail) | fail
  · (repeat' (first | exact trivial | fail)) <;> fail
theorem c4_eq : UInt64.ofNat (Int.toNat 9007199254740988) = 9007199254740988 := by decide
theorem c72_eq : UInt64.ofNat (Int.toNat 72) = 72 := by decide
theorem f85x (a b c d e : UInt64) : SCall Try.prog 85 [.agg [.u64 a, .u64 b, .u64 c, .u64 d, .u64 e]] [] (.agg ((carL [a, b, c, d, e]).map .u64)) [] := f85 [a, b, c, d, e] rfl
theorem f27 {x y : List UInt64} (hx : x.length = 5) (hy : y.length = 5) : SCall Try.prog 27 [.agg (x.map .u64), .agg (y.map .u64)] [] (.agg ((subL x y).map .u64)) [] := by
  obtain ⟨a, b, c, d, e, rfl⟩ := ex5 hx
  obtain ⟨f, g, h, i, j, rfl⟩ := ex5 hy
  have hcl := fun m0 m1 m2 m3 m4 => carL_len [m0, m1, m2, m3, m4]
  have hsub : subL [a, b, c, d, e] [f, g, h, i, j] = carL [a + (UInt64.ofNat (Int.toNat 9007199254740988) - f) - UInt64.ofNat (Int.toNat 72), b + (UInt64.ofNat (Int.toNat 9007199254740988) - g), c + (UInt64.ofNat (Int.toNat 9007199254740988) - h), d + (UInt64.ofNat (Int.toNat 9007199254740988) - i), e + (UInt64.ofNat (Int.toNat 9007199254740988) - j)] := by
    rw [c4_eq, c72_eq]; rfl
  rw [hsub]
  refine scall_of ttOk (by kernel_rfl : Try.prog.funcs[27]? = some Try.f27) rfl rfl rfl ?_
  try simp only [List.length_cons, List.length_nil, Nat.zero_add, Nat.reduceAdd]
  refine sw_ok ttOk mixed (by kernel_rfl) ?_
  conv => whnf
  repeat (first | (refine Exists.intro _ (And.intro (sload_all rfl (by first | rfl | fail)) ?_); conv => whnf) | (refine Exists.intro _ (And.intro (sput_all rfl (by first | rfl | fail)) ?_); conv => whnf) | (refine And.intro (by first | omega | (simp; done) | fail) ?_; conv => whnf) | fail)
  refine loop_rounds ttOk mixed (by kernel_rfl) 6 ?_
  conv => whnf
  repeat (first | (refine brT rfl ?_; conv => whnf) | (refine brF rfl ?_; conv => whnf) | (refine Exists.intro _ (And.intro (sload_all rfl (by first | rfl | fail)) ?_); conv => whnf) | (refine Exists.intro _ (And.intro rfl ?_); conv => whnf) | (refine And.intro (by first | omega | (simp; done) | fail) ?_; conv => whnf) | (refine And.intro (Nat.le_of_ble_eq_true rfl) ?_; conv => whnf) | (refine And.intro ⟨rfl, Nat.le_of_ble_eq_true rfl⟩ ?_; conv => whnf) | fail)
  refine ok1_callF [] [] true (f85x _ _ _ _ _) rfl rfl ⟨⟨rfl, by first | rfl | fail⟩, trivial, by first | rfl | fail, by first | simp [plainRf, plainR, plainT, plainW], ?_⟩
  conv => whnf
  repeat (first | (refine Exists.intro _ (And.intro (sload_all rfl (by first | rfl | (simp [hcl]; done) | fail)) ?_); conv => whnf) | (refine Exists.intro _ (And.intro (sput_all rfl (by first | rfl | (simp [hcl]; done) | fail)) ?_); conv => whnf) | (refine And.intro ⟨by first | (simp [hcl]; done) | fail, by first | (simp [hcl]; done) | fail⟩ ?_; conv => whnf) | fail)
  refine ⟨[], ?_, rfl, rfl, ?_, rfl⟩
  · (repeat' (first | (refine wk_agg ?_) | fail)) <;> first | exact ren_eq (by first | (simp; done) | fail) (by first | rfl | fail) | fail
  · (repeat' (first | exact trivial | fail)) <;> fail
theorem m32_n (x : UInt64) : (x &&& 4294967295).toNat = x.toNat % 4294967296 := by
  rw [UInt64.toNat_and]
  exact Nat.and_two_pow_sub_one_eq_mod x.toNat 32
theorem mul64_eq (a b : UInt64) : shr64 a 32 * shr64 b 32 + shr64 (shr64 a 32 * (b &&& 4294967295) + shr64 ((a &&& 4294967295) * (b &&& 4294967295)) 32) 32 + shr64 ((shr64 a 32 * (b &&& 4294967295) + shr64 ((a &&& 4294967295) * (b &&& 4294967295)) 32 &&& 4294967295) + (a &&& 4294967295) * shr64 b 32) 32 = mhi a b := by
  have ha := UInt64.toNat_lt a
  have hb := UInt64.toNat_lt b
  have a1 := shr_n a 32 (by decide)
  have a0 := m32_n a
  have b1 := shr_n b 32 (by decide)
  have b0 := m32_n b
  have eA : a.toNat = a.toNat / 4294967296 * 4294967296 + a.toNat % 4294967296 := by omega
  have eB : b.toNat = b.toNat / 4294967296 * 4294967296 + b.toNat % 4294967296 := by omega
  rw [show (2 : Nat) ^ 32 = 4294967296 from rfl] at a1 b1
  have lA : a.toNat / 4294967296 ≤ 4294967295 := by omega
  have lB : b.toNat / 4294967296 ≤ 4294967295 := by omega
  have kA : a.toNat % 4294967296 ≤ 4294967295 := by omega
  have kB : b.toNat % 4294967296 ≤ 4294967295 := by omega
  apply UInt64.toNat_inj.mp
  rw [mhi_n]
  generalize shr64 a 32 = A1 at *
  generalize a &&& 4294967295 = A0 at *
  generalize shr64 b 32 = B1 at *
  generalize b &&& 4294967295 = B0 at *
  generalize a.toNat / 4294967296 = x1 at *
  generalize a.toNat % 4294967296 = x0 at *
  generalize b.toNat / 4294967296 = y1 at *
  generalize b.toNat % 4294967296 = y0 at *
  have p11 : x1 * y1 ≤ 4294967295 * 4294967295 := Nat.mul_le_mul lA lB
  have p10 : x1 * y0 ≤ 4294967295 * 4294967295 := Nat.mul_le_mul lA kB
  have p01 : x0 * y1 ≤ 4294967295 * 4294967295 := Nat.mul_le_mul kA lB
  have p00 : x0 * y0 ≤ 4294967295 * 4294967295 := Nat.mul_le_mul kA kB
  have n11 := mul_n A1 B1 (by rw [a1, b1]; omega)
  have n10 := mul_n A1 B0 (by rw [a1, b0]; omega)
  have n01 := mul_n A0 B1 (by rw [a0, b1]; omega)
  have n00 := mul_n A0 B0 (by rw [a0, b0]; omega)
  rw [a1, b1] at n11
  rw [a1, b0] at n10
  rw [a0, b1] at n01
  rw [a0, b0] at n00
  have s0 := shr_n (A0 * B0) 32 (by decide)
  rw [show (2 : Nat) ^ 32 = 4294967296 from rfl, n00] at s0
  have nt := add_n (A1 * B0) (shr64 (A0 * B0) 32) (by rw [n10, s0]; omega)
  rw [n10, s0] at nt
  generalize A1 * B0 + shr64 (A0 * B0) 32 = t at *
  have st := shr_n t 32 (by decide)
  have mt := m32_n t
  rw [show (2 : Nat) ^ 32 = 4294967296 from rfl, nt] at st
  rw [nt] at mt
  have nw := add_n (t &&& 4294967295) (A0 * B1) (by rw [mt, n01]; omega)
  rw [mt, n01] at nw
  generalize (t &&& 4294967295) + A0 * B1 = w at *
  have sw := shr_n w 32 (by decide)
  rw [show (2 : Nat) ^ 32 = 4294967296 from rfl, nw] at sw
  have prod : a.toNat * b.toNat = x1 * y1 * 18446744073709551616 + (x1 * y0 + x0 * y1) * 4294967296 + x0 * y0 := by rw [eA, eB]; grind
  rw [prod]
  have r1 := add_n (A1 * B1) (shr64 t 32) (by rw [n11, st]; omega)
  rw [n11, st] at r1
  rw [add_n _ _ (by rw [r1, sw]; omega), r1, sw]
  generalize x1 * y1 = P at *
  generalize x1 * y0 = Q at *
  generalize x0 * y1 = U at *
  generalize x0 * y0 = V at *
  omega
theorem f86 (a b : UInt64) : SCall Try.prog 86 [.u64 a, .u64 b] [] (.tup [.u64 (mhi a b), .u64 (a * b)]) [] := by
  have hm := mul64_eq a b
  refine scall_of ttOk (by kernel_rfl : Try.prog.funcs[86]? = some Try.f86) rfl rfl rfl ?_
  try simp only [List.length_cons, List.length_nil, Nat.zero_add, Nat.reduceAdd]
  refine sw_ok ttOk mixed (by kernel_rfl) ?_
  conv => whnf
  repeat (fail)
  refine ⟨[], ?_, rfl, rfl, ?_, rfl⟩
  · (repeat' (first | (refine wk_tup ?_) | (refine wk_cons ?_ ?_))) <;> first | exact wk_u64 (by first | exact hm | exact hm.symm | fail) | rfl | fail
  · (repeat' (first | exact trivial | fail)) <;> fail
/-- Add64, in a walk. -/
theorem add0 {o : Oper} {R : RL} {H : HL} {L : Nat} {k : K1} {args : Array Operand} {tys : Array TypeId} (a b : UInt64) (ho : o.op = .call ⟨.value (.func 87), args, tys⟩) (hargs : evs R args.toList = some [.u64 a, .u64 b, .u64 0])
    (h : k (some (.tup [.u64 (a + b), .u64 (cy a b)])) [] [] L) : Ok1 Try.prog o R H L k :=
  ok1_add64 Try.f87 a b 0 (a + b) (cy a b) (by kernel_rfl) (by kernel_rfl) (by kernel_rfl) (by kernel_rfl) (by kernel_rfl) ho rfl hargs (by decide) (by rw [UInt64.toNat_add]; rfl) (by rw [cy_n]; rfl) h
theorem addc {o : Oper} {R : RL} {H : HL} {L : Nat} {k : K1} {args : Array Operand} {tys : Array TypeId} (a b u v : UInt64) (ho : o.op = .call ⟨.value (.func 87), args, tys⟩) (hargs : evs R args.toList = some [.u64 a, .u64 b, .u64 (cy u v)])
    (h : ∀ z, k (some (.tup [.u64 (a + b + cy u v), .u64 z])) [] [] L) : Ok1 Try.prog o R H L k := by
  have h1 := UInt64.toNat_lt a
  have h2 := UInt64.toNat_lt b
  have h3 := UInt64.toNat_lt u
  have h4 := UInt64.toNat_lt v
  have hc : (cy u v).toNat ≤ 1 := by rw [cy_n]; omega
  refine ok1_add64 Try.f87 a b (cy u v) (a + b + cy u v) (UInt64.ofNat ((a.toNat + b.toNat + (cy u v).toNat) / 18446744073709551616)) (by kernel_rfl) (by kernel_rfl) (by kernel_rfl) (by kernel_rfl) (by kernel_rfl) ho rfl hargs hc ?_ ?_ (h _)
  · rw [UInt64.toNat_add, UInt64.toNat_add]
    show ((a.toNat + b.toNat) % 18446744073709551616 + _) % 18446744073709551616 = _
    omega
  · rw [UInt64.toNat_ofNat', Nat.mod_eq_of_lt]; omega
end Go.Sh
/- field: Of (f21), Bytes (f25), Is (f35). -/
namespace Go.Sh
open Go.Proofs
set_option maxHeartbeats 8000000
set_option linter.unusedSimpArgs false
set_option linter.unusedVariables false

/-- The words, i bytes in. -/
def wI (b : List UInt8) (i : Nat) : List UInt64 := (List.range 4).map fun k => wW b k (min 8 (i - 8 * k))
theorem wI_len (b : List UInt8) (i : Nat) : (wI b i).length = 4 := rng_len
theorem wI_0 (b : List UInt8) : wI b 0 = List.replicate 4 0 := rfl
theorem wI_32 (b : List UInt8) : wI b 32 = [wW b 0 8, wW b 1 8, wW b 2 8, wW b 3 8] := rfl
theorem wI_s (b : List UInt8) (i : Nat) (h : i < 32) : (wI b i).set (i / 8) ((wI b i).getD (i / 8) 0 ||| shl64 (b.getD i 0).toUInt64 (8 * (i % 8))) = wI b (i + 1) := by
  unfold wI
  rw [rng_getD (by omega)]
  apply List.ext_getElem?
  intro k
  rw [List.getElem?_set]
  by_cases hk : k < 4
  · rw [List.getElem?_map, List.getElem?_range hk, List.getElem?_map, List.getElem?_range hk]
    simp only [Option.map_some, List.length_map, List.length_range]
    by_cases he : i / 8 = k
    · subst he
      rw [if_pos rfl, if_pos (by omega)]
      have e1 : min 8 (i - 8 * (i / 8)) = i % 8 := by omega
      have e2 : min 8 (i + 1 - 8 * (i / 8)) = i % 8 + 1 := by omega
      rw [e1, e2]
      show some (wW b (i / 8) (i % 8) ||| _) = some (wW b (i / 8) (i % 8) ||| shl64 (b.getD (8 * (i / 8) + i % 8) 0).toUInt64 (8 * (i % 8)))
      rw [show 8 * (i / 8) + i % 8 = i by omega]
    · rw [if_neg he]
      congr 2
      omega
  · have h1 : ((List.range 4).map fun k => wW b k (min 8 (i - 8 * k))).length = 4 := rng_len
    have h2 : ((List.range 4).map fun k => wW b k (min 8 (i + 1 - 8 * k))).length = 4 := rng_len
    rw [if_neg (by omega), List.getElem?_eq_none (by omega), List.getElem?_eq_none (by omega)]
theorem t32 (i : Nat) (h : i < 32) : w64 ((i : Int).tdiv 8) = ((i / 8 : Nat) : Int) ∧ w64 (8 * (i : Int).tmod 8) = ((8 * (i % 8) : Nat) : Int) := by
  have : ∀ i : Nat, i < 32 → w64 ((i : Int).tdiv 8) = ((i / 8 : Nat) : Int) ∧ w64 (8 * (i : Int).tmod 8) = ((8 * (i % 8) : Nat) : Int) := by decide +kernel
  exact this i h
theorem cMf : UInt64.ofNat (Int.toNat 2251799813685247) = 2251799813685247 := by decide
theorem f21 (b : List UInt8) (hb : b.length = 32) : SCall Try.prog 21 [.agg (b.map .u8)] [] (.agg ((ofB b).map .u64)) [] := by
  refine scall_of ttOk (by kernel_rfl : Try.prog.funcs[21]? = some Try.f21) rfl rfl rfl ?_
  try simp only [List.length_cons, List.length_nil, Nat.zero_add, Nat.reduceAdd]
  refine sw_ok ttOk mixed (by kernel_rfl) ?_
  conv => whnf
  repeat (first | (refine Exists.intro _ (And.intro (sload_all rfl (by first | rfl | (simp [hb]; done) | fail)) ?_); conv => whnf) | fail)
  refine loop_rule ttOk mixed (by kernel_rfl) (ι := { i : Nat // i ≤ 32 }) (fun i => [(1, .p 0 0), (2, .p 1 0), (3, .p 2 0), (6, .agg (b.map .u8)), (7, .i (i.1 : Int))]) (fun i => [some (.box (b.map .u8)), some (.box (List.replicate 5 (.u64 0))), some (.box ((wI b i.1).map .u64))]) (fun _ => 3) (fun i => 32 - i.1) ⟨0, by omega⟩ ?_ ?_
  · have hz := wI_0 b
    dsimp only
    rw [hz]
    refine Weak.sel [0, 1, 2] rfl rfl ?_ ?_ rfl rfl
    · (repeat' (first | exact trivial | refine And.intro ?_ ?_ | (refine wk_agg ?_) | fail)) <;> first | rfl | exact ren_eq (by first | (simp; done) | fail) (by first | rfl | fail) | fail
    · (repeat' (first | exact trivial | exact ren_z64 | refine And.intro ?_ ?_ | (refine wk_cons ?_ ?_))) <;> first | rfl | exact ren_eq (by first | (simp; done) | fail) (by first | rfl | fail) | fail
  · rintro ⟨i, hi⟩
    dsimp only
    by_cases hi2 : i < 32
    · have hlt : decide ((i : Int) < 32) = true := by simp; omega
      have hp1 : w64 ((i : Int) + 1) = ((i + 1 : Nat) : Int) := by simp only [w64_eq]; omega
      obtain ⟨hd, hm⟩ := t32 i hi2
      have hwl := wI_len b i
      have hst := wI_s b i hi2
      conv => whnf
      first | refine brT (by exact hlt) ?_ | fail
      conv => whnf
      repeat (first | (refine Exists.intro _ (And.intro (sload_u8 (i := i) (by first | rfl | (simp; done) | fail) (by first | omega | fail)) ?_); conv => whnf) | (refine Exists.intro _ (And.intro (idx_i (m := i) (by first | rfl | fail)) ?_); conv => whnf) | (refine Exists.intro _ (And.intro (sput_m64 (i := i / 8) (by first | rfl | (simp; done) | fail)) ?_); conv => whnf) | (refine Exists.intro _ (And.intro (sload_u64 (i := i / 8) (by first | rfl | (simp; done) | fail) (by first | omega | fail)) ?_); conv => whnf) | (refine Exists.intro _ (And.intro (idx_i (m := i / 8) (by first | rfl | omega | fail)) ?_); conv => whnf) | (refine Exists.intro _ (And.intro (shl_i64 (m := 8 * (i % 8)) (by first | rfl | omega | fail)) ?_); conv => whnf) | (refine Exists.intro _ (And.intro rfl ?_); conv => whnf) | (refine And.intro (by first | omega | (simp; omega) | fail) ?_; conv => whnf) | (refine And.intro (by kernel_rfl) ?_; conv => whnf) | fail)
      refine ⟨⟨i + 1, by omega⟩, by simp only; omega, ?_⟩
      refine Weak.sel [0, 1, 2] rfl rfl ?_ ?_ rfl rfl
      · (repeat' (first | exact trivial | refine And.intro ?_ ?_ | (refine wk_agg ?_) | fail)) <;> first | exact wk_i (by first | exact hp1 | exact hp1.symm | fail) | rfl | exact ren_eq (by first | (simp; done) | fail) (by first | rfl | fail) | fail
      · (repeat' (first | exact trivial | refine And.intro ?_ ?_ | (refine wk_cons ?_ ?_))) <;> first | rfl | exact ren_eq (by first | rfl | (simp; done) | fail) (by first | rfl | fail) | exact ren_m64 (by first | exact hst.symm | fail) | fail
    · obtain rfl : i = 32 := by omega
      rw [wI_32]
      obtain ⟨w0, h0⟩ : ∃ w, w = wW b 0 8 := ⟨_, rfl⟩
      obtain ⟨w1, h1⟩ : ∃ w, w = wW b 1 8 := ⟨_, rfl⟩
      obtain ⟨w2, h2⟩ : ∃ w, w = wW b 2 8 := ⟨_, rfl⟩
      obtain ⟨w3, h3⟩ : ∃ w, w = wW b 3 8 := ⟨_, rfl⟩
      have ho : ofB b = [w0 &&& UInt64.ofNat (Int.toNat 2251799813685247), (shr64 w0 51 ||| shl64 w1 13) &&& UInt64.ofNat (Int.toNat 2251799813685247), (shr64 w1 38 ||| shl64 w2 26) &&& UInt64.ofNat (Int.toNat 2251799813685247), (shr64 w2 25 ||| shl64 w3 39) &&& UInt64.ofNat (Int.toNat 2251799813685247), shr64 w3 12 &&& UInt64.ofNat (Int.toNat 2251799813685247)] := by
        rw [cMf, h0, h1, h2, h3]; rfl
      rw [← h0, ← h1, ← h2, ← h3, ho]
      conv => whnf
      first | refine brF (by rfl) ?_ | fail
      conv => whnf
      repeat (first | (refine Exists.intro _ (And.intro (sload_all rfl (by first | rfl | fail)) ?_); conv => whnf) | (refine Exists.intro _ (And.intro (sput_all rfl (by first | rfl | fail)) ?_); conv => whnf) | (refine Exists.intro _ (And.intro rfl ?_); conv => whnf) | (refine And.intro (by first | omega | (simp; done) | fail) ?_; conv => whnf) | fail)
      refine ⟨[], ?_, rfl, rfl, ?_, rfl⟩
      · (repeat' (first | (refine wk_agg ?_) | (refine wk_cons ?_ ?_))) <;> first | rfl | fail
      · (repeat' (first | exact trivial | fail)) <;> fail
end Go.Sh
/- field: Bytes (f25), Is (f35). -/
namespace Go.Sh
open Go.Proofs
set_option maxHeartbeats 8000000
set_option linter.unusedSimpArgs false
set_option linter.unusedVariables false

def qC (m : List UInt64) : UInt64 := shr64 (m.getD 4 0 + shr64 (m.getD 3 0 + shr64 (m.getD 2 0 + shr64 (m.getD 1 0 + shr64 (m.getD 0 0 + UInt64.ofNat (Int.toNat 19)) 51) 51) 51) 51) 51
def rC (m : List UInt64) : Nat → UInt64
  | 0 => m.getD 0 0 + UInt64.ofNat (Int.toNat 19) * qC m
  | i + 1 => m.getD (i + 1) 0 + shr64 (rC m i) 51
def sC (m : List UInt64) (i : Nat) : UInt64 := rC m i &&& UInt64.ofNat (Int.toNat 2251799813685247)
def w4C (m : List UInt64) : List UInt64 := [sC m 0 ||| shl64 (sC m 1) 51, shr64 (sC m 1) 13 ||| shl64 (sC m 2) 38, shr64 (sC m 2) 26 ||| shl64 (sC m 3) 25, shr64 (sC m 3) 39 ||| shl64 (sC m 4) 12]
theorem c19f : UInt64.ofNat (Int.toNat 19) = 19 := by decide
theorem qC_eq (m : List UInt64) : qC m = qB m := by unfold qC qB; rw [c19f]
theorem rC_eq (m : List UInt64) : ∀ i, rC m i = rB m i
  | 0 => by unfold rC rB; rw [c19f, qC_eq]
  | i + 1 => by unfold rC rB; rw [rC_eq m i]
theorem w4C_eq (m : List UInt64) : w4C m = w4 m := by
  unfold w4C w4 sC sB
  rw [cMf, rC_eq, rC_eq, rC_eq, rC_eq, rC_eq]
def byF (m : List UInt64) (j : Nat) : UInt8 := (shr64 ((w4C m).getD (j / 8) 0) (8 * (j % 8))).toUInt8
theorem byF_all (m : List UInt64) : (List.range 32).map (byF m) = byB m := by unfold byB byF; rw [w4C_eq]
theorem bytes_of {x : List UInt64} (h : Nm x) : ∃ m0 m1 m2 m3 m4, carL x = [m0, m1, m2, m3, m4] ∧ byB [m0, m1, m2, m3, m4] = le32 (nr x) := by
  have hb : ∀ y ∈ x, y.toNat < 9223372036854775808 := fun y hy => Nat.lt_trans (h.2 y hy) (by decide)
  obtain ⟨k0, k1, k2, k3, k4, e, b0, b1, b2, b3, b4⟩ := carL_tight h.1 hb
  refine ⟨k0, k1, k2, k3, k4, e, ?_⟩
  rw [byB_val b0 b1 b2 b3 b4, ← e]
  congr 1
  exact (carL_ok h.1 hb).2
theorem w4C_len (m : List UInt64) : (w4C m).length = 4 := rfl
theorem f25 {x : List UInt64} (hx : Nm x) : SCall Try.prog 25 [.agg (x.map .u64)] [] (.agg ((le32 (nr x)).map .u8)) [] := by
  obtain ⟨m0, m1, m2, m3, m4, e, hb⟩ := bytes_of hx
  have h85 := f85 x hx.1
  rw [e] at h85
  rw [← hb]
  obtain ⟨x0, x1, x2, x3, x4, rfl⟩ := ex5 hx.1
  refine scall_of ttOk (by kernel_rfl : Try.prog.funcs[25]? = some Try.f25) rfl rfl rfl ?_
  try simp only [List.length_cons, List.length_nil, Nat.zero_add, Nat.reduceAdd]
  refine sw_ok ttOk mixed (by kernel_rfl) ?_
  conv => whnf
  repeat (first | (refine Exists.intro _ (And.intro (sload_all rfl (by first | rfl | fail)) ?_); conv => whnf) | fail)
  refine ok1_callF [] [] true (h85) rfl rfl ⟨⟨rfl, by first | rfl | fail⟩, trivial, by first | rfl | fail, by first | rfl | fail, ?_⟩
  conv => whnf
  repeat (first | (refine Exists.intro _ (And.intro (sload_all rfl (by first | rfl | fail)) ?_); conv => whnf) | (refine Exists.intro _ (And.intro (sput_all rfl (by first | rfl | fail)) ?_); conv => whnf) | (refine Exists.intro _ (And.intro rfl ?_); conv => whnf) | (refine And.intro (by first | omega | (simp; done) | fail) ?_; conv => whnf) | fail)
  refine loop_rounds ttOk mixed (by kernel_rfl) 5 ?_
  conv => whnf
  repeat (first | (refine brT rfl ?_; conv => whnf) | (refine brF rfl ?_; conv => whnf) | (refine Exists.intro _ (And.intro rfl ?_); conv => whnf) | (refine And.intro (by first | omega | (simp; done) | fail) ?_; conv => whnf) | (refine And.intro (Nat.le_of_ble_eq_true rfl) ?_; conv => whnf) | fail)
  refine loop_rounds ttOk mixed (by kernel_rfl) 5 ?_
  conv => whnf
  repeat (first | (refine brT rfl ?_; conv => whnf) | (refine brF rfl ?_; conv => whnf) | (refine Exists.intro _ (And.intro (sput_all rfl (by first | rfl | fail)) ?_); conv => whnf) | (refine Exists.intro _ (And.intro rfl ?_); conv => whnf) | (refine And.intro (by first | omega | (simp; done) | fail) ?_; conv => whnf) | (refine And.intro (Nat.le_of_ble_eq_true rfl) ?_; conv => whnf) | (refine And.intro ⟨rfl, Nat.le_of_ble_eq_true rfl⟩ ?_; conv => whnf) | (refine And.intro (by kernel_rfl) ?_; conv => whnf) | fail)
  obtain ⟨m, hm⟩ : ∃ m, m = [m0, m1, m2, m3, m4] := ⟨_, rfl⟩
  refine loop_rule ttOk mixed (by kernel_rfl) (ι := { j : Nat // j ≤ 32 }) (fun j => [(2, .p 1 0), (8, .p 3 0), (9, .p 4 0), (87, .i (j.1 : Int))]) (fun j => [none, some (.box (List.replicate 32 (.u8 0))), none, some (.box ((w4C m).map .u64)), some (.box ((fil 32 j.1 (byF m) (fun _ => 0)).map .u8))]) (fun _ => 5) (fun j => 32 - j.1) ⟨0, by omega⟩ ?_ ?_
  · have hz : fil 32 0 (byF m) (fun _ => 0) = List.replicate 32 0 := fil_zero ..
    dsimp only
    rw [hz, hm]
    refine Weak.sel [0, 1, 2, 3, 4] rfl rfl ?_ ?_ rfl rfl
    · (repeat' (first | exact trivial | refine And.intro ?_ ?_ | fail)) <;> first | rfl | fail
    · (repeat' (first | exact trivial | exact ren_z8 | refine And.intro ?_ ?_ | (refine wk_cons ?_ ?_))) <;> first | rfl | fail
  · rintro ⟨j, hj⟩
    rw [← hm]
    have hfl := fil_len 32 j (byF m) (fun _ => (0 : UInt8))
    have hwl := w4C_len m
    dsimp only
    by_cases hj2 : j < 32
    · have hlt : decide ((j : Int) < 32) = true := by simp; omega
      have hp1 : w64 ((j : Int) + 1) = ((j + 1 : Nat) : Int) := by simp only [w64_eq]; omega
      obtain ⟨hd, hmm⟩ := t32 j hj2
      have hx : (shr64 ((w4C m).getD (j / 8) 0) (8 * (j % 8))).toUInt8 = byF m j := rfl
      have hst := fil_setx (g := fun _ => (0 : UInt8)) hj2 hx
      conv => whnf
      first | refine brT (by exact hlt) ?_ | fail
      conv => whnf
      repeat (first | (refine Exists.intro _ (And.intro (sput_m8 (i := j) (by first | rfl | (simp; done) | fail)) ?_); conv => whnf) | (refine Exists.intro _ (And.intro (idx_i (m := j) (by first | rfl | fail)) ?_); conv => whnf) | (refine Exists.intro _ (And.intro (sload_u64 (i := j / 8) (by first | rfl | (simp; done) | fail) (by first | omega | fail)) ?_); conv => whnf) | (refine Exists.intro _ (And.intro (idx_i (m := j / 8) (by first | rfl | omega | fail)) ?_); conv => whnf) | (refine Exists.intro _ (And.intro (shr_i64 (m := 8 * (j % 8)) (by first | rfl | omega | fail)) ?_); conv => whnf) | (refine Exists.intro _ (And.intro rfl ?_); conv => whnf) | (refine And.intro (by first | omega | (simp; omega) | fail) ?_; conv => whnf) | fail)
      refine ⟨⟨j + 1, by omega⟩, by simp only; omega, ?_⟩
      refine Weak.sel [0, 1, 2, 3, 4] rfl rfl ?_ ?_ rfl rfl
      · (repeat' (first | exact trivial | refine And.intro ?_ ?_ | fail)) <;> first | exact wk_i (by first | exact hp1 | exact hp1.symm | fail) | rfl | fail
      · (repeat' (first | exact trivial | refine And.intro ?_ ?_ | (refine wk_cons ?_ ?_))) <;> first | exact ren_m8 (by first | exact hst | exact hst.symm | fail) | rfl | fail
    · obtain rfl : j = 32 := by omega
      rw [fil_full, byF_all]
      have hbl : (byB m).length = 32 := rng_len
      conv => whnf
      first | refine brF (by rfl) ?_ | fail
      conv => whnf
      repeat (first | (refine Exists.intro _ (And.intro (sload_all rfl (by first | rfl | fail)) ?_); conv => whnf) | (refine Exists.intro _ (And.intro (sput_all rfl (by first | rfl | fail)) ?_); conv => whnf) | (refine And.intro (by first | omega | (simp; omega) | fail) ?_; conv => whnf) | fail)
      refine ⟨[], ?_, rfl, rfl, ?_, rfl⟩
      · (repeat' (first | (refine wk_agg ?_) | (refine wk_cons ?_ ?_))) <;> first | rfl | fail
      · (repeat' (first | exact trivial | fail)) <;> fail
theorem le32_ne {v w : Nat} (hv : v < P25519) (hw : w < P25519) : (le32 v = le32 w) ↔ v = w :=
  ⟨fun h => le32_inj (Nat.lt_trans hv (by decide)) (Nat.lt_trans hw (by decide)) h, fun h => by rw [h]⟩
end Go.Sh
/- field: Mul (f28). -/
namespace Go.Sh
open Go.Proofs
set_option maxHeartbeats 8000000
set_option linter.unusedSimpArgs false

def hiL (x y : List UInt64) (i : Nat) : List UInt64 := [hi x y i 0, hi x y i 1, hi x y i 2, hi x y i 3, hi x y i 4]
def loL (x y : List UInt64) (i : Nat) : List UInt64 := [lo x y i 0, lo x y i 1, lo x y i 2, lo x y i 3, lo x y i 4]
def ouL (x y : List UInt64) (k : Nat) : List UInt64 := (List.range 5).map fun j => if j < k then oO x y j else 0
theorem ouL_all (x y : List UInt64) : ouL x y 5 = [oO x y 0, oO x y 1, oO x y 2, oO x y 3, oO x y 4] := rfl
theorem hiL_s (x y : List UInt64) (i : Nat) : hiL x y (i + 1) = [hi x y i 0 + mhi (x.getD i 0) (yw y i 0) + cy (lo x y i 0) (x.getD i 0 * yw y i 0), hi x y i 1 + mhi (x.getD i 0) (yw y i 1) + cy (lo x y i 1) (x.getD i 0 * yw y i 1), hi x y i 2 + mhi (x.getD i 0) (yw y i 2) + cy (lo x y i 2) (x.getD i 0 * yw y i 2), hi x y i 3 + mhi (x.getD i 0) (yw y i 3) + cy (lo x y i 3) (x.getD i 0 * yw y i 3), hi x y i 4 + mhi (x.getD i 0) (yw y i 4) + cy (lo x y i 4) (x.getD i 0 * yw y i 4)] := rfl
theorem loL_s (x y : List UInt64) (i : Nat) : loL x y (i + 1) = [lo x y i 0 + x.getD i 0 * yw y i 0, lo x y i 1 + x.getD i 0 * yw y i 1, lo x y i 2 + x.getD i 0 * yw y i 2, lo x y i 3 + x.getD i 0 * yw y i 3, lo x y i 4 + x.getD i 0 * yw y i 4] := rfl
theorem mulL_eq (x y : List UInt64) : mulL x y = carL [oO x y 0 + 19 * cO x y 5, oO x y 1, oO x y 2, oO x y 3, oO x y 4] := rfl
theorem cO_s (x y : List UInt64) (k : Nat) : cO x y (k + 1) = shl64 (hi x y 5 k + cy (lo x y 5 k) (cO x y k)) 13 ||| shr64 (lo x y 5 k + cO x y k) 51 := rfl
theorem cO_z (x y : List UInt64) : cO x y 0 = 0 := rfl
theorem cM : UInt64.ofNat (Int.toNat 2251799813685247) = 2251799813685247 := by decide
theorem c19 : UInt64.ofNat (Int.toNat 19) = 19 := by decide
attribute [local irreducible] carL cO mhi cy
theorem f28 {x y : List UInt64} (hx : x.length = 5) (hy : y.length = 5) : SCall Try.prog 28 [.agg (x.map .u64), .agg (y.map .u64)] [] (.agg ((mulL x y).map .u64)) [] := by
  obtain ⟨a, b, c, d, e, rfl⟩ := ex5 hx
  obtain ⟨f, g, h, i, j, rfl⟩ := ex5 hy
  obtain ⟨X, hX⟩ : ∃ X, X = [a, b, c, d, e] := ⟨_, rfl⟩
  obtain ⟨Y, hY⟩ : ∃ Y, Y = [f, g, h, i, j] := ⟨_, rfl⟩
  refine scall_of ttOk (by kernel_rfl : Try.prog.funcs[28]? = some Try.f28) rfl rfl rfl ?_
  try simp only [List.length_cons, List.length_nil, Nat.zero_add, Nat.reduceAdd]
  refine sw_ok ttOk mixed (by kernel_rfl) ?_
  conv => whnf
  repeat (first | (refine Exists.intro _ (And.intro (sload_all rfl (by first | rfl | fail)) ?_); conv => whnf) | fail)
  refine loop_rule ttOk mixed (by kernel_rfl) (ι := { n : Nat // n ≤ 5 }) (fun n => [(2, .p 0 0), (3, .p 1 0), (4, .p 2 0), (5, .p 3 0), (6, .p 4 0), (22, .agg [.u64 a, .u64 b, .u64 c, .u64 d, .u64 e]), (23, .i (n.1 : Int))]) (fun n => [some (.box [.u64 a, .u64 b, .u64 c, .u64 d, .u64 e]), some (.box [.u64 f, .u64 g, .u64 h, .u64 i, .u64 j]), some (.box (List.replicate 5 (.u64 0))), some (.box ((hiL X Y n.1).map .u64)), some (.box ((loL X Y n.1).map .u64))]) (fun _ => 5) (fun n => 5 - n.1) ⟨0, by omega⟩ ?_ ?_
  · refine Weak.sel [0, 1, 2, 3, 4] rfl rfl ?_ ?_ rfl rfl
    · (repeat' (first | exact trivial | refine And.intro ?_ ?_ | (refine wk_agg ?_) | (refine wk_cons ?_ ?_))) <;> first | rfl | fail
    · (repeat' (first | exact trivial | refine And.intro ?_ ?_ | (refine wk_cons ?_ ?_))) <;> first | rfl | fail
  · rintro ⟨n, hn⟩
    have h6 : n = 0 ∨ n = 1 ∨ n = 2 ∨ n = 3 ∨ n = 4 ∨ n = 5 := by omega
    rcases h6 with rfl | rfl | rfl | rfl | rfl | rfl
    ·
      obtain ⟨H0, hH0⟩ : ∃ z, z = hi X Y 0 0 := ⟨_, rfl⟩
      obtain ⟨L0, hL0⟩ : ∃ z, z = lo X Y 0 0 := ⟨_, rfl⟩
      obtain ⟨H1, hH1⟩ : ∃ z, z = hi X Y 0 1 := ⟨_, rfl⟩
      obtain ⟨L1, hL1⟩ : ∃ z, z = lo X Y 0 1 := ⟨_, rfl⟩
      obtain ⟨H2, hH2⟩ : ∃ z, z = hi X Y 0 2 := ⟨_, rfl⟩
      obtain ⟨L2, hL2⟩ : ∃ z, z = lo X Y 0 2 := ⟨_, rfl⟩
      obtain ⟨H3, hH3⟩ : ∃ z, z = hi X Y 0 3 := ⟨_, rfl⟩
      obtain ⟨L3, hL3⟩ : ∃ z, z = lo X Y 0 3 := ⟨_, rfl⟩
      obtain ⟨H4, hH4⟩ : ∃ z, z = hi X Y 0 4 := ⟨_, rfl⟩
      obtain ⟨L4, hL4⟩ : ∃ z, z = lo X Y 0 4 := ⟨_, rfl⟩
      have s1 : hiL X Y 0 = [H0, H1, H2, H3, H4] := by rw [hH0, hH1, hH2, hH3, hH4]; rfl
      have s2 : loL X Y 0 = [L0, L1, L2, L3, L4] := by rw [hL0, hL1, hL2, hL3, hL4]; rfl
      have e1 : hiL X Y 1 = [H0 + mhi a f + cy L0 (a * f), H1 + mhi a g + cy L1 (a * g), H2 + mhi a h + cy L2 (a * h), H3 + mhi a i + cy L3 (a * i), H4 + mhi a j + cy L4 (a * j)] := by rw [hiL_s, ← hH0, ← hH1, ← hH2, ← hH3, ← hH4, ← hL0, ← hL1, ← hL2, ← hL3, ← hL4, hX, hY]; rfl
      have e2 : loL X Y 1 = [L0 + a * f, L1 + a * g, L2 + a * h, L3 + a * i, L4 + a * j] := by rw [loL_s, ← hL0, ← hL1, ← hL2, ← hL3, ← hL4, hX, hY]; rfl
      dsimp only
      rw [s1, s2]
      conv => whnf
      first | refine brT (by rfl) ?_ | fail
      conv => whnf
      repeat (first | (refine Exists.intro _ (And.intro (sload_all rfl (by first | rfl | fail)) ?_); conv => whnf) | (refine Exists.intro _ (And.intro rfl ?_); conv => whnf) | (refine And.intro (by first | omega | fail) ?_; conv => whnf) | fail)
      refine loop_rounds ttOk mixed (by kernel_rfl) 6 ?_
      conv => whnf
      repeat (first | (refine brT rfl ?_; conv => whnf) | (refine brF rfl ?_; conv => whnf) | (refine Exists.intro _ (And.intro rfl ?_); conv => whnf) | (refine And.intro (by first | omega | fail) ?_; conv => whnf) | fail)
      refine ok1_callF [] [] true (f86 _ _) rfl rfl ⟨⟨rfl, by first | rfl | fail⟩, trivial, by first | rfl | fail, by first | rfl | fail, ?_⟩
      conv => whnf
      repeat (first | (refine Exists.intro _ (And.intro rfl ?_); conv => whnf) | (refine And.intro (Nat.le_of_ble_eq_true rfl) ?_; conv => whnf) | fail)
      refine add0 _ _ rfl rfl ?_
      conv => whnf
      repeat (first | (refine Exists.intro _ (And.intro rfl ?_); conv => whnf) | (refine And.intro (Nat.le_of_ble_eq_true rfl) ?_; conv => whnf) | (refine And.intro ⟨rfl, Nat.le_of_ble_eq_true rfl⟩ ?_; conv => whnf) | fail)
      refine addc _ _ _ _ rfl rfl (fun z => ?_)
      conv => whnf
      repeat (first | (refine brT rfl ?_; conv => whnf) | (refine brF rfl ?_; conv => whnf) | (refine Exists.intro _ (And.intro rfl ?_); conv => whnf) | (refine And.intro (Nat.le_of_ble_eq_true rfl) ?_; conv => whnf) | (refine And.intro ⟨rfl, Nat.le_of_ble_eq_true rfl⟩ ?_; conv => whnf) | fail)
      refine ok1_callF [] [] true (f86 _ _) rfl rfl ⟨⟨rfl, by first | rfl | fail⟩, trivial, by first | rfl | fail, by first | rfl | fail, ?_⟩
      conv => whnf
      repeat (first | (refine Exists.intro _ (And.intro rfl ?_); conv => whnf) | (refine And.intro (Nat.le_of_ble_eq_true rfl) ?_; conv => whnf) | fail)
      refine add0 _ _ rfl rfl ?_
      conv => whnf
      repeat (first | (refine Exists.intro _ (And.intro rfl ?_); conv => whnf) | (refine And.intro (Nat.le_of_ble_eq_true rfl) ?_; conv => whnf) | (refine And.intro ⟨rfl, Nat.le_of_ble_eq_true rfl⟩ ?_; conv => whnf) | fail)
      refine addc _ _ _ _ rfl rfl (fun z => ?_)
      conv => whnf
      repeat (first | (refine brT rfl ?_; conv => whnf) | (refine brF rfl ?_; conv => whnf) | (refine Exists.intro _ (And.intro rfl ?_); conv => whnf) | (refine And.intro (Nat.le_of_ble_eq_true rfl) ?_; conv => whnf) | (refine And.intro ⟨rfl, Nat.le_of_ble_eq_true rfl⟩ ?_; conv => whnf) | fail)
      refine ok1_callF [] [] true (f86 _ _) rfl rfl ⟨⟨rfl, by first | rfl | fail⟩, trivial, by first | rfl | fail, by first | rfl | fail, ?_⟩
      conv => whnf
      repeat (first | (refine Exists.intro _ (And.intro rfl ?_); conv => whnf) | (refine And.intro (Nat.le_of_ble_eq_true rfl) ?_; conv => whnf) | fail)
      refine add0 _ _ rfl rfl ?_
      conv => whnf
      repeat (first | (refine Exists.intro _ (And.intro rfl ?_); conv => whnf) | (refine And.intro (Nat.le_of_ble_eq_true rfl) ?_; conv => whnf) | (refine And.intro ⟨rfl, Nat.le_of_ble_eq_true rfl⟩ ?_; conv => whnf) | fail)
      refine addc _ _ _ _ rfl rfl (fun z => ?_)
      conv => whnf
      repeat (first | (refine brT rfl ?_; conv => whnf) | (refine brF rfl ?_; conv => whnf) | (refine Exists.intro _ (And.intro rfl ?_); conv => whnf) | (refine And.intro (Nat.le_of_ble_eq_true rfl) ?_; conv => whnf) | (refine And.intro ⟨rfl, Nat.le_of_ble_eq_true rfl⟩ ?_; conv => whnf) | fail)
      refine ok1_callF [] [] true (f86 _ _) rfl rfl ⟨⟨rfl, by first | rfl | fail⟩, trivial, by first | rfl | fail, by first | rfl | fail, ?_⟩
      conv => whnf
      repeat (first | (refine Exists.intro _ (And.intro rfl ?_); conv => whnf) | (refine And.intro (Nat.le_of_ble_eq_true rfl) ?_; conv => whnf) | fail)
      refine add0 _ _ rfl rfl ?_
      conv => whnf
      repeat (first | (refine Exists.intro _ (And.intro rfl ?_); conv => whnf) | (refine And.intro (Nat.le_of_ble_eq_true rfl) ?_; conv => whnf) | (refine And.intro ⟨rfl, Nat.le_of_ble_eq_true rfl⟩ ?_; conv => whnf) | fail)
      refine addc _ _ _ _ rfl rfl (fun z => ?_)
      conv => whnf
      repeat (first | (refine brT rfl ?_; conv => whnf) | (refine brF rfl ?_; conv => whnf) | (refine Exists.intro _ (And.intro rfl ?_); conv => whnf) | (refine And.intro (Nat.le_of_ble_eq_true rfl) ?_; conv => whnf) | (refine And.intro ⟨rfl, Nat.le_of_ble_eq_true rfl⟩ ?_; conv => whnf) | fail)
      refine ok1_callF [] [] true (f86 _ _) rfl rfl ⟨⟨rfl, by first | rfl | fail⟩, trivial, by first | rfl | fail, by first | rfl | fail, ?_⟩
      conv => whnf
      repeat (first | (refine Exists.intro _ (And.intro rfl ?_); conv => whnf) | (refine And.intro (Nat.le_of_ble_eq_true rfl) ?_; conv => whnf) | fail)
      refine add0 _ _ rfl rfl ?_
      conv => whnf
      repeat (first | (refine Exists.intro _ (And.intro rfl ?_); conv => whnf) | (refine And.intro (Nat.le_of_ble_eq_true rfl) ?_; conv => whnf) | (refine And.intro ⟨rfl, Nat.le_of_ble_eq_true rfl⟩ ?_; conv => whnf) | fail)
      refine addc _ _ _ _ rfl rfl (fun z => ?_)
      conv => whnf
      repeat (first | (refine brF rfl ?_; conv => whnf) | (refine Exists.intro _ (And.intro rfl ?_); conv => whnf) | (refine And.intro (Nat.le_of_ble_eq_true rfl) ?_; conv => whnf) | (refine And.intro ⟨rfl, Nat.le_of_ble_eq_true rfl⟩ ?_; conv => whnf) | fail)
      refine ⟨⟨1, by omega⟩, by simp only; omega, ?_⟩
      dsimp only
      rw [e1, e2]
      refine Weak.sel [0, 1, 2, 3, 4] rfl rfl ?_ ?_ rfl rfl
      · (repeat' (first | exact trivial | refine And.intro ?_ ?_ | (refine wk_agg ?_) | (refine wk_cons ?_ ?_))) <;> first | rfl | fail
      · (repeat' (first | exact trivial | refine And.intro ?_ ?_ | (refine wk_cons ?_ ?_))) <;> first | rfl | fail
    ·
      obtain ⟨H0, hH0⟩ : ∃ z, z = hi X Y 1 0 := ⟨_, rfl⟩
      obtain ⟨L0, hL0⟩ : ∃ z, z = lo X Y 1 0 := ⟨_, rfl⟩
      obtain ⟨H1, hH1⟩ : ∃ z, z = hi X Y 1 1 := ⟨_, rfl⟩
      obtain ⟨L1, hL1⟩ : ∃ z, z = lo X Y 1 1 := ⟨_, rfl⟩
      obtain ⟨H2, hH2⟩ : ∃ z, z = hi X Y 1 2 := ⟨_, rfl⟩
      obtain ⟨L2, hL2⟩ : ∃ z, z = lo X Y 1 2 := ⟨_, rfl⟩
      obtain ⟨H3, hH3⟩ : ∃ z, z = hi X Y 1 3 := ⟨_, rfl⟩
      obtain ⟨L3, hL3⟩ : ∃ z, z = lo X Y 1 3 := ⟨_, rfl⟩
      obtain ⟨H4, hH4⟩ : ∃ z, z = hi X Y 1 4 := ⟨_, rfl⟩
      obtain ⟨L4, hL4⟩ : ∃ z, z = lo X Y 1 4 := ⟨_, rfl⟩
      have s1 : hiL X Y 1 = [H0, H1, H2, H3, H4] := by rw [hH0, hH1, hH2, hH3, hH4]; rfl
      have s2 : loL X Y 1 = [L0, L1, L2, L3, L4] := by rw [hL0, hL1, hL2, hL3, hL4]; rfl
      have e1 : hiL X Y 2 = [H0 + mhi b (j * UInt64.ofNat (Int.toNat 19)) + cy L0 (b * (j * UInt64.ofNat (Int.toNat 19))), H1 + mhi b f + cy L1 (b * f), H2 + mhi b g + cy L2 (b * g), H3 + mhi b h + cy L3 (b * h), H4 + mhi b i + cy L4 (b * i)] := by rw [hiL_s, ← hH0, ← hH1, ← hH2, ← hH3, ← hH4, ← hL0, ← hL1, ← hL2, ← hL3, ← hL4, hX, hY, c19]; rfl
      have e2 : loL X Y 2 = [L0 + b * (j * UInt64.ofNat (Int.toNat 19)), L1 + b * f, L2 + b * g, L3 + b * h, L4 + b * i] := by rw [loL_s, ← hL0, ← hL1, ← hL2, ← hL3, ← hL4, hX, hY, c19]; rfl
      dsimp only
      rw [s1, s2]
      conv => whnf
      first | refine brT (by rfl) ?_ | fail
      conv => whnf
      repeat (first | (refine Exists.intro _ (And.intro (sload_all rfl (by first | rfl | fail)) ?_); conv => whnf) | (refine Exists.intro _ (And.intro rfl ?_); conv => whnf) | (refine And.intro (by first | omega | fail) ?_; conv => whnf) | fail)
      refine loop_rounds ttOk mixed (by kernel_rfl) 6 ?_
      conv => whnf
      repeat (first | (refine brT rfl ?_; conv => whnf) | (refine brF rfl ?_; conv => whnf) | (refine Exists.intro _ (And.intro rfl ?_); conv => whnf) | (refine And.intro (by first | omega | fail) ?_; conv => whnf) | fail)
      refine ok1_callF [] [] true (f86 _ _) rfl rfl ⟨⟨rfl, by first | rfl | fail⟩, trivial, by first | rfl | fail, by first | rfl | fail, ?_⟩
      conv => whnf
      repeat (first | (refine Exists.intro _ (And.intro rfl ?_); conv => whnf) | (refine And.intro (Nat.le_of_ble_eq_true rfl) ?_; conv => whnf) | fail)
      refine add0 _ _ rfl rfl ?_
      conv => whnf
      repeat (first | (refine Exists.intro _ (And.intro rfl ?_); conv => whnf) | (refine And.intro (Nat.le_of_ble_eq_true rfl) ?_; conv => whnf) | (refine And.intro ⟨rfl, Nat.le_of_ble_eq_true rfl⟩ ?_; conv => whnf) | fail)
      refine addc _ _ _ _ rfl rfl (fun z => ?_)
      conv => whnf
      repeat (first | (refine brT rfl ?_; conv => whnf) | (refine brF rfl ?_; conv => whnf) | (refine Exists.intro _ (And.intro rfl ?_); conv => whnf) | (refine And.intro (Nat.le_of_ble_eq_true rfl) ?_; conv => whnf) | (refine And.intro ⟨rfl, Nat.le_of_ble_eq_true rfl⟩ ?_; conv => whnf) | fail)
      refine ok1_callF [] [] true (f86 _ _) rfl rfl ⟨⟨rfl, by first | rfl | fail⟩, trivial, by first | rfl | fail, by first | rfl | fail, ?_⟩
      conv => whnf
      repeat (first | (refine Exists.intro _ (And.intro rfl ?_); conv => whnf) | (refine And.intro (Nat.le_of_ble_eq_true rfl) ?_; conv => whnf) | fail)
      refine add0 _ _ rfl rfl ?_
      conv => whnf
      repeat (first | (refine Exists.intro _ (And.intro rfl ?_); conv => whnf) | (refine And.intro (Nat.le_of_ble_eq_true rfl) ?_; conv => whnf) | (refine And.intro ⟨rfl, Nat.le_of_ble_eq_true rfl⟩ ?_; conv => whnf) | fail)
      refine addc _ _ _ _ rfl rfl (fun z => ?_)
      conv => whnf
      repeat (first | (refine brT rfl ?_; conv => whnf) | (refine brF rfl ?_; conv => whnf) | (refine Exists.intro _ (And.intro rfl ?_); conv => whnf) | (refine And.intro (Nat.le_of_ble_eq_true rfl) ?_; conv => whnf) | (refine And.intro ⟨rfl, Nat.le_of_ble_eq_true rfl⟩ ?_; conv => whnf) | fail)
      refine ok1_callF [] [] true (f86 _ _) rfl rfl ⟨⟨rfl, by first | rfl | fail⟩, trivial, by first | rfl | fail, by first | rfl | fail, ?_⟩
      conv => whnf
      repeat (first | (refine Exists.intro _ (And.intro rfl ?_); conv => whnf) | (refine And.intro (Nat.le_of_ble_eq_true rfl) ?_; conv => whnf) | fail)
      refine add0 _ _ rfl rfl ?_
      conv => whnf
      repeat (first | (refine Exists.intro _ (And.intro rfl ?_); conv => whnf) | (refine And.intro (Nat.le_of_ble_eq_true rfl) ?_; conv => whnf) | (refine And.intro ⟨rfl, Nat.le_of_ble_eq_true rfl⟩ ?_; conv => whnf) | fail)
      refine addc _ _ _ _ rfl rfl (fun z => ?_)
      conv => whnf
      repeat (first | (refine brT rfl ?_; conv => whnf) | (refine brF rfl ?_; conv => whnf) | (refine Exists.intro _ (And.intro rfl ?_); conv => whnf) | (refine And.intro (Nat.le_of_ble_eq_true rfl) ?_; conv => whnf) | (refine And.intro ⟨rfl, Nat.le_of_ble_eq_true rfl⟩ ?_; conv => whnf) | fail)
      refine ok1_callF [] [] true (f86 _ _) rfl rfl ⟨⟨rfl, by first | rfl | fail⟩, trivial, by first | rfl | fail, by first | rfl | fail, ?_⟩
      conv => whnf
      repeat (first | (refine Exists.intro _ (And.intro rfl ?_); conv => whnf) | (refine And.intro (Nat.le_of_ble_eq_true rfl) ?_; conv => whnf) | fail)
      refine add0 _ _ rfl rfl ?_
      conv => whnf
      repeat (first | (refine Exists.intro _ (And.intro rfl ?_); conv => whnf) | (refine And.intro (Nat.le_of_ble_eq_true rfl) ?_; conv => whnf) | (refine And.intro ⟨rfl, Nat.le_of_ble_eq_true rfl⟩ ?_; conv => whnf) | fail)
      refine addc _ _ _ _ rfl rfl (fun z => ?_)
      conv => whnf
      repeat (first | (refine brT rfl ?_; conv => whnf) | (refine Exists.intro _ (And.intro rfl ?_); conv => whnf) | (refine And.intro (Nat.le_of_ble_eq_true rfl) ?_; conv => whnf) | (refine And.intro ⟨rfl, Nat.le_of_ble_eq_true rfl⟩ ?_; conv => whnf) | fail)
      refine ok1_callF [] [] true (f86 _ _) rfl rfl ⟨⟨rfl, by first | rfl | fail⟩, trivial, by first | rfl | fail, by first | rfl | fail, ?_⟩
      conv => whnf
      repeat (first | (refine Exists.intro _ (And.intro rfl ?_); conv => whnf) | (refine And.intro (Nat.le_of_ble_eq_true rfl) ?_; conv => whnf) | fail)
      refine add0 _ _ rfl rfl ?_
      conv => whnf
      repeat (first | (refine Exists.intro _ (And.intro rfl ?_); conv => whnf) | (refine And.intro (Nat.le_of_ble_eq_true rfl) ?_; conv => whnf) | (refine And.intro ⟨rfl, Nat.le_of_ble_eq_true rfl⟩ ?_; conv => whnf) | fail)
      refine addc _ _ _ _ rfl rfl (fun z => ?_)
      conv => whnf
      repeat (first | (refine brF rfl ?_; conv => whnf) | (refine Exists.intro _ (And.intro rfl ?_); conv => whnf) | (refine And.intro (Nat.le_of_ble_eq_true rfl) ?_; conv => whnf) | (refine And.intro ⟨rfl, Nat.le_of_ble_eq_true rfl⟩ ?_; conv => whnf) | fail)
      refine ⟨⟨2, by omega⟩, by simp only; omega, ?_⟩
      dsimp only
      rw [e1, e2]
      refine Weak.sel [0, 1, 2, 3, 4] rfl rfl ?_ ?_ rfl rfl
      · (repeat' (first | exact trivial | refine And.intro ?_ ?_ | (refine wk_agg ?_) | (refine wk_cons ?_ ?_))) <;> first | rfl | fail
      · (repeat' (first | exact trivial | refine And.intro ?_ ?_ | (refine wk_cons ?_ ?_))) <;> first | rfl | fail
    ·
      obtain ⟨H0, hH0⟩ : ∃ z, z = hi X Y 2 0 := ⟨_, rfl⟩
      obtain ⟨L0, hL0⟩ : ∃ z, z = lo X Y 2 0 := ⟨_, rfl⟩
      obtain ⟨H1, hH1⟩ : ∃ z, z = hi X Y 2 1 := ⟨_, rfl⟩
      obtain ⟨L1, hL1⟩ : ∃ z, z = lo X Y 2 1 := ⟨_, rfl⟩
      obtain ⟨H2, hH2⟩ : ∃ z, z = hi X Y 2 2 := ⟨_, rfl⟩
      obtain ⟨L2, hL2⟩ : ∃ z, z = lo X Y 2 2 := ⟨_, rfl⟩
      obtain ⟨H3, hH3⟩ : ∃ z, z = hi X Y 2 3 := ⟨_, rfl⟩
      obtain ⟨L3, hL3⟩ : ∃ z, z = lo X Y 2 3 := ⟨_, rfl⟩
      obtain ⟨H4, hH4⟩ : ∃ z, z = hi X Y 2 4 := ⟨_, rfl⟩
      obtain ⟨L4, hL4⟩ : ∃ z, z = lo X Y 2 4 := ⟨_, rfl⟩
      have s1 : hiL X Y 2 = [H0, H1, H2, H3, H4] := by rw [hH0, hH1, hH2, hH3, hH4]; rfl
      have s2 : loL X Y 2 = [L0, L1, L2, L3, L4] := by rw [hL0, hL1, hL2, hL3, hL4]; rfl
      have e1 : hiL X Y 3 = [H0 + mhi c (i * UInt64.ofNat (Int.toNat 19)) + cy L0 (c * (i * UInt64.ofNat (Int.toNat 19))), H1 + mhi c (j * UInt64.ofNat (Int.toNat 19)) + cy L1 (c * (j * UInt64.ofNat (Int.toNat 19))), H2 + mhi c f + cy L2 (c * f), H3 + mhi c g + cy L3 (c * g), H4 + mhi c h + cy L4 (c * h)] := by rw [hiL_s, ← hH0, ← hH1, ← hH2, ← hH3, ← hH4, ← hL0, ← hL1, ← hL2, ← hL3, ← hL4, hX, hY, c19]; rfl
      have e2 : loL X Y 3 = [L0 + c * (i * UInt64.ofNat (Int.toNat 19)), L1 + c * (j * UInt64.ofNat (Int.toNat 19)), L2 + c * f, L3 + c * g, L4 + c * h] := by rw [loL_s, ← hL0, ← hL1, ← hL2, ← hL3, ← hL4, hX, hY, c19]; rfl
      dsimp only
      rw [s1, s2]
      conv => whnf
      first | refine brT (by rfl) ?_ | fail
      conv => whnf
      repeat (first | (refine Exists.intro _ (And.intro (sload_all rfl (by first | rfl | fail)) ?_); conv => whnf) | (refine Exists.intro _ (And.intro rfl ?_); conv => whnf) | (refine And.intro (by first | omega | fail) ?_; conv => whnf) | fail)
      refine loop_rounds ttOk mixed (by kernel_rfl) 6 ?_
      conv => whnf
      repeat (first | (refine brT rfl ?_; conv => whnf) | (refine brF rfl ?_; conv => whnf) | (refine Exists.intro _ (And.intro rfl ?_); conv => whnf) | (refine And.intro (by first | omega | fail) ?_; conv => whnf) | fail)
      refine ok1_callF [] [] true (f86 _ _) rfl rfl ⟨⟨rfl, by first | rfl | fail⟩, trivial, by first | rfl | fail, by first | rfl | fail, ?_⟩
      conv => whnf
      repeat (first | (refine Exists.intro _ (And.intro rfl ?_); conv => whnf) | (refine And.intro (Nat.le_of_ble_eq_true rfl) ?_; conv => whnf) | fail)
      refine add0 _ _ rfl rfl ?_
      conv => whnf
      repeat (first | (refine Exists.intro _ (And.intro rfl ?_); conv => whnf) | (refine And.intro (Nat.le_of_ble_eq_true rfl) ?_; conv => whnf) | (refine And.intro ⟨rfl, Nat.le_of_ble_eq_true rfl⟩ ?_; conv => whnf) | fail)
      refine addc _ _ _ _ rfl rfl (fun z => ?_)
      conv => whnf
      repeat (first | (refine brT rfl ?_; conv => whnf) | (refine brF rfl ?_; conv => whnf) | (refine Exists.intro _ (And.intro rfl ?_); conv => whnf) | (refine And.intro (Nat.le_of_ble_eq_true rfl) ?_; conv => whnf) | (refine And.intro ⟨rfl, Nat.le_of_ble_eq_true rfl⟩ ?_; conv => whnf) | fail)
      refine ok1_callF [] [] true (f86 _ _) rfl rfl ⟨⟨rfl, by first | rfl | fail⟩, trivial, by first | rfl | fail, by first | rfl | fail, ?_⟩
      conv => whnf
      repeat (first | (refine Exists.intro _ (And.intro rfl ?_); conv => whnf) | (refine And.intro (Nat.le_of_ble_eq_true rfl) ?_; conv => whnf) | fail)
      refine add0 _ _ rfl rfl ?_
      conv => whnf
      repeat (first | (refine Exists.intro _ (And.intro rfl ?_); conv => whnf) | (refine And.intro (Nat.le_of_ble_eq_true rfl) ?_; conv => whnf) | (refine And.intro ⟨rfl, Nat.le_of_ble_eq_true rfl⟩ ?_; conv => whnf) | fail)
      refine addc _ _ _ _ rfl rfl (fun z => ?_)
      conv => whnf
      repeat (first | (refine brT rfl ?_; conv => whnf) | (refine brF rfl ?_; conv => whnf) | (refine Exists.intro _ (And.intro rfl ?_); conv => whnf) | (refine And.intro (Nat.le_of_ble_eq_true rfl) ?_; conv => whnf) | (refine And.intro ⟨rfl, Nat.le_of_ble_eq_true rfl⟩ ?_; conv => whnf) | fail)
      refine ok1_callF [] [] true (f86 _ _) rfl rfl ⟨⟨rfl, by first | rfl | fail⟩, trivial, by first | rfl | fail, by first | rfl | fail, ?_⟩
      conv => whnf
      repeat (first | (refine Exists.intro _ (And.intro rfl ?_); conv => whnf) | (refine And.intro (Nat.le_of_ble_eq_true rfl) ?_; conv => whnf) | fail)
      refine add0 _ _ rfl rfl ?_
      conv => whnf
      repeat (first | (refine Exists.intro _ (And.intro rfl ?_); conv => whnf) | (refine And.intro (Nat.le_of_ble_eq_true rfl) ?_; conv => whnf) | (refine And.intro ⟨rfl, Nat.le_of_ble_eq_true rfl⟩ ?_; conv => whnf) | fail)
      refine addc _ _ _ _ rfl rfl (fun z => ?_)
      conv => whnf
      repeat (first | (refine brT rfl ?_; conv => whnf) | (refine Exists.intro _ (And.intro rfl ?_); conv => whnf) | (refine And.intro (Nat.le_of_ble_eq_true rfl) ?_; conv => whnf) | (refine And.intro ⟨rfl, Nat.le_of_ble_eq_true rfl⟩ ?_; conv => whnf) | fail)
      refine ok1_callF [] [] true (f86 _ _) rfl rfl ⟨⟨rfl, by first | rfl | fail⟩, trivial, by first | rfl | fail, by first | rfl | fail, ?_⟩
      conv => whnf
      repeat (first | (refine Exists.intro _ (And.intro rfl ?_); conv => whnf) | (refine And.intro (Nat.le_of_ble_eq_true rfl) ?_; conv => whnf) | fail)
      refine add0 _ _ rfl rfl ?_
      conv => whnf
      repeat (first | (refine Exists.intro _ (And.intro rfl ?_); conv => whnf) | (refine And.intro (Nat.le_of_ble_eq_true rfl) ?_; conv => whnf) | (refine And.intro ⟨rfl, Nat.le_of_ble_eq_true rfl⟩ ?_; conv => whnf) | fail)
      refine addc _ _ _ _ rfl rfl (fun z => ?_)
      conv => whnf
      repeat (first | (refine brT rfl ?_; conv => whnf) | (refine Exists.intro _ (And.intro rfl ?_); conv => whnf) | (refine And.intro (Nat.le_of_ble_eq_true rfl) ?_; conv => whnf) | (refine And.intro ⟨rfl, Nat.le_of_ble_eq_true rfl⟩ ?_; conv => whnf) | fail)
      refine ok1_callF [] [] true (f86 _ _) rfl rfl ⟨⟨rfl, by first | rfl | fail⟩, trivial, by first | rfl | fail, by first | rfl | fail, ?_⟩
      conv => whnf
      repeat (first | (refine Exists.intro _ (And.intro rfl ?_); conv => whnf) | (refine And.intro (Nat.le_of_ble_eq_true rfl) ?_; conv => whnf) | fail)
      refine add0 _ _ rfl rfl ?_
      conv => whnf
      repeat (first | (refine Exists.intro _ (And.intro rfl ?_); conv => whnf) | (refine And.intro (Nat.le_of_ble_eq_true rfl) ?_; conv => whnf) | (refine And.intro ⟨rfl, Nat.le_of_ble_eq_true rfl⟩ ?_; conv => whnf) | fail)
      refine addc _ _ _ _ rfl rfl (fun z => ?_)
      conv => whnf
      repeat (first | (refine brF rfl ?_; conv => whnf) | (refine Exists.intro _ (And.intro rfl ?_); conv => whnf) | (refine And.intro (Nat.le_of_ble_eq_true rfl) ?_; conv => whnf) | (refine And.intro ⟨rfl, Nat.le_of_ble_eq_true rfl⟩ ?_; conv => whnf) | fail)
      refine ⟨⟨3, by omega⟩, by simp only; omega, ?_⟩
      dsimp only
      rw [e1, e2]
      refine Weak.sel [0, 1, 2, 3, 4] rfl rfl ?_ ?_ rfl rfl
      · (repeat' (first | exact trivial | refine And.intro ?_ ?_ | (refine wk_agg ?_) | (refine wk_cons ?_ ?_))) <;> first | rfl | fail
      · (repeat' (first | exact trivial | refine And.intro ?_ ?_ | (refine wk_cons ?_ ?_))) <;> first | rfl | fail
    ·
      obtain ⟨H0, hH0⟩ : ∃ z, z = hi X Y 3 0 := ⟨_, rfl⟩
      obtain ⟨L0, hL0⟩ : ∃ z, z = lo X Y 3 0 := ⟨_, rfl⟩
      obtain ⟨H1, hH1⟩ : ∃ z, z = hi X Y 3 1 := ⟨_, rfl⟩
      obtain ⟨L1, hL1⟩ : ∃ z, z = lo X Y 3 1 := ⟨_, rfl⟩
      obtain ⟨H2, hH2⟩ : ∃ z, z = hi X Y 3 2 := ⟨_, rfl⟩
      obtain ⟨L2, hL2⟩ : ∃ z, z = lo X Y 3 2 := ⟨_, rfl⟩
      obtain ⟨H3, hH3⟩ : ∃ z, z = hi X Y 3 3 := ⟨_, rfl⟩
      obtain ⟨L3, hL3⟩ : ∃ z, z = lo X Y 3 3 := ⟨_, rfl⟩
      obtain ⟨H4, hH4⟩ : ∃ z, z = hi X Y 3 4 := ⟨_, rfl⟩
      obtain ⟨L4, hL4⟩ : ∃ z, z = lo X Y 3 4 := ⟨_, rfl⟩
      have s1 : hiL X Y 3 = [H0, H1, H2, H3, H4] := by rw [hH0, hH1, hH2, hH3, hH4]; rfl
      have s2 : loL X Y 3 = [L0, L1, L2, L3, L4] := by rw [hL0, hL1, hL2, hL3, hL4]; rfl
      have e1 : hiL X Y 4 = [H0 + mhi d (h * UInt64.ofNat (Int.toNat 19)) + cy L0 (d * (h * UInt64.ofNat (Int.toNat 19))), H1 + mhi d (i * UInt64.ofNat (Int.toNat 19)) + cy L1 (d * (i * UInt64.ofNat (Int.toNat 19))), H2 + mhi d (j * UInt64.ofNat (Int.toNat 19)) + cy L2 (d * (j * UInt64.ofNat (Int.toNat 19))), H3 + mhi d f + cy L3 (d * f), H4 + mhi d g + cy L4 (d * g)] := by rw [hiL_s, ← hH0, ← hH1, ← hH2, ← hH3, ← hH4, ← hL0, ← hL1, ← hL2, ← hL3, ← hL4, hX, hY, c19]; rfl
      have e2 : loL X Y 4 = [L0 + d * (h * UInt64.ofNat (Int.toNat 19)), L1 + d * (i * UInt64.ofNat (Int.toNat 19)), L2 + d * (j * UInt64.ofNat (Int.toNat 19)), L3 + d * f, L4 + d * g] := by rw [loL_s, ← hL0, ← hL1, ← hL2, ← hL3, ← hL4, hX, hY, c19]; rfl
      dsimp only
      rw [s1, s2]
      conv => whnf
      first | refine brT (by rfl) ?_ | fail
      conv => whnf
      repeat (first | (refine Exists.intro _ (And.intro (sload_all rfl (by first | rfl | fail)) ?_); conv => whnf) | (refine Exists.intro _ (And.intro rfl ?_); conv => whnf) | (refine And.intro (by first | omega | fail) ?_; conv => whnf) | fail)
      refine loop_rounds ttOk mixed (by kernel_rfl) 6 ?_
      conv => whnf
      repeat (first | (refine brT rfl ?_; conv => whnf) | (refine brF rfl ?_; conv => whnf) | (refine Exists.intro _ (And.intro rfl ?_); conv => whnf) | (refine And.intro (by first | omega | fail) ?_; conv => whnf) | fail)
      refine ok1_callF [] [] true (f86 _ _) rfl rfl ⟨⟨rfl, by first | rfl | fail⟩, trivial, by first | rfl | fail, by first | rfl | fail, ?_⟩
      conv => whnf
      repeat (first | (refine Exists.intro _ (And.intro rfl ?_); conv => whnf) | (refine And.intro (Nat.le_of_ble_eq_true rfl) ?_; conv => whnf) | fail)
      refine add0 _ _ rfl rfl ?_
      conv => whnf
      repeat (first | (refine Exists.intro _ (And.intro rfl ?_); conv => whnf) | (refine And.intro (Nat.le_of_ble_eq_true rfl) ?_; conv => whnf) | (refine And.intro ⟨rfl, Nat.le_of_ble_eq_true rfl⟩ ?_; conv => whnf) | fail)
      refine addc _ _ _ _ rfl rfl (fun z => ?_)
      conv => whnf
      repeat (first | (refine brT rfl ?_; conv => whnf) | (refine brF rfl ?_; conv => whnf) | (refine Exists.intro _ (And.intro rfl ?_); conv => whnf) | (refine And.intro (Nat.le_of_ble_eq_true rfl) ?_; conv => whnf) | (refine And.intro ⟨rfl, Nat.le_of_ble_eq_true rfl⟩ ?_; conv => whnf) | fail)
      refine ok1_callF [] [] true (f86 _ _) rfl rfl ⟨⟨rfl, by first | rfl | fail⟩, trivial, by first | rfl | fail, by first | rfl | fail, ?_⟩
      conv => whnf
      repeat (first | (refine Exists.intro _ (And.intro rfl ?_); conv => whnf) | (refine And.intro (Nat.le_of_ble_eq_true rfl) ?_; conv => whnf) | fail)
      refine add0 _ _ rfl rfl ?_
      conv => whnf
      repeat (first | (refine Exists.intro _ (And.intro rfl ?_); conv => whnf) | (refine And.intro (Nat.le_of_ble_eq_true rfl) ?_; conv => whnf) | (refine And.intro ⟨rfl, Nat.le_of_ble_eq_true rfl⟩ ?_; conv => whnf) | fail)
      refine addc _ _ _ _ rfl rfl (fun z => ?_)
      conv => whnf
      repeat (first | (refine brT rfl ?_; conv => whnf) | (refine Exists.intro _ (And.intro rfl ?_); conv => whnf) | (refine And.intro (Nat.le_of_ble_eq_true rfl) ?_; conv => whnf) | (refine And.intro ⟨rfl, Nat.le_of_ble_eq_true rfl⟩ ?_; conv => whnf) | fail)
      refine ok1_callF [] [] true (f86 _ _) rfl rfl ⟨⟨rfl, by first | rfl | fail⟩, trivial, by first | rfl | fail, by first | rfl | fail, ?_⟩
      conv => whnf
      repeat (first | (refine Exists.intro _ (And.intro rfl ?_); conv => whnf) | (refine And.intro (Nat.le_of_ble_eq_true rfl) ?_; conv => whnf) | fail)
      refine add0 _ _ rfl rfl ?_
      conv => whnf
      repeat (first | (refine Exists.intro _ (And.intro rfl ?_); conv => whnf) | (refine And.intro (Nat.le_of_ble_eq_true rfl) ?_; conv => whnf) | (refine And.intro ⟨rfl, Nat.le_of_ble_eq_true rfl⟩ ?_; conv => whnf) | fail)
      refine addc _ _ _ _ rfl rfl (fun z => ?_)
      conv => whnf
      repeat (first | (refine brT rfl ?_; conv => whnf) | (refine Exists.intro _ (And.intro rfl ?_); conv => whnf) | (refine And.intro (Nat.le_of_ble_eq_true rfl) ?_; conv => whnf) | (refine And.intro ⟨rfl, Nat.le_of_ble_eq_true rfl⟩ ?_; conv => whnf) | fail)
      refine ok1_callF [] [] true (f86 _ _) rfl rfl ⟨⟨rfl, by first | rfl | fail⟩, trivial, by first | rfl | fail, by first | rfl | fail, ?_⟩
      conv => whnf
      repeat (first | (refine Exists.intro _ (And.intro rfl ?_); conv => whnf) | (refine And.intro (Nat.le_of_ble_eq_true rfl) ?_; conv => whnf) | fail)
      refine add0 _ _ rfl rfl ?_
      conv => whnf
      repeat (first | (refine Exists.intro _ (And.intro rfl ?_); conv => whnf) | (refine And.intro (Nat.le_of_ble_eq_true rfl) ?_; conv => whnf) | (refine And.intro ⟨rfl, Nat.le_of_ble_eq_true rfl⟩ ?_; conv => whnf) | fail)
      refine addc _ _ _ _ rfl rfl (fun z => ?_)
      conv => whnf
      repeat (first | (refine brT rfl ?_; conv => whnf) | (refine Exists.intro _ (And.intro rfl ?_); conv => whnf) | (refine And.intro (Nat.le_of_ble_eq_true rfl) ?_; conv => whnf) | (refine And.intro ⟨rfl, Nat.le_of_ble_eq_true rfl⟩ ?_; conv => whnf) | fail)
      refine ok1_callF [] [] true (f86 _ _) rfl rfl ⟨⟨rfl, by first | rfl | fail⟩, trivial, by first | rfl | fail, by first | rfl | fail, ?_⟩
      conv => whnf
      repeat (first | (refine Exists.intro _ (And.intro rfl ?_); conv => whnf) | (refine And.intro (Nat.le_of_ble_eq_true rfl) ?_; conv => whnf) | fail)
      refine add0 _ _ rfl rfl ?_
      conv => whnf
      repeat (first | (refine Exists.intro _ (And.intro rfl ?_); conv => whnf) | (refine And.intro (Nat.le_of_ble_eq_true rfl) ?_; conv => whnf) | (refine And.intro ⟨rfl, Nat.le_of_ble_eq_true rfl⟩ ?_; conv => whnf) | fail)
      refine addc _ _ _ _ rfl rfl (fun z => ?_)
      conv => whnf
      repeat (first | (refine brF rfl ?_; conv => whnf) | (refine Exists.intro _ (And.intro rfl ?_); conv => whnf) | (refine And.intro (Nat.le_of_ble_eq_true rfl) ?_; conv => whnf) | (refine And.intro ⟨rfl, Nat.le_of_ble_eq_true rfl⟩ ?_; conv => whnf) | fail)
      refine ⟨⟨4, by omega⟩, by simp only; omega, ?_⟩
      dsimp only
      rw [e1, e2]
      refine Weak.sel [0, 1, 2, 3, 4] rfl rfl ?_ ?_ rfl rfl
      · (repeat' (first | exact trivial | refine And.intro ?_ ?_ | (refine wk_agg ?_) | (refine wk_cons ?_ ?_))) <;> first | rfl | fail
      · (repeat' (first | exact trivial | refine And.intro ?_ ?_ | (refine wk_cons ?_ ?_))) <;> first | rfl | fail
    ·
      obtain ⟨H0, hH0⟩ : ∃ z, z = hi X Y 4 0 := ⟨_, rfl⟩
      obtain ⟨L0, hL0⟩ : ∃ z, z = lo X Y 4 0 := ⟨_, rfl⟩
      obtain ⟨H1, hH1⟩ : ∃ z, z = hi X Y 4 1 := ⟨_, rfl⟩
      obtain ⟨L1, hL1⟩ : ∃ z, z = lo X Y 4 1 := ⟨_, rfl⟩
      obtain ⟨H2, hH2⟩ : ∃ z, z = hi X Y 4 2 := ⟨_, rfl⟩
      obtain ⟨L2, hL2⟩ : ∃ z, z = lo X Y 4 2 := ⟨_, rfl⟩
      obtain ⟨H3, hH3⟩ : ∃ z, z = hi X Y 4 3 := ⟨_, rfl⟩
      obtain ⟨L3, hL3⟩ : ∃ z, z = lo X Y 4 3 := ⟨_, rfl⟩
      obtain ⟨H4, hH4⟩ : ∃ z, z = hi X Y 4 4 := ⟨_, rfl⟩
      obtain ⟨L4, hL4⟩ : ∃ z, z = lo X Y 4 4 := ⟨_, rfl⟩
      have s1 : hiL X Y 4 = [H0, H1, H2, H3, H4] := by rw [hH0, hH1, hH2, hH3, hH4]; rfl
      have s2 : loL X Y 4 = [L0, L1, L2, L3, L4] := by rw [hL0, hL1, hL2, hL3, hL4]; rfl
      have e1 : hiL X Y 5 = [H0 + mhi e (g * UInt64.ofNat (Int.toNat 19)) + cy L0 (e * (g * UInt64.ofNat (Int.toNat 19))), H1 + mhi e (h * UInt64.ofNat (Int.toNat 19)) + cy L1 (e * (h * UInt64.ofNat (Int.toNat 19))), H2 + mhi e (i * UInt64.ofNat (Int.toNat 19)) + cy L2 (e * (i * UInt64.ofNat (Int.toNat 19))), H3 + mhi e (j * UInt64.ofNat (Int.toNat 19)) + cy L3 (e * (j * UInt64.ofNat (Int.toNat 19))), H4 + mhi e f + cy L4 (e * f)] := by rw [hiL_s, ← hH0, ← hH1, ← hH2, ← hH3, ← hH4, ← hL0, ← hL1, ← hL2, ← hL3, ← hL4, hX, hY, c19]; rfl
      have e2 : loL X Y 5 = [L0 + e * (g * UInt64.ofNat (Int.toNat 19)), L1 + e * (h * UInt64.ofNat (Int.toNat 19)), L2 + e * (i * UInt64.ofNat (Int.toNat 19)), L3 + e * (j * UInt64.ofNat (Int.toNat 19)), L4 + e * f] := by rw [loL_s, ← hL0, ← hL1, ← hL2, ← hL3, ← hL4, hX, hY, c19]; rfl
      dsimp only
      rw [s1, s2]
      conv => whnf
      first | refine brT (by rfl) ?_ | fail
      conv => whnf
      repeat (first | (refine Exists.intro _ (And.intro (sload_all rfl (by first | rfl | fail)) ?_); conv => whnf) | (refine Exists.intro _ (And.intro rfl ?_); conv => whnf) | (refine And.intro (by first | omega | fail) ?_; conv => whnf) | fail)
      refine loop_rounds ttOk mixed (by kernel_rfl) 6 ?_
      conv => whnf
      repeat (first | (refine brT rfl ?_; conv => whnf) | (refine brF rfl ?_; conv => whnf) | (refine Exists.intro _ (And.intro rfl ?_); conv => whnf) | (refine And.intro (by first | omega | fail) ?_; conv => whnf) | fail)
      refine ok1_callF [] [] true (f86 _ _) rfl rfl ⟨⟨rfl, by first | rfl | fail⟩, trivial, by first | rfl | fail, by first | rfl | fail, ?_⟩
      conv => whnf
      repeat (first | (refine Exists.intro _ (And.intro rfl ?_); conv => whnf) | (refine And.intro (Nat.le_of_ble_eq_true rfl) ?_; conv => whnf) | fail)
      refine add0 _ _ rfl rfl ?_
      conv => whnf
      repeat (first | (refine Exists.intro _ (And.intro rfl ?_); conv => whnf) | (refine And.intro (Nat.le_of_ble_eq_true rfl) ?_; conv => whnf) | (refine And.intro ⟨rfl, Nat.le_of_ble_eq_true rfl⟩ ?_; conv => whnf) | fail)
      refine addc _ _ _ _ rfl rfl (fun z => ?_)
      conv => whnf
      repeat (first | (refine brT rfl ?_; conv => whnf) | (refine Exists.intro _ (And.intro rfl ?_); conv => whnf) | (refine And.intro (Nat.le_of_ble_eq_true rfl) ?_; conv => whnf) | (refine And.intro ⟨rfl, Nat.le_of_ble_eq_true rfl⟩ ?_; conv => whnf) | fail)
      refine ok1_callF [] [] true (f86 _ _) rfl rfl ⟨⟨rfl, by first | rfl | fail⟩, trivial, by first | rfl | fail, by first | rfl | fail, ?_⟩
      conv => whnf
      repeat (first | (refine Exists.intro _ (And.intro rfl ?_); conv => whnf) | (refine And.intro (Nat.le_of_ble_eq_true rfl) ?_; conv => whnf) | fail)
      refine add0 _ _ rfl rfl ?_
      conv => whnf
      repeat (first | (refine Exists.intro _ (And.intro rfl ?_); conv => whnf) | (refine And.intro (Nat.le_of_ble_eq_true rfl) ?_; conv => whnf) | (refine And.intro ⟨rfl, Nat.le_of_ble_eq_true rfl⟩ ?_; conv => whnf) | fail)
      refine addc _ _ _ _ rfl rfl (fun z => ?_)
      conv => whnf
      repeat (first | (refine brT rfl ?_; conv => whnf) | (refine Exists.intro _ (And.intro rfl ?_); conv => whnf) | (refine And.intro (Nat.le_of_ble_eq_true rfl) ?_; conv => whnf) | (refine And.intro ⟨rfl, Nat.le_of_ble_eq_true rfl⟩ ?_; conv => whnf) | fail)
      refine ok1_callF [] [] true (f86 _ _) rfl rfl ⟨⟨rfl, by first | rfl | fail⟩, trivial, by first | rfl | fail, by first | rfl | fail, ?_⟩
      conv => whnf
      repeat (first | (refine Exists.intro _ (And.intro rfl ?_); conv => whnf) | (refine And.intro (Nat.le_of_ble_eq_true rfl) ?_; conv => whnf) | fail)
      refine add0 _ _ rfl rfl ?_
      conv => whnf
      repeat (first | (refine Exists.intro _ (And.intro rfl ?_); conv => whnf) | (refine And.intro (Nat.le_of_ble_eq_true rfl) ?_; conv => whnf) | (refine And.intro ⟨rfl, Nat.le_of_ble_eq_true rfl⟩ ?_; conv => whnf) | fail)
      refine addc _ _ _ _ rfl rfl (fun z => ?_)
      conv => whnf
      repeat (first | (refine brT rfl ?_; conv => whnf) | (refine Exists.intro _ (And.intro rfl ?_); conv => whnf) | (refine And.intro (Nat.le_of_ble_eq_true rfl) ?_; conv => whnf) | (refine And.intro ⟨rfl, Nat.le_of_ble_eq_true rfl⟩ ?_; conv => whnf) | fail)
      refine ok1_callF [] [] true (f86 _ _) rfl rfl ⟨⟨rfl, by first | rfl | fail⟩, trivial, by first | rfl | fail, by first | rfl | fail, ?_⟩
      conv => whnf
      repeat (first | (refine Exists.intro _ (And.intro rfl ?_); conv => whnf) | (refine And.intro (Nat.le_of_ble_eq_true rfl) ?_; conv => whnf) | fail)
      refine add0 _ _ rfl rfl ?_
      conv => whnf
      repeat (first | (refine Exists.intro _ (And.intro rfl ?_); conv => whnf) | (refine And.intro (Nat.le_of_ble_eq_true rfl) ?_; conv => whnf) | (refine And.intro ⟨rfl, Nat.le_of_ble_eq_true rfl⟩ ?_; conv => whnf) | fail)
      refine addc _ _ _ _ rfl rfl (fun z => ?_)
      conv => whnf
      repeat (first | (refine brT rfl ?_; conv => whnf) | (refine Exists.intro _ (And.intro rfl ?_); conv => whnf) | (refine And.intro (Nat.le_of_ble_eq_true rfl) ?_; conv => whnf) | (refine And.intro ⟨rfl, Nat.le_of_ble_eq_true rfl⟩ ?_; conv => whnf) | fail)
      refine ok1_callF [] [] true (f86 _ _) rfl rfl ⟨⟨rfl, by first | rfl | fail⟩, trivial, by first | rfl | fail, by first | rfl | fail, ?_⟩
      conv => whnf
      repeat (first | (refine Exists.intro _ (And.intro rfl ?_); conv => whnf) | (refine And.intro (Nat.le_of_ble_eq_true rfl) ?_; conv => whnf) | fail)
      refine add0 _ _ rfl rfl ?_
      conv => whnf
      repeat (first | (refine Exists.intro _ (And.intro rfl ?_); conv => whnf) | (refine And.intro (Nat.le_of_ble_eq_true rfl) ?_; conv => whnf) | (refine And.intro ⟨rfl, Nat.le_of_ble_eq_true rfl⟩ ?_; conv => whnf) | fail)
      refine addc _ _ _ _ rfl rfl (fun z => ?_)
      conv => whnf
      repeat (first | (refine brF rfl ?_; conv => whnf) | (refine Exists.intro _ (And.intro rfl ?_); conv => whnf) | (refine And.intro (Nat.le_of_ble_eq_true rfl) ?_; conv => whnf) | (refine And.intro ⟨rfl, Nat.le_of_ble_eq_true rfl⟩ ?_; conv => whnf) | fail)
      refine ⟨⟨5, by omega⟩, by simp only; omega, ?_⟩
      dsimp only
      rw [e1, e2]
      refine Weak.sel [0, 1, 2, 3, 4] rfl rfl ?_ ?_ rfl rfl
      · (repeat' (first | exact trivial | refine And.intro ?_ ?_ | (refine wk_agg ?_) | (refine wk_cons ?_ ?_))) <;> first | rfl | fail
      · (repeat' (first | exact trivial | refine And.intro ?_ ?_ | (refine wk_cons ?_ ?_))) <;> first | rfl | fail
    · obtain ⟨H0, hH0⟩ : ∃ z, z = hi X Y 5 0 := ⟨_, rfl⟩
      obtain ⟨H1, hH1⟩ : ∃ z, z = hi X Y 5 1 := ⟨_, rfl⟩
      obtain ⟨H2, hH2⟩ : ∃ z, z = hi X Y 5 2 := ⟨_, rfl⟩
      obtain ⟨H3, hH3⟩ : ∃ z, z = hi X Y 5 3 := ⟨_, rfl⟩
      obtain ⟨H4, hH4⟩ : ∃ z, z = hi X Y 5 4 := ⟨_, rfl⟩
      obtain ⟨L0, hL0⟩ : ∃ z, z = lo X Y 5 0 := ⟨_, rfl⟩
      obtain ⟨L1, hL1⟩ : ∃ z, z = lo X Y 5 1 := ⟨_, rfl⟩
      obtain ⟨L2, hL2⟩ : ∃ z, z = lo X Y 5 2 := ⟨_, rfl⟩
      obtain ⟨L3, hL3⟩ : ∃ z, z = lo X Y 5 3 := ⟨_, rfl⟩
      obtain ⟨L4, hL4⟩ : ∃ z, z = lo X Y 5 4 := ⟨_, rfl⟩
      have s1 : hiL X Y 5 = [H0, H1, H2, H3, H4] := by rw [hH0, hH1, hH2, hH3, hH4]; rfl
      have s2 : loL X Y 5 = [L0, L1, L2, L3, L4] := by rw [hL0, hL1, hL2, hL3, hL4]; rfl
      dsimp only
      rw [s1, s2]
      conv => whnf
      first | refine brF (by rfl) ?_ | fail
      conv => whnf
      repeat (fail)
      refine loop_rule ttOk mixed (by kernel_rfl) (ι := { k : Nat // k ≤ 5 }) (fun k => [(4, .p 2 0), (5, .p 3 0), (6, .p 4 0), (15, .p 5 0), (16, .u64 (cO X Y k.1)), (72, .i (k.1 : Int))]) (fun k => [none, none, some (.box (List.replicate 5 (.u64 0))), some (.box [.u64 H0, .u64 H1, .u64 H2, .u64 H3, .u64 H4]), some (.box [.u64 L0, .u64 L1, .u64 L2, .u64 L3, .u64 L4]), some (.box ((ouL X Y k.1).map .u64))]) (fun _ => 6) (fun k => 5 - k.1) ⟨0, by omega⟩ ?_ ?_
      · have hz : ouL X Y 0 = [0, 0, 0, 0, 0] := rfl
        have hz2 : cO X Y 0 = 0 := cO_z X Y
        dsimp only
        rw [hz, hz2]
        refine Weak.sel [0, 1, 2, 3, 4, 5] rfl rfl ?_ ?_ rfl rfl
        · (repeat' (first | exact trivial | refine And.intro ?_ ?_ | fail)) <;> first | rfl | fail
        · (repeat' (first | exact trivial | refine And.intro ?_ ?_ | (refine wk_cons ?_ ?_))) <;> first | rfl | fail
      · rintro ⟨k, hk⟩
        have h6 : k = 0 ∨ k = 1 ∨ k = 2 ∨ k = 3 ∨ k = 4 ∨ k = 5 := by omega
        rcases h6 with rfl | rfl | rfl | rfl | rfl | rfl
        ·
          obtain ⟨C, hC⟩ : ∃ z, z = cO X Y 0 := ⟨_, rfl⟩
          have t1 : ouL X Y 0 = [0, 0, 0, 0, 0] := by rfl
          have t2 : ouL X Y 1 = [(L0 + C) &&& UInt64.ofNat (Int.toNat 2251799813685247), 0, 0, 0, 0] := by rw [hC, hL0, cM]; rfl
          have t3 : cO X Y 1 = shl64 (H0 + cy L0 C) 13 ||| shr64 (L0 + C) 51 := by rw [cO_s, ← hC, ← hH0, ← hL0]
          dsimp only
          rw [t1, ← hC]
          conv => whnf
          first | refine brT (by rfl) ?_ | fail
          conv => whnf
          repeat (first | (refine Exists.intro _ (And.intro rfl ?_); conv => whnf) | (refine And.intro (by first | omega | fail) ?_; conv => whnf) | fail)
          refine add0 _ _ rfl rfl ?_
          conv => whnf
          repeat (first | (refine Exists.intro _ (And.intro rfl ?_); conv => whnf) | (refine And.intro (by first | omega | (simp; done) | fail) ?_; conv => whnf) | fail)
          refine ⟨⟨1, by omega⟩, by simp only; omega, ?_⟩
          dsimp only
          rw [t2, t3]
          refine Weak.sel [0, 1, 2, 3, 4, 5] rfl rfl ?_ ?_ rfl rfl
          · (repeat' (first | exact trivial | refine And.intro ?_ ?_ | fail)) <;> first | rfl | fail
          · (repeat' (first | exact trivial | refine And.intro ?_ ?_ | (refine wk_cons ?_ ?_))) <;> first | rfl | fail
        ·
          obtain ⟨C, hC⟩ : ∃ z, z = cO X Y 1 := ⟨_, rfl⟩
          obtain ⟨O0, hO0⟩ : ∃ z, z = oO X Y 0 := ⟨_, rfl⟩
          have t1 : ouL X Y 1 = [O0, 0, 0, 0, 0] := by rw [hO0]; rfl
          have t2 : ouL X Y 2 = [O0, (L1 + C) &&& UInt64.ofNat (Int.toNat 2251799813685247), 0, 0, 0] := by rw [hO0, hC, hL1, cM]; rfl
          have t3 : cO X Y 2 = shl64 (H1 + cy L1 C) 13 ||| shr64 (L1 + C) 51 := by rw [cO_s, ← hC, ← hH1, ← hL1]
          dsimp only
          rw [t1, ← hC]
          conv => whnf
          first | refine brT (by rfl) ?_ | fail
          conv => whnf
          repeat (first | (refine Exists.intro _ (And.intro rfl ?_); conv => whnf) | (refine And.intro (by first | omega | fail) ?_; conv => whnf) | fail)
          refine add0 _ _ rfl rfl ?_
          conv => whnf
          repeat (first | (refine Exists.intro _ (And.intro rfl ?_); conv => whnf) | (refine And.intro (by first | omega | (simp; done) | fail) ?_; conv => whnf) | fail)
          refine ⟨⟨2, by omega⟩, by simp only; omega, ?_⟩
          dsimp only
          rw [t2, t3]
          refine Weak.sel [0, 1, 2, 3, 4, 5] rfl rfl ?_ ?_ rfl rfl
          · (repeat' (first | exact trivial | refine And.intro ?_ ?_ | fail)) <;> first | rfl | fail
          · (repeat' (first | exact trivial | refine And.intro ?_ ?_ | (refine wk_cons ?_ ?_))) <;> first | rfl | fail
        ·
          obtain ⟨C, hC⟩ : ∃ z, z = cO X Y 2 := ⟨_, rfl⟩
          obtain ⟨O0, hO0⟩ : ∃ z, z = oO X Y 0 := ⟨_, rfl⟩
          obtain ⟨O1, hO1⟩ : ∃ z, z = oO X Y 1 := ⟨_, rfl⟩
          have t1 : ouL X Y 2 = [O0, O1, 0, 0, 0] := by rw [hO0, hO1]; rfl
          have t2 : ouL X Y 3 = [O0, O1, (L2 + C) &&& UInt64.ofNat (Int.toNat 2251799813685247), 0, 0] := by rw [hO0, hO1, hC, hL2, cM]; rfl
          have t3 : cO X Y 3 = shl64 (H2 + cy L2 C) 13 ||| shr64 (L2 + C) 51 := by rw [cO_s, ← hC, ← hH2, ← hL2]
          dsimp only
          rw [t1, ← hC]
          conv => whnf
          first | refine brT (by rfl) ?_ | fail
          conv => whnf
          repeat (first | (refine Exists.intro _ (And.intro rfl ?_); conv => whnf) | (refine And.intro (by first | omega | fail) ?_; conv => whnf) | fail)
          refine add0 _ _ rfl rfl ?_
          conv => whnf
          repeat (first | (refine Exists.intro _ (And.intro rfl ?_); conv => whnf) | (refine And.intro (by first | omega | (simp; done) | fail) ?_; conv => whnf) | fail)
          refine ⟨⟨3, by omega⟩, by simp only; omega, ?_⟩
          dsimp only
          rw [t2, t3]
          refine Weak.sel [0, 1, 2, 3, 4, 5] rfl rfl ?_ ?_ rfl rfl
          · (repeat' (first | exact trivial | refine And.intro ?_ ?_ | fail)) <;> first | rfl | fail
          · (repeat' (first | exact trivial | refine And.intro ?_ ?_ | (refine wk_cons ?_ ?_))) <;> first | rfl | fail
        ·
          obtain ⟨C, hC⟩ : ∃ z, z = cO X Y 3 := ⟨_, rfl⟩
          obtain ⟨O0, hO0⟩ : ∃ z, z = oO X Y 0 := ⟨_, rfl⟩
          obtain ⟨O1, hO1⟩ : ∃ z, z = oO X Y 1 := ⟨_, rfl⟩
          obtain ⟨O2, hO2⟩ : ∃ z, z = oO X Y 2 := ⟨_, rfl⟩
          have t1 : ouL X Y 3 = [O0, O1, O2, 0, 0] := by rw [hO0, hO1, hO2]; rfl
          have t2 : ouL X Y 4 = [O0, O1, O2, (L3 + C) &&& UInt64.ofNat (Int.toNat 2251799813685247), 0] := by rw [hO0, hO1, hO2, hC, hL3, cM]; rfl
          have t3 : cO X Y 4 = shl64 (H3 + cy L3 C) 13 ||| shr64 (L3 + C) 51 := by rw [cO_s, ← hC, ← hH3, ← hL3]
          dsimp only
          rw [t1, ← hC]
          conv => whnf
          first | refine brT (by rfl) ?_ | fail
          conv => whnf
          repeat (first | (refine Exists.intro _ (And.intro rfl ?_); conv => whnf) | (refine And.intro (by first | omega | fail) ?_; conv => whnf) | fail)
          refine add0 _ _ rfl rfl ?_
          conv => whnf
          repeat (first | (refine Exists.intro _ (And.intro rfl ?_); conv => whnf) | (refine And.intro (by first | omega | (simp; done) | fail) ?_; conv => whnf) | fail)
          refine ⟨⟨4, by omega⟩, by simp only; omega, ?_⟩
          dsimp only
          rw [t2, t3]
          refine Weak.sel [0, 1, 2, 3, 4, 5] rfl rfl ?_ ?_ rfl rfl
          · (repeat' (first | exact trivial | refine And.intro ?_ ?_ | fail)) <;> first | rfl | fail
          · (repeat' (first | exact trivial | refine And.intro ?_ ?_ | (refine wk_cons ?_ ?_))) <;> first | rfl | fail
        ·
          obtain ⟨C, hC⟩ : ∃ z, z = cO X Y 4 := ⟨_, rfl⟩
          obtain ⟨O0, hO0⟩ : ∃ z, z = oO X Y 0 := ⟨_, rfl⟩
          obtain ⟨O1, hO1⟩ : ∃ z, z = oO X Y 1 := ⟨_, rfl⟩
          obtain ⟨O2, hO2⟩ : ∃ z, z = oO X Y 2 := ⟨_, rfl⟩
          obtain ⟨O3, hO3⟩ : ∃ z, z = oO X Y 3 := ⟨_, rfl⟩
          have t1 : ouL X Y 4 = [O0, O1, O2, O3, 0] := by rw [hO0, hO1, hO2, hO3]; rfl
          have t2 : ouL X Y 5 = [O0, O1, O2, O3, (L4 + C) &&& UInt64.ofNat (Int.toNat 2251799813685247)] := by rw [hO0, hO1, hO2, hO3, hC, hL4, cM]; rfl
          have t3 : cO X Y 5 = shl64 (H4 + cy L4 C) 13 ||| shr64 (L4 + C) 51 := by rw [cO_s, ← hC, ← hH4, ← hL4]
          dsimp only
          rw [t1, ← hC]
          conv => whnf
          first | refine brT (by rfl) ?_ | fail
          conv => whnf
          repeat (first | (refine Exists.intro _ (And.intro rfl ?_); conv => whnf) | (refine And.intro (by first | omega | fail) ?_; conv => whnf) | fail)
          refine add0 _ _ rfl rfl ?_
          conv => whnf
          repeat (first | (refine Exists.intro _ (And.intro rfl ?_); conv => whnf) | (refine And.intro (by first | omega | (simp; done) | fail) ?_; conv => whnf) | fail)
          refine ⟨⟨5, by omega⟩, by simp only; omega, ?_⟩
          dsimp only
          rw [t2, t3]
          refine Weak.sel [0, 1, 2, 3, 4, 5] rfl rfl ?_ ?_ rfl rfl
          · (repeat' (first | exact trivial | refine And.intro ?_ ?_ | fail)) <;> first | rfl | fail
          · (repeat' (first | exact trivial | refine And.intro ?_ ?_ | (refine wk_cons ?_ ?_))) <;> first | rfl | fail
        · obtain ⟨C, hC⟩ : ∃ z, z = cO X Y 5 := ⟨_, rfl⟩
          obtain ⟨O0, hO0⟩ : ∃ z, z = oO X Y 0 := ⟨_, rfl⟩
          obtain ⟨O1, hO1⟩ : ∃ z, z = oO X Y 1 := ⟨_, rfl⟩
          obtain ⟨O2, hO2⟩ : ∃ z, z = oO X Y 2 := ⟨_, rfl⟩
          obtain ⟨O3, hO3⟩ : ∃ z, z = oO X Y 3 := ⟨_, rfl⟩
          obtain ⟨O4, hO4⟩ : ∃ z, z = oO X Y 4 := ⟨_, rfl⟩
          have t1 : ouL X Y 5 = [O0, O1, O2, O3, O4] := by rw [hO0, hO1, hO2, hO3, hO4]; rfl
          have t2 : mulL [a, b, c, d, e] [f, g, h, i, j] = carL [O0 + UInt64.ofNat (Int.toNat 19) * C, O1, O2, O3, O4] := by rw [mulL_eq, ← hX, ← hY, hO0, hO1, hO2, hO3, hO4, hC, c19]
          have hcl := fun m0 m1 m2 m3 m4 => carL_len [m0, m1, m2, m3, m4]
          rw [t2]
          dsimp only
          rw [t1, ← hC]
          conv => whnf
          first | refine brF (by rfl) ?_ | fail
          conv => whnf
          repeat (first | (refine Exists.intro _ (And.intro (sload_all rfl (by first | rfl | fail)) ?_); conv => whnf) | (refine Exists.intro _ (And.intro rfl ?_); conv => whnf) | (refine And.intro (by first | omega | (simp; done) | fail) ?_; conv => whnf) | fail)
          refine ok1_callF [] [] true (f85x _ _ _ _ _) rfl rfl ⟨⟨rfl, by first | rfl | fail⟩, trivial, by first | rfl | fail, by first | simp [plainRf, plainR, plainT, plainW], ?_⟩
          conv => whnf
          repeat (first | (refine Exists.intro _ (And.intro (sload_all rfl (by first | rfl | (simp [hcl]; done) | fail)) ?_); conv => whnf) | (refine Exists.intro _ (And.intro (sput_all rfl (by first | rfl | (simp [hcl]; done) | fail)) ?_); conv => whnf) | (refine And.intro ⟨by first | (simp [hcl]; done) | fail, by first | (simp [hcl]; done) | fail⟩ ?_; conv => whnf) | fail)
          refine ⟨[], ?_, rfl, rfl, ?_, rfl⟩
          · (repeat' (first | (refine wk_agg ?_) | fail)) <;> first | exact ren_eq (by first | (simp; done) | fail) (by first | rfl | fail) | fail
          · (repeat' (first | exact trivial | fail)) <;> fail
end Go.Sh
