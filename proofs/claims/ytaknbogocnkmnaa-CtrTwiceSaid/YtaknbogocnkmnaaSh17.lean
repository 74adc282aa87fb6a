/- Small facts for walks. -/
import Derived.Test.YtaknbogocnkmnaaSh16
namespace Go.Sh

def plainV : SV → Bool
  | .i _ => true
  | .u8 _ => true
  | .u16 _ => true
  | .u32 _ => true
  | .u64 _ => true
  | .b _ => true
  | .s _ => true
  | .pnil => true
  | .slnil => true
  | .fnil => true
  | .mnil => true
  | _ => false

def plainL (l : List SV) : Bool := l.all plainV

theorem renV_plain (sel : List Nat) {x : SV} (h : plainV x = true) : renV sel x = some x := by cases x <;> first | rfl | cases h
theorem renL_plain (sel : List Nat) : ∀ {l : List SV}, plainL l = true → renL sel l = some l
  | [], _ => rfl
  | x :: l, h => by
    simp only [plainL, List.all_cons, Bool.and_eq_true] at h
    simp only [renL, renV_plain sel h.1, renL_plain sel (l := l) h.2]

@[simp] theorem plainL_u8 (l : List UInt8) : plainL (l.map .u8) = true := by simp [plainL, plainV]
@[simp] theorem plainL_u64 (l : List UInt64) : plainL (l.map .u64) = true := by simp [plainL, plainV]
@[simp] theorem plainL_u32 (l : List UInt32) : plainL (l.map .u32) = true := by simp [plainL, plainV]
@[simp] theorem plainL_i (l : List Int) : plainL (l.map .i) = true := by simp [plainL, plainV]
@[simp] theorem plainL_app (a b : List SV) : plainL (a ++ b) = (plainL a && plainL b) := by simp [plainL]
@[simp] theorem plainL_cons (a : SV) (b : List SV) : plainL (a :: b) = (plainV a && plainL b) := by simp [plainL]
@[simp] theorem plainL_nil : plainL [] = true := rfl
@[simp] theorem plainV_u8 (x : UInt8) : plainV (.u8 x) = true := rfl
@[simp] theorem plainV_u32 (x : UInt32) : plainV (.u32 x) = true := rfl
@[simp] theorem plainV_u64 (x : UInt64) : plainV (.u64 x) = true := rfl
@[simp] theorem plainV_i (x : Int) : plainV (.i x) = true := rfl
@[simp] theorem plainV_b (x : Bool) : plainV (.b x) = true := rfl

/-- Plain cells go by any names. -/
theorem ren_eq {sel : List Nat} {l l' : List SV} (hp : plainL l = true) (h : l = l') : renL sel l = some l' := by rw [renL_plain sel hp, h]

theorem idx_i {n : Int} {m : Nat} (h : n = (m : Int)) : idxOf (.i n) = some m := by
  subst h; simp [idxOf]

theorem take_all {α : Type} {l : List α} {n : Nat} (h : n = l.length) : l.take n = l := by subst h; simp
@[simp] theorem take_map_len {α : Type} (f : α → SV) (l : List α) : (l.map f).take l.length = l.map f := take_all (by simp)

@[simp] theorem cells_row (t : Nat) (l : List SV) : (SB.row t l).cells = l := rfl
@[simp] theorem cells_box (l : List SV) : (SB.box l).cells = l := rfl
@[simp] theorem cells_ro (l : List SV) : (SB.ro l).cells = l := rfl
@[simp] theorem cells_u8 (x : UInt8) : (SV.u8 x).cells = [.u8 x] := rfl
@[simp] theorem cells_u32 (x : UInt32) : (SV.u32 x).cells = [.u32 x] := rfl
@[simp] theorem cells_u64 (x : UInt64) : (SV.u64 x).cells = [.u64 x] := rfl
@[simp] theorem cells_i (x : Int) : (SV.i x).cells = [.i x] := rfl
@[simp] theorem cells_s (x : List UInt8) : (SV.s x).cells = [.s x] := rfl
@[simp] theorem cells_agg (x : List SV) : (SV.agg x).cells = x := rfl
@[simp] theorem reps_u8 (n : Nat) (x : SV) : reps n [x] = List.replicate n x := rfl
@[simp] theorem sput_u8 (l : List SV) (k : Nat) (x : UInt8) : sput l k (.u8 x) = l.set k (.u8 x) := rfl
@[simp] theorem sput_u32 (l : List SV) (k : Nat) (x : UInt32) : sput l k (.u32 x) = l.set k (.u32 x) := rfl
@[simp] theorem sput_u64 (l : List SV) (k : Nat) (x : UInt64) : sput l k (.u64 x) = l.set k (.u64 x) := rfl
@[simp] theorem sput_i (l : List SV) (k : Nat) (x : Int) : sput l k (.i x) = l.set k (.i x) := rfl

/-! ### A call whose blocks hold plain cells -/

def plainB : SB → Bool
  | .row _ l => plainL l
  | .box l => plainL l
  | .ro l => plainL l
  | .obj _ => false
@[simp] theorem plainB_row (t : Nat) (l : List SV) : plainB (.row t l) = plainL l := rfl
@[simp] theorem plainB_box (l : List SV) : plainB (.box l) = plainL l := rfl
@[simp] theorem plainB_ro (l : List SV) : plainB (.ro l) = plainL l := rfl

def plainH : HL → Bool
  | [] => true
  | none :: H => plainH H
  | some b :: H => plainB b && plainH H

def cWp : List Nat → HL → HL → Option Upd
  | s :: ss, some b0 :: H0, ob :: H1 => match cWp ss H0 H1 with
    | some W => match b0.own with
      | false => some W
      | true => match ob with
        | none => some ((s, none) :: W)
        | some b => match b.own with
          | true => some ((s, some b) :: W)
          | false => none
    | none => none
  | s :: ss, [], ob :: H1 => match cWp ss [] H1 with
    | some W => match ob with
      | none => some ((s, none) :: W)
      | some b => match b.own with
        | true => some ((s, some b) :: W)
        | false => none
    | none => none
  | [], [], [] => some []
  | _, _, _ => none

theorem renB_plain (sel : List Nat) {b : SB} (h : plainB b = true) : renB sel b = some b := by
  cases b <;> simp only [plainB, Bool.false_eq_true] at h <;> simp only [renB, renL_plain sel h]

theorem cWp_eq (sel : List Nat) : ∀ (ss : List Nat) (H0 H1 : HL), plainH H1 = true → cW sel ss H0 H1 = cWp ss H0 H1
  | s :: ss, some b0 :: H0, none :: H1, h => by
    simp only [plainH] at h
    simp only [cW, cWp, cWp_eq sel ss H0 H1 h]
    cases cWp ss H0 H1 <;> first | rfl | (cases b0.own <;> rfl)
  | s :: ss, some b0 :: H0, some b :: H1, h => by
    simp only [plainH, Bool.and_eq_true] at h
    simp only [cW, cWp, cWp_eq sel ss H0 H1 h.2, renB_plain sel h.1]
    cases cWp ss H0 H1 <;> first | rfl | (cases b0.own <;> first | rfl | (cases b.own <;> rfl))
  | s :: ss, [], none :: H1, h => by
    simp only [plainH] at h
    simp only [cW, cWp, cWp_eq sel ss [] H1 h]
    cases cWp ss [] H1 <;> rfl
  | s :: ss, [], some b :: H1, h => by
    simp only [plainH, Bool.and_eq_true] at h
    simp only [cW, cWp, cWp_eq sel ss [] H1 h.2, renB_plain sel h.1]
    cases cWp ss [] H1 <;> first | rfl | (cases b.own <;> rfl)
  | [], [], [], _ => rfl
  | [], [], _ :: _, _ => by simp [cW, cWp]
  | [], _ :: _, _, _ => by simp [cW, cWp]
  | _ :: _, [], [], _ => by simp [cW, cWp]
  | _ :: _, none :: _, _, _ => by simp [cW, cWp]
  | _ :: _, some _ :: _, [], _ => by simp [cW, cWp]

def sopCallP (R : RL) (H : HL) (L : Nat) (x : Operand) (args : List Operand) (f : Nat) (sel : List Nat) (args0 : List SV) (H0 : HL) (ret : SV) (H1 : HL) (k : K1) : Prop :=
  (match ev R x with
    | some (.fn g caps) => match evs R args with
      | some zs => g = f ∧ renL sel args0 = some (zs ++ caps)
      | none => False
    | _ => False) ∧ okH sel H sel H0 ∧ plainH H1 = true ∧
  match Nat.beq sel.length H0.length with
  | true => match dupOk sel 0 sel H0 with
    | true => match cWp (sel ++ newSel L (H1.length - H0.length)) H0 H1 with
      | some W => match renV (sel ++ newSel L (H1.length - H0.length)) ret with
        | some z => k (some z) W sel (L + (H1.length - H0.length))
        | none => False
      | none => False
    | false => False
  | false => False

theorem ok1_callP {P : Program} {o : Oper} {R : RL} {H : HL} {L : Nat} {k : K1} {x : Operand} {args : Array Operand} {tys : Array TypeId} {f : Nat} {args0 : List SV} {H0 H1 : HL} {ret : SV} (sel : List Nat)
    (hc : SCall P f args0 H0 ret H1) (ho : o.op = .call ⟨.value x, args, tys⟩) (hle : Nat.ble H.length L = true) (h : sopCallP R H L x args.toList f sel args0 H0 ret H1 k) : Ok1 P o R H L k := by
  obtain ⟨h1, h2, hp, h3⟩ := h
  refine ok1_call sel hc ho hle ⟨h1, h2, ?_⟩
  rw [cWp_eq _ _ _ _ hp]
  exact h3

/-! ### Calls of which some blocks hold plain cells (told by flags), others are renamed by reckoning -/

def plainHf : List Bool → HL → Bool
  | true :: fs, some b :: H => plainB b && plainHf fs H
  | _ :: fs, _ :: H => plainHf fs H
  | _, _ => true

def renBf (f : Bool) (sel : List Nat) (b : SB) : Option SB := match f with | true => some b | false => renB sel b

def cWf (sel : List Nat) : List Bool → List Nat → HL → HL → Option Upd
  | f :: fs, s :: ss, some b0 :: H0, ob :: H1 => match cWf sel fs ss H0 H1 with
    | some W => match b0.own with
      | false => some W
      | true => match ob with
        | none => some ((s, none) :: W)
        | some b => match b.own with
          | true => match renBf f sel b with | some b' => some ((s, some b') :: W) | none => none
          | false => none
    | none => none
  | f :: fs, s :: ss, [], ob :: H1 => match cWf sel fs ss [] H1 with
    | some W => match ob with
      | none => some ((s, none) :: W)
      | some b => match b.own with
        | true => match renBf f sel b with | some b' => some ((s, some b') :: W) | none => none
        | false => none
    | none => none
  | _, [], [], [] => some []
  | _, _, _, _ => none

theorem renBf_eq {f : Bool} {sel : List Nat} {b b' : SB} (hp : f = true → plainB b = true) (h : renBf f sel b = some b') : renB sel b = some b' := by
  cases f with
  | false => exact h
  | true => rw [renB_plain sel (hp rfl)]; exact h

theorem cWf_eq (sel : List Nat) : ∀ (fs : List Bool) (ss : List Nat) (H0 H1 : HL) (W : Upd), plainHf fs H1 = true → cWf sel fs ss H0 H1 = some W → cW sel ss H0 H1 = some W
  | f :: fs, s :: ss, some b0 :: H0, ob :: H1, W, hp, h => by
    have hp1 : plainHf fs H1 = true := by
      cases f <;> cases ob <;> simp only [plainHf, Bool.and_eq_true] at hp <;> first | exact hp | exact hp.2
    simp only [cWf] at h
    split at h
    · rename_i W' hW
      have ih := cWf_eq sel fs ss H0 H1 W' hp1 hW
      simp only [cW, ih]
      split at h
      · rename_i hown; simp only [hown]; exact h
      · rename_i hown
        simp only [hown]
        split at h
        · exact h
        · rename_i b
          split at h
          · rename_i hbo
            simp only [hbo]
            split at h
            · rename_i b' hb'
              rw [renBf_eq (fun e => by subst e; simp only [plainHf, Bool.and_eq_true] at hp; exact hp.1) hb']
              exact h
            · cases h
          · cases h
    · cases h
  | f :: fs, s :: ss, [], ob :: H1, W, hp, h => by
    have hp1 : plainHf fs H1 = true := by
      cases f <;> cases ob <;> simp only [plainHf, Bool.and_eq_true] at hp <;> first | exact hp | exact hp.2
    simp only [cWf] at h
    split at h
    · rename_i W' hW
      have ih := cWf_eq sel fs ss [] H1 W' hp1 hW
      simp only [cW, ih]
      split at h
      · exact h
      · rename_i b
        split at h
        · rename_i hbo
          simp only [hbo]
          split at h
          · rename_i b' hb'
            rw [renBf_eq (fun e => by subst e; simp only [plainHf, Bool.and_eq_true] at hp; exact hp.1) hb']
            exact h
          · cases h
        · cases h
    · cases h
  | [], [], [], [], W, _, h => by simp only [cWf, Option.some.injEq] at h; subst h; rfl
  | _ :: _, [], [], [], W, _, h => by simp only [cWf, Option.some.injEq] at h; subst h; rfl
  | [], [], [], _ :: _, W, _, h => by simp [cWf] at h
  | _ :: _, [], [], _ :: _, W, _, h => by simp [cWf] at h
  | [], [], _ :: _, _, W, _, h => by simp [cWf] at h
  | _ :: _, [], _ :: _, _, W, _, h => by simp [cWf] at h
  | [], _ :: _, _, _, W, _, h => by simp [cWf] at h
  | _ :: _, _ :: _, [], [], W, _, h => by simp [cWf] at h
  | _ :: _, _ :: _, none :: _, _, W, _, h => by simp [cWf] at h
  | _ :: _, _ :: _, some _ :: _, [], W, _, h => by simp [cWf] at h

def plainW : SV → Bool
  | .agg l => plainL l
  | x => plainV x
def plainT : List SV → Bool
  | [] => true
  | x :: xs => plainW x && plainT xs
def plainR : SV → Bool
  | .tup l => plainT l
  | x => plainW x

theorem renV_plainW (sel : List Nat) {x : SV} (h : plainW x = true) : renV sel x = some x := by
  cases x <;> first | exact renV_plain sel h | (simp only [plainW] at h; simp only [renV, renL_plain sel h])
theorem renL_plainT (sel : List Nat) : ∀ {l : List SV}, plainT l = true → renL sel l = some l
  | [], _ => rfl
  | x :: l, h => by
    simp only [plainT, Bool.and_eq_true] at h
    simp only [renL, renV_plainW sel h.1, renL_plainT sel (l := l) h.2]
theorem renV_plainR (sel : List Nat) {x : SV} (h : plainR x = true) : renV sel x = some x := by
  cases x <;> first | exact renV_plainW sel h | (simp only [plainR] at h; simp only [renV, renL_plainT sel h])

def renVf (f : Bool) (sel : List Nat) (x : SV) : Option SV := match f with | true => some x | false => renV sel x
def plainRf (f : Bool) (x : SV) : Bool := match f with | true => plainR x | false => true

def sopCallF (fl : List Bool) (rf : Bool) (R : RL) (H : HL) (L : Nat) (x : Operand) (args : List Operand) (f : Nat) (sel : List Nat) (args0 : List SV) (H0 : HL) (ret : SV) (H1 : HL) (k : K1) : Prop :=
  (match ev R x with
    | some (.fn g caps) => match evs R args with
      | some zs => g = f ∧ renL sel args0 = some (zs ++ caps)
      | none => False
    | _ => False) ∧ okH sel H sel H0 ∧ plainHf fl H1 = true ∧ plainRf rf ret = true ∧
  match Nat.beq sel.length H0.length with
  | true => match dupOk sel 0 sel H0 with
    | true => match cWf (sel ++ newSel L (H1.length - H0.length)) fl (sel ++ newSel L (H1.length - H0.length)) H0 H1 with
      | some W => match renVf rf (sel ++ newSel L (H1.length - H0.length)) ret with
        | some z => k (some z) W sel (L + (H1.length - H0.length))
        | none => False
      | none => False
    | false => False
  | false => False

theorem ok1_callF {P : Program} {o : Oper} {R : RL} {H : HL} {L : Nat} {k : K1} {x : Operand} {args : Array Operand} {tys : Array TypeId} {f : Nat} {args0 : List SV} {H0 H1 : HL} {ret : SV} (sel : List Nat) (fl : List Bool) (rf : Bool)
    (hc : SCall P f args0 H0 ret H1) (ho : o.op = .call ⟨.value x, args, tys⟩) (hle : Nat.ble H.length L = true) (h : sopCallF fl rf R H L x args.toList f sel args0 H0 ret H1 k) : Ok1 P o R H L k := by
  obtain ⟨h1, h2, hp, hr, h3⟩ := h
  refine ok1_call sel hc ho hle ⟨h1, h2, ?_⟩
  cases hl : Nat.beq sel.length H0.length with
  | false => rw [hl] at h3; exact h3.elim
  | true =>
    rw [hl] at h3
    simp only at h3 ⊢
    cases hd : dupOk sel 0 sel H0 with
    | false => rw [hd] at h3; exact h3.elim
    | true =>
      rw [hd] at h3
      simp only at h3 ⊢
      cases hw : cWf (sel ++ newSel L (H1.length - H0.length)) fl (sel ++ newSel L (H1.length - H0.length)) H0 H1 with
      | none => rw [hw] at h3; exact h3.elim
      | some W =>
        rw [hw] at h3
        rw [cWf_eq _ _ _ _ _ _ hp hw]
        cases rf with
        | false => exact h3
        | true =>
          simp only [plainRf] at hr
          simp only [renV_plainR _ hr]
          exact h3
end Go.Sh
