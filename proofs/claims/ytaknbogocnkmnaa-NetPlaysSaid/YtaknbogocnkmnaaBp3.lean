/- Merged for a claim: Sh17, Sh21, Sh19, Sh22, Sh29, Sh31, Sh32, Sh33, Sh34, Sh35, Sh18, Sh20, Sh36, Sh39, Sh23, Sh24, Sh38, Sh25, Sh26, Sh40, Sh27, B1, B2. -/
import Derived.Laws.Externs
import Derived.Lib.MakeNoZero
import Derived.MapKept
import Derived.Test.YtaknbogocnkmnaaRows
import Derived.ProofKit
import Derived.OpenShut
import Derived.JoinedCond
import Derived.Carry
import Derived.Test.YtaknbogocnkmnaaBp2
set_option linter.unusedSimpArgs false
set_option linter.unusedVariables false
namespace Go.Sh
def plainV : SV → Bool
 | .i _ => true
 | .u8 _ => true
 | .u16 _ => true
 | .u32 _ => true
 | .u64 _ => true
 | .b _ => true
 | .s _ => true
 | .pnil => true
 | .slnil => true
 | .fnil => true
 | .mnil => true
 | .lit _ => true
 | _ => false
def plainL (l : List SV) : Bool := l.all plainV
theorem renV_plain (sel : List Nat) {x : SV} (h : plainV x = true) : renV sel x = some x := by cases x <;> first | rfl | cases h
theorem renL_plain (sel : List Nat) : ∀ {l : List SV}, plainL l = true → renL sel l = some l
 | [], _ => rfl
 | x :: l, h => by
  simp only [plainL, List.all_cons, Bool.and_eq_true] at h
  simp only [renL, renV_plain sel h.1, renL_plain sel (l := l) h.2]
@[simp] theorem plainL_u8 (l : List UInt8) : plainL (l.map .u8) = true := by simp [plainL, plainV]
@[simp] theorem plainL_u64 (l : List UInt64) : plainL (l.map .u64) = true := by simp [plainL, plainV]
@[simp] theorem plainL_u32 (l : List UInt32) : plainL (l.map .u32) = true := by simp [plainL, plainV]
@[simp] theorem plainL_i (l : List Int) : plainL (l.map .i) = true := by simp [plainL, plainV]
@[simp] theorem plainL_app (a b : List SV) : plainL (a ++ b) = (plainL a && plainL b) := by simp [plainL]
@[simp] theorem plainL_cons (a : SV) (b : List SV) : plainL (a :: b) = (plainV a && plainL b) := by simp [plainL]
@[simp] theorem plainL_nil : plainL [] = true := rfl
@[simp] theorem plainV_u8 (x : UInt8) : plainV (.u8 x) = true := rfl
@[simp] theorem plainV_u32 (x : UInt32) : plainV (.u32 x) = true := rfl
@[simp] theorem plainV_u64 (x : UInt64) : plainV (.u64 x) = true := rfl
@[simp] theorem plainV_i (x : Int) : plainV (.i x) = true := rfl
@[simp] theorem plainV_b (x : Bool) : plainV (.b x) = true := rfl
theorem ren_eq {sel : List Nat} {l l' : List SV} (hp : plainL l = true) (h : l = l') : renL sel l = some l' := by rw [renL_plain sel hp, h]
theorem idx_i {n : Int} {m : Nat} (h : n = (m : Int)) : idxOf (.i n) = some m := by
 subst h; simp [idxOf]
theorem take_all {α : Type} {l : List α} {n : Nat} (h : n = l.length) : l.take n = l := by subst h; simp
@[simp] theorem take_map_len {α : Type} (f : α → SV) (l : List α) : (l.map f).take l.length = l.map f := take_all (by simp)
@[simp] theorem cells_row (t : Nat) (l : List SV) : (SB.row t l).cells = l := rfl
@[simp] theorem cells_box (l : List SV) : (SB.box l).cells = l := rfl
@[simp] theorem cells_ro (l : List SV) : (SB.ro l).cells = l := rfl
@[simp] theorem cells_u8 (x : UInt8) : (SV.u8 x).cells = [.u8 x] := rfl
@[simp] theorem cells_u32 (x : UInt32) : (SV.u32 x).cells = [.u32 x] := rfl
@[simp] theorem cells_u64 (x : UInt64) : (SV.u64 x).cells = [.u64 x] := rfl
@[simp] theorem cells_i (x : Int) : (SV.i x).cells = [.i x] := rfl
@[simp] theorem cells_s (x : List UInt8) : (SV.s x).cells = [.s x] := rfl
@[simp] theorem cells_agg (x : List SV) : (SV.agg x).cells = x := rfl
@[simp] theorem reps_u8 (n : Nat) (x : SV) : reps n [x] = List.replicate n x := rfl
@[simp] theorem sput_u8 (l : List SV) (k : Nat) (x : UInt8) : sput l k (.u8 x) = l.set k (.u8 x) := rfl
@[simp] theorem sput_u32 (l : List SV) (k : Nat) (x : UInt32) : sput l k (.u32 x) = l.set k (.u32 x) := rfl
@[simp] theorem sput_u64 (l : List SV) (k : Nat) (x : UInt64) : sput l k (.u64 x) = l.set k (.u64 x) := rfl
@[simp] theorem sput_i (l : List SV) (k : Nat) (x : Int) : sput l k (.i x) = l.set k (.i x) := rfl
/-! ### A call whose blocks hold plain cells -/
def plainB : SB → Bool
 | .row _ l => plainL l
 | .box l => plainL l
 | .ro l => plainL l
 | .obj _ => false
 | .ext _ => true
@[simp] theorem plainB_row (t : Nat) (l : List SV) : plainB (.row t l) = plainL l := rfl
@[simp] theorem plainB_box (l : List SV) : plainB (.box l) = plainL l := rfl
@[simp] theorem plainB_ro (l : List SV) : plainB (.ro l) = plainL l := rfl
def plainH : HL → Bool
 | [] => true
 | none :: H => plainH H
 | some b :: H => plainB b && plainH H
def cWp : List Nat → HL → HL → Option Upd
 | s :: ss, some b0 :: H0, ob :: H1 => match cWp ss H0 H1 with
  | some W => match b0.own with
   | false => some W
   | true => match ob with
    | none => some ((s, none) :: W)
    | some b => match b.own with
     | true => some ((s, some b) :: W)
     | false => none
  | none => none
 | s :: ss, [], ob :: H1 => match cWp ss [] H1 with
  | some W => match ob with
   | none => some ((s, none) :: W)
   | some b => match b.own with
    | true => some ((s, some b) :: W)
    | false => none
  | none => none
 | [], [], [] => some []
 | _, _, _ => none
theorem renB_plain (sel : List Nat) {b : SB} (h : plainB b = true) : renB sel b = some b := by
 cases b <;> simp only [plainB, Bool.false_eq_true] at h <;> first | rfl | simp only [renB, renL_plain sel h]
theorem cWp_eq (sel : List Nat) : ∀ (ss : List Nat) (H0 H1 : HL), plainH H1 = true → cW sel ss H0 H1 = cWp ss H0 H1
 | s :: ss, some b0 :: H0, none :: H1, h => by
  simp only [plainH] at h
  simp only [cW, cWp, cWp_eq sel ss H0 H1 h]
  cases cWp ss H0 H1 <;> first | rfl | (cases b0.own <;> rfl)
 | s :: ss, some b0 :: H0, some b :: H1, h => by
  simp only [plainH, Bool.and_eq_true] at h
  simp only [cW, cWp, cWp_eq sel ss H0 H1 h.2, renB_plain sel h.1]
  cases cWp ss H0 H1 <;> first | rfl | (cases b0.own <;> first | rfl | (cases b.own <;> rfl))
 | s :: ss, [], none :: H1, h => by
  simp only [plainH] at h
  simp only [cW, cWp, cWp_eq sel ss [] H1 h]
  cases cWp ss [] H1 <;> rfl
 | s :: ss, [], some b :: H1, h => by
  simp only [plainH, Bool.and_eq_true] at h
  simp only [cW, cWp, cWp_eq sel ss [] H1 h.2, renB_plain sel h.1]
  cases cWp ss [] H1 <;> first | rfl | (cases b.own <;> rfl)
 | [], [], [], _ => rfl
 | [], [], _ :: _, _ => by simp [cW, cWp]
 | [], _ :: _, _, _ => by simp [cW, cWp]
 | _ :: _, [], [], _ => by simp [cW, cWp]
 | _ :: _, none :: _, _, _ => by simp [cW, cWp]
 | _ :: _, some _ :: _, [], _ => by simp [cW, cWp]
def sopCallP (R : RL) (H : HL) (L : Nat) (x : Operand) (args : List Operand) (f : Nat) (sel : List Nat) (args0 : List SV) (H0 : HL) (ret : SV) (H1 : HL) (k : K1) : Prop :=
 (match ev R x with
  | some (.fn g caps) => match evs R args with
   | some zs => g = f ∧ renL sel args0 = some (zs ++ caps)
   | none => False
  | _ => False) ∧ okH sel H sel H0 ∧ plainH H1 = true ∧
 match Nat.beq sel.length H0.length with
 | true => match dupOk sel 0 sel H0 with
  | true => match cWp (sel ++ newSel L (H1.length - H0.length)) H0 H1 with
   | some W => match renV (sel ++ newSel L (H1.length - H0.length)) ret with
    | some z => k (some z) W sel (L + (H1.length - H0.length))
    | none => False
   | none => False
  | false => False
 | false => False
theorem ok1_callP {P : Program} {o : Oper} {R : RL} {H : HL} {L : Nat} {k : K1} {x : Operand} {args : Array Operand} {tys : Array TypeId} {f : Nat} {args0 : List SV} {H0 H1 : HL} {ret : SV} (sel : List Nat)
  (hc : SCall P f args0 H0 ret H1) (ho : o.op = .call ⟨.value x, args, tys⟩) (hle : Nat.ble H.length L = true) (h : sopCallP R H L x args.toList f sel args0 H0 ret H1 k) : Ok1 P o R H L k := by
 obtain ⟨h1, h2, hp, h3⟩ := h
 refine ok1_call sel hc ho hle ⟨h1, h2, ?_⟩
 rw [cWp_eq _ _ _ _ hp]
 exact h3
/-! ### Calls of which some blocks hold plain cells (told by flags), others are renamed by reckoning -/
def plainHf : List Bool → HL → Bool
 | true :: fs, some b :: H => plainB b && plainHf fs H
 | _ :: fs, _ :: H => plainHf fs H
 | _, _ => true
def renBf (f : Bool) (sel : List Nat) (b : SB) : Option SB := match f with | true => some b | false => renB sel b
def cWf (sel : List Nat) : List Bool → List Nat → HL → HL → Option Upd
 | f :: fs, s :: ss, some b0 :: H0, ob :: H1 => match cWf sel fs ss H0 H1 with
  | some W => match b0.own with
   | false => some W
   | true => match ob with
    | none => some ((s, none) :: W)
    | some b => match b.own with
     | true => match renBf f sel b with | some b' => some ((s, some b') :: W) | none => none
     | false => none
  | none => none
 | f :: fs, s :: ss, [], ob :: H1 => match cWf sel fs ss [] H1 with
  | some W => match ob with
   | none => some ((s, none) :: W)
   | some b => match b.own with
    | true => match renBf f sel b with | some b' => some ((s, some b') :: W) | none => none
    | false => none
  | none => none
 | _, [], [], [] => some []
 | _, _, _, _ => none
theorem renBf_eq {f : Bool} {sel : List Nat} {b b' : SB} (hp : f = true → plainB b = true) (h : renBf f sel b = some b') : renB sel b = some b' := by
 cases f with
 | false => exact h
 | true => rw [renB_plain sel (hp rfl)]; exact h
theorem cWf_eq (sel : List Nat) : ∀ (fs : List Bool) (ss : List Nat) (H0 H1 : HL) (W : Upd), plainHf fs H1 = true → cWf sel fs ss H0 H1 = some W → cW sel ss H0 H1 = some W
 | f :: fs, s :: ss, some b0 :: H0, ob :: H1, W, hp, h => by
  have hp1 : plainHf fs H1 = true := by
   cases f <;> cases ob <;> simp only [plainHf, Bool.and_eq_true] at hp <;> first | exact hp | exact hp.2
  simp only [cWf] at h
  split at h
  ·
   rename_i W' hW
   have ih := cWf_eq sel fs ss H0 H1 W' hp1 hW
   simp only [cW, ih]
   split at h
   ·
    rename_i hown; simp only [hown]; exact h
   ·
    rename_i hown
    simp only [hown]
    split at h
    ·
     exact h
    ·
     rename_i b
     split at h
     ·
      rename_i hbo
      simp only [hbo]
      split at h
      ·
       rename_i b' hb'
       rw [renBf_eq (fun e => by subst e; simp only [plainHf, Bool.and_eq_true] at hp; exact hp.1) hb']
       exact h
      ·
       cases h
     ·
      cases h
  ·
   cases h
 | f :: fs, s :: ss, [], ob :: H1, W, hp, h => by
  have hp1 : plainHf fs H1 = true := by
   cases f <;> cases ob <;> simp only [plainHf, Bool.and_eq_true] at hp <;> first | exact hp | exact hp.2
  simp only [cWf] at h
  split at h
  ·
   rename_i W' hW
   have ih := cWf_eq sel fs ss [] H1 W' hp1 hW
   simp only [cW, ih]
   split at h
   ·
    exact h
   ·
    rename_i b
    split at h
    ·
     rename_i hbo
     simp only [hbo]
     split at h
     ·
      rename_i b' hb'
      rw [renBf_eq (fun e => by subst e; simp only [plainHf, Bool.and_eq_true] at hp; exact hp.1) hb']
      exact h
     ·
      cases h
    ·
     cases h
  ·
   cases h
 | [], [], [], [], W, _, h => by simp only [cWf, Option.some.injEq] at h; subst h; rfl
 | _ :: _, [], [], [], W, _, h => by simp only [cWf, Option.some.injEq] at h; subst h; rfl
 | [], [], [], _ :: _, W, _, h => by simp [cWf] at h
 | _ :: _, [], [], _ :: _, W, _, h => by simp [cWf] at h
 | [], [], _ :: _, _, W, _, h => by simp [cWf] at h
 | _ :: _, [], _ :: _, _, W, _, h => by simp [cWf] at h
 | [], _ :: _, _, _, W, _, h => by simp [cWf] at h
 | _ :: _, _ :: _, [], [], W, _, h => by simp [cWf] at h
 | _ :: _, _ :: _, none :: _, _, W, _, h => by simp [cWf] at h
 | _ :: _, _ :: _, some _ :: _, [], W, _, h => by simp [cWf] at h
def plainW : SV → Bool
 | .agg l => plainL l
 | x => plainV x
def plainT : List SV → Bool
 | [] => true
 | x :: xs => plainW x && plainT xs
def plainR : SV → Bool
 | .tup l => plainT l
 | x => plainW x
theorem renV_plainW (sel : List Nat) {x : SV} (h : plainW x = true) : renV sel x = some x := by
 cases x <;> first | exact renV_plain sel h | (simp only [plainW] at h; simp only [renV, renL_plain sel h])
theorem renL_plainT (sel : List Nat) : ∀ {l : List SV}, plainT l = true → renL sel l = some l
 | [], _ => rfl
 | x :: l, h => by
  simp only [plainT, Bool.and_eq_true] at h
  simp only [renL, renV_plainW sel h.1, renL_plainT sel (l := l) h.2]
theorem renV_plainR (sel : List Nat) {x : SV} (h : plainR x = true) : renV sel x = some x := by
 cases x <;> first | exact renV_plainW sel h | (simp only [plainR] at h; simp only [renV, renL_plainT sel h])
def renVf (f : Bool) (sel : List Nat) (x : SV) : Option SV := match f with | true => some x | false => renV sel x
def plainRf (f : Bool) (x : SV) : Bool := match f with | true => plainR x | false => true
def sopCallF (fl : List Bool) (rf : Bool) (R : RL) (H : HL) (L : Nat) (x : Operand) (args : List Operand) (f : Nat) (sel : List Nat) (args0 : List SV) (H0 : HL) (ret : SV) (H1 : HL) (k : K1) : Prop :=
 (match ev R x with
  | some (.fn g caps) => match evs R args with
   | some zs => g = f ∧ renL sel args0 = some (zs ++ caps)
   | none => False
  | _ => False) ∧ okH sel H sel H0 ∧ plainHf fl H1 = true ∧ plainRf rf ret = true ∧
 match Nat.beq sel.length H0.length with
 | true => match dupOk sel 0 sel H0 with
  | true => match cWf (sel ++ newSel L (H1.length - H0.length)) fl (sel ++ newSel L (H1.length - H0.length)) H0 H1 with
   | some W => match renVf rf (sel ++ newSel L (H1.length - H0.length)) ret with
    | some z => k (some z) W sel (L + (H1.length - H0.length))
    | none => False
   | none => False
  | false => False
 | false => False
theorem ok1_callF {P : Program} {o : Oper} {R : RL} {H : HL} {L : Nat} {k : K1} {x : Operand} {args : Array Operand} {tys : Array TypeId} {f : Nat} {args0 : List SV} {H0 H1 : HL} {ret : SV} (sel : List Nat) (fl : List Bool) (rf : Bool)
  (hc : SCall P f args0 H0 ret H1) (ho : o.op = .call ⟨.value x, args, tys⟩) (hle : Nat.ble H.length L = true) (h : sopCallF fl rf R H L x args.toList f sel args0 H0 ret H1 k) : Ok1 P o R H L k := by
 obtain ⟨h1, h2, hp, hr, h3⟩ := h
 refine ok1_call sel hc ho hle ⟨h1, h2, ?_⟩
 cases hl : Nat.beq sel.length H0.length with
 | false => rw [hl] at h3; exact h3.elim
 | true =>
  rw [hl] at h3
  simp only at h3 ⊢
  cases hd : dupOk sel 0 sel H0 with
  | false => rw [hd] at h3; exact h3.elim
  | true =>
   rw [hd] at h3
   simp only at h3 ⊢
   cases hw : cWf (sel ++ newSel L (H1.length - H0.length)) fl (sel ++ newSel L (H1.length - H0.length)) H0 H1 with
   | none => rw [hw] at h3; exact h3.elim
   | some W =>
    rw [hw] at h3
    rw [cWf_eq _ _ _ _ _ _ hp hw]
    cases rf with
    | false => exact h3
    | true =>
     simp only [plainRf] at hr
     simp only [renV_plainR _ hr]
     exact h3
end Go.Sh
namespace Go.Sh
def noObj : HL → Bool
 | [] => true
 | none :: H => noObj H
 | some (.obj _) :: _ => false
 | some _ :: H => noObj H
theorem noObj_get : ∀ {H : HL} {id : Nat} {y : OB}, noObj H = true → hg H id ≠ some (.obj y)
 | [], id, y, _, h => by simp [hg] at h
 | none :: H, 0, y, _, h => by simp [hg] at h
 | none :: H, id + 1, y, hn, h => noObj_get (H := H) (id := id) hn (by simpa [hg] using h)
 | some (.obj _) :: H, id, y, hn, h => by simp [noObj] at hn
 | some (.row _ _) :: H, 0, y, hn, h => by simp [hg] at h
 | some (.box _) :: H, 0, y, hn, h => by simp [hg] at h
 | some (.ro _) :: H, 0, y, hn, h => by simp [hg] at h
 | some (.ext _) :: H, 0, y, hn, h => by simp [hg] at h
 | some (.row _ _) :: H, id + 1, y, hn, h => noObj_get (H := H) (id := id) hn (by simpa [hg] using h)
 | some (.box _) :: H, id + 1, y, hn, h => noObj_get (H := H) (id := id) hn (by simpa [hg] using h)
 | some (.ro _) :: H, id + 1, y, hn, h => noObj_get (H := H) (id := id) hn (by simpa [hg] using h)
 | some (.ext _) :: H, id + 1, y, hn, h => noObj_get (H := H) (id := id) hn (by simpa [hg] using h)
theorem foot_cells {ρ : Ren} {w : World} {rb : RB} {b : SB} {k o : Nat} (hb : BRel ρ w rb b) (hn : ∀ y, b ≠ .obj y) (hf : foot rb b k o) : ∃ x, w.heap[k]? = some x ∧ mutK x ≠ 1 := by
 cases b with
 | obj y => exact absurd rfl (hn y)
 | ext y => exact YRel.foot_mut hb hf
 | ro l =>
  rcases hb with rfl | ⟨⟨c, t, fz, hh, _⟩, _⟩
  ·
   have := hf.2; simp at this; omega
  ·
   rw [hf.1]; exact ⟨_, hh, by simp [mutK]⟩
 | box l => obtain ⟨⟨c, t, fz, hh, _⟩, _⟩ := hb; rw [hf.1]; exact ⟨_, hh, by simp [mutK]⟩
 | row t l =>
  rcases hb with ⟨hv, _⟩ | ⟨_, c, fz, hh, _⟩
  ·
   rw [hf.1] at hv; cases hv
  ·
   rw [hf.2.1]; exact ⟨_, hh, by simp [mutK]⟩
def zipR : List Nat → List SV → RL → RL
 | p :: ps, x :: xs, R => zipR ps xs ((p, x) :: R)
 | _, _, R => R
theorem relR_set {ρ : Ren} {R : RL} {tmps : Array Value} {p : Nat} {x : SV} {v : Value} (h : RelR ρ R tmps) (hx : Rel ρ x v) (hp : p < tmps.size) : RelR ρ ((p, x) :: R) (tmps.setIfInBounds p v) := by
 intro t u hu
 simp only [List.lookup_cons] at hu
 cases htp : (t == p) with
 | true =>
  rw [htp] at hu
  have : t = p := by simpa using htp
  subst this
  cases hu
  rw [Array.getD_eq_getD_getElem?, Array.getElem?_setIfInBounds_self_of_lt hp]
  exact hx
 | false =>
  rw [htp] at hu
  have hne : p ≠ t := fun e => by subst e; simp at htp
  have := h t u hu
  rw [Array.getD_eq_getD_getElem?] at this ⊢
  rw [Array.getElem?_setIfInBounds_ne hne]; exact this
theorem relR_zip {ρ : Ren} : ∀ {ps : List Nat} {xs : List SV} {vs : List Value} {R : RL} {tmps : Array Value}, RelR ρ R tmps → Rels ρ xs vs → (∀ p ∈ ps, p < tmps.size) → ps.length = xs.length →
  RelR ρ (zipR ps xs R) ((ps.zip vs).foldl (fun t (q : Nat × Value) => t.setIfInBounds q.1 q.2) tmps) ∧ ((ps.zip vs).foldl (fun t (q : Nat × Value) => t.setIfInBounds q.1 q.2) tmps).size = tmps.size
 | [], xs, vs, R, tmps, h, _, _, hl => by
  have : xs = [] := List.eq_nil_of_length_eq_zero (by simpa using hl.symm)
  subst this
  exact ⟨h, rfl⟩
 | p :: ps, [], vs, R, tmps, h, _, _, hl => by simp at hl
 | p :: ps, x :: xs, vs, R, tmps, h, hv, hp, hl => by
  simp only [Rels] at hv
  obtain ⟨v, vs', rfl, h1, h2⟩ := hv
  have := relR_zip (ps := ps) (relR_set h h1 (hp p (List.mem_cons_self ..))) h2 (fun q hq => by simpa using hp q (List.mem_cons_of_mem _ hq)) (by simpa using hl)
  exact ⟨this.1, by rw [show ((p :: ps).zip (v :: vs')).foldl (fun t (q : Nat × Value) => t.setIfInBounds q.1 q.2) tmps = (ps.zip vs').foldl (fun t (q : Nat × Value) => t.setIfInBounds q.1 q.2) (tmps.setIfInBounds p v) from rfl, this.2]; simp⟩
structure SYield (P : Program) (args0 : List SV) (H0 : HL) (ret : SV) (H1 : HL) : Prop where
 call : ∀ (r : Option Nat) n ρ w vs rb, Rels ρ args0 vs → HRel ρ (hg H0) w → Sep ρ (hg H0) → (∀ id, H0.length ≤ id → ρ id = none) → ρ 0 = some rb →
  ∃ f tmps as_ bd, (Instr.yield rb.blk ⟨vs⟩).run P w = .ok (.round rb.blk f tmps as_ bd) w ∧ RoundIn (Fw r) n P rb.blk f tmps as_ bd w (CallR ρ H0 w ret H1)
theorem lt_yield {P : Program} {o : Oper} {R : Env} {H : HL} {L : Nat} {x : Operand} {args : Array Operand} {tys : Array TypeId} {id : Nat} {zs args0 : List SV} {ss : List Nat} {H0 H1 : HL} {ret z : SV} {W : Upd} (hl : H.length ≤ L)
  (ho : o.op = .call ⟨.value x, args, tys⟩) (hx : evO R x = some (.yld id)) (hargs : args.toList.map (evO R) = zs.map some) (hc : SYield P args0 H0 ret H1) (hren : renL (id :: ss) args0 = some zs)
  (hlen : (id :: ss).length = H0.length) (hok : okH (id :: ss) H (id :: ss) H0) (hd : dupOk (id :: ss) 0 (id :: ss) H0 = true) (hW : cW (id :: ss ++ newSel L (H1.length - H0.length)) (id :: ss ++ newSel L (H1.length - H0.length)) H0 H1 = some W)
  (hz : renV (id :: ss ++ newSel L (H1.length - H0.length)) ret = some z) : LT P o R (hg H) (id :: ss) W (some z) := by
 refine lt_of_callR hl hlen hok hd hW hz ?_
 intro r n a w ρ next Q hR hH0 hsep0 hfr0 hk
 have hv := eval_callee ho hx hR
 simp only [Rel] at hv
 obtain ⟨rb, hrb, he⟩ := hv
 have hzs := eval_args ho hargs hR
 have hrels : Rels (pullR (id :: ss) ρ) args0 (args.toList.map a.eval) := (rels_ren args0 hren).2 hzs
 obtain ⟨f, tmps, as_, bd, hy, hround⟩ := hc.call r (n - 1) (pullR (id :: ss) ρ) w _ rb hrels hH0 hsep0 hfr0 (by simpa [pullR] using hrb)
 have hrun : (execOp a.eval o).run P w = .ok (.round rb.blk f tmps as_ bd) w := by
  unfold execOp
  simp only [ho, resolve, he, Deferred.ofValue, Sem.run_bind, Sem.run_pure, Result.andThen, invoke]
  rw [show (#[] ++ args.map a.eval) = (⟨args.toList.map a.eval⟩ : Array Value) from Array.toList_inj.1 (by simp)]
  exact hy
 refine ⟨fun _ _ => trivial, ?_⟩
 rw [Oper.semAt_eq _ _ _ (by intro c; rw [ho]; simp), hrun]
 refine ⟨fun h => (by cases h), ?_⟩
 refine hround.mono ?_
 intro e w' hr'
 cases e with
 | panicked c => exact hr'.elim
 | outgrown => exact hr'.elim
 | returned v => exact hk v w' hr'
/-! ### A round, out of its code's walk -/
structure finH (A : Nat) (H : HL) (H1 : HL) : Prop where
 ex : ∃ sel, Nat.beq sel.length H1.length = true ∧ idOk sel A = true ∧ okH sel H sel H1 ∧ dupOk sel 0 sel H1 = true
def jumpOf : Exit → Option Code
 | .ret => some .ret
 | .exit i => some (.exit i)
 | _ => none
def obEnd (R : RL) (N : Nat) (ps : List Nat) (as_ bd : Code) (ex : Exit) : OB := match jumpOf ex with | some c => .pend c | none => .loop R N ps as_ bd
def retEnd (ex : Exit) : SV := .b (jumpOf ex).isNone
theorem Fr.putLoop {S : Nat → Nat → Prop} {w : World} {l : Nat} {r r' : Loop} (h : w.heap[l]? = some (.loop r)) (hS : ∃ o, S l o) : Fr S w (w.putObj l (.loop r')) := by
 refine ⟨rfl, rfl, rfl, by simp [World.putObj], fun k o ho => ?_⟩
 by_cases hk : l = k
 ·
  subst hk
  rw [h] at ho; cases ho
  have hlt := (Array.getElem?_eq_some_iff.1 h).1
  simp only [World.putObj]
  rw [Array.getElem?_setIfInBounds_self_of_lt hlt]
  exact .inr ⟨hS, by simp [mutK], _, rfl, rfl⟩
 ·
  simp only [World.putObj]
  rw [Array.getElem?_setIfInBounds_ne hk, ho]
  exact FrO.refl _ _
theorem putLoop_cells {w : World} {l k : Nat} {r r' : Loop} (h : w.heap[l]? = some (.loop r)) {c : Array Value} {t : TypeId} {fz : Nat × Nat} (hc : w.heap[k]? = some (.cells c t fz)) : (w.putObj l (.loop r')).heap[k]? = some (.cells c t fz) := by
 have hne : l ≠ k := fun e => by subst e; rw [h] at hc; cases hc
 simp only [World.putObj]; rw [Array.getElem?_setIfInBounds_ne hne]; exact hc
theorem putLoop_dfr {w : World} {l k : Nat} {r r' : Loop} (h : w.heap[l]? = some (.loop r)) {x : Option (List Deferred)} (hc : w.heap[k]? = some (.deferred x)) : (w.putObj l (.loop r')).heap[k]? = some (.deferred x) := by
 have hne : l ≠ k := fun e => by subst e; rw [h] at hc; cases hc
 simp only [World.putObj]; rw [Array.getElem?_setIfInBounds_ne hne]; exact hc
theorem putLoop_self {w : World} {l : Nat} {r r' : Loop} (h : w.heap[l]? = some (.loop r)) : (w.putObj l (.loop r')).heap[l]? = some (.loop r') := by
 simp only [World.putObj]; rw [Array.getElem?_setIfInBounds_self_of_lt (Array.getElem?_eq_some_iff.1 h).1]
theorem putLoop_mut {w : World} {l k : Nat} {r r' : Loop} {x : Obj} (h : w.heap[l]? = some (.loop r)) (hx : 2 ≤ mutK x) (hc : w.heap[k]? = some x) : (w.putObj l (.loop r')).heap[k]? = some x := by
 have hne : l ≠ k := fun e => by subst e; rw [h] at hc; cases hc; simp [mutK] at hx
 simp only [World.putObj]; rw [Array.getElem?_setIfInBounds_ne hne]; exact hc
theorem BRel.putLoop {ρ : Ren} {w : World} {l : Nat} {r r' : Loop} {rb : RB} {b : SB} (h : w.heap[l]? = some (.loop r)) (hn : ∀ y, b ≠ .obj y) (hb : BRel ρ w rb b) : BRel ρ (w.putObj l (.loop r')) rb b := by
 cases b with
 | obj y => exact absurd rfl (hn y)
 | ext y =>
  cases y with
  | fam l => exact fun e he => ⟨(hb e he).1, (hb e he).2.imp id fun ⟨⟨c, t, fz, hh, q⟩, h2⟩ => ⟨⟨c, t, fz, putLoop_cells h hh, q⟩, h2⟩⟩
  | lit o => exact ⟨hb.1, putLoop_mut h hb.1.1 hb.2⟩
  | locd r o => exact ⟨hb.1, putLoop_mut h hb.1.1 hb.2⟩
 | ro l => exact hb.imp id fun ⟨⟨c, t, fz, hh, q⟩, h2⟩ => ⟨⟨c, t, fz, putLoop_cells h hh, q⟩, h2⟩
 | box l => obtain ⟨⟨c, t, fz, hh, q⟩, h2⟩ := hb; exact ⟨⟨c, t, fz, putLoop_cells h hh, q⟩, h2⟩
 | row t l => exact hb.imp id fun ⟨hv, c, fz, hh, q⟩ => ⟨hv, c, fz, putLoop_cells h hh, q⟩
theorem Sim.putLoop {N B L : Nat} {ρ : Ren} {R : Env} {H : HL} {a : Act} {w : World} {l : Nat} {r r' : Loop} (h : w.heap[l]? = some (.loop r)) (hn : noObj H = true) (hs : Sim N B L ρ R (hg H) a w) : Sim N B L ρ R (hg H) a (w.putObj l (.loop r')) :=
 ⟨hs.size, hs.regs, fun id b hb => let ⟨rb, h1, h2⟩ := hs.heap id b hb; ⟨rb, h1, h2.putLoop h (fun y e => noObj_get hn (by rw [← e]; exact hb))⟩, hs.sep, hs.fresh,
  ⟨hs.dfr.1, fun d hd => let ⟨k, e, hB, hk⟩ := hs.dfr.2.1 d hd; ⟨k, e, hB, putLoop_dfr h hk⟩, by simpa [World.putObj] using hs.dfr.2.2⟩⟩
theorem hg_cons_succ (x : Option SB) (H : HL) (id : Nat) : hg (x :: H) (id + 1) = hg H id := by simp [hg]
theorem hg_cons_zero (x : Option SB) (H : HL) : hg (x :: H) 0 = x := by cases x <;> simp [hg]
theorem syield_of {P : Program} {R0 : RL} {N : Nat} {ps : List Nat} {as_ bd : Code} {args0 : List SV} {H0t H1t : HL} {ex : Exit} (hex : ex = .normal ∨ ex = .ret ∨ ∃ i, ex = .exit i)
  (hno1 : noObj H1t = true) (hps : ps.length = args0.length) (hpN : ps.all (fun p => Nat.blt p N) = true)
  (hwalk : SWp P (fun _ => True) N (H0t.length + 1) as_ (fun e R H L => e = .normal ∧ noObj H = true ∧ hg H 0 = none ∧ SWp P (fun _ => True) N (H0t.length + 1) bd (fun e _ H _ => e = ex ∧ hg H 0 = none ∧ noObj H = true ∧ finH (H0t.length + 1) H (none :: H1t)) R H L)
   (zipR ps args0 R0) (none :: H0t) (H0t.length + 1)) :
  SYield P args0 (some (.obj (.loop R0 N ps as_ bd)) :: H0t) (retEnd ex) (some (.obj (obEnd R0 N ps as_ bd ex)) :: H1t) := by
 refine ⟨fun rr n ρ w vs rb hvs hh hsep hfr hrb => ?_⟩
 obtain ⟨rb', hrb', hO⟩ := hh 0 _ (hg_cons_zero _ _)
 rw [hrb] at hrb'; cases hrb'
 obtain ⟨r, hl, hst, hpd, hrp, hra, hrbd, hsz, hrel⟩ := hO
 obtain ⟨l, hlb⟩ : ∃ l, l = rb.blk := ⟨_, rfl⟩
 rw [← hlb] at hl ⊢
 have hvl := hvs.length
 have hargsz : (⟨vs⟩ : Array Value).size = r.params.size := by rw [hrp]; simp; omega
 have hy := run_yield (P := P) hl hargsz
 refine ⟨_, _, _, _, hy, ?_⟩
 rw [hra, hrbd]
 -- the heap without the loop
 have hh1 : HRel ρ (hg (none :: H0t)) w := fun id b hb => by
  cases id with
  | zero => rw [hg_cons_zero] at hb; cases hb
  | succ id => rw [hg_cons_succ] at hb; exact hh (id + 1) b (by rw [hg_cons_succ]; exact hb)
 have sub : ∀ id b, hg (none :: H0t) id = some b → hg (some (.obj (.loop R0 N ps as_ bd)) :: H0t) id = some b ∧ id ≠ 0 := fun id b hb => by
  cases id with
  | zero => rw [hg_cons_zero] at hb; cases hb
  | succ id => rw [hg_cons_succ] at hb; exact ⟨by rw [hg_cons_succ]; exact hb, by omega⟩
 have hsep1 : Sep ρ (hg (none :: H0t)) := fun i j bi bj ri rj hne hi hj hri hrj hown => hsep i j bi bj ri rj hne (sub i bi hi).1 (sub j bj hj).1 hri hrj hown
 have hl0 : ∀ o, ¬ Owned ρ (hg (none :: H0t)) l o := by
  rintro o ⟨id, b, rb2, h1, h2, h3, h4⟩
  obtain ⟨g1, g2⟩ := sub id b h1
  exact hsep 0 id _ b rb rb2 (by omega) (hg_cons_zero _ _) g1 hrb h2 rfl l o ⟨hlb, h4⟩
 have hown0 : ∀ k o, Owned ρ (hg (none :: H0t)) k o → Owned ρ (hg (some (.obj (.loop R0 N ps as_ bd)) :: H0t)) k o := by
  rintro k o ⟨id, b, rb2, h1, h2, h3, h4⟩
  exact ⟨id, b, rb2, (sub id b h1).1, h2, h3, h4⟩
 have hownl : Owned ρ (hg (some (.obj (.loop R0 N ps as_ bd)) :: H0t)) l 0 := ⟨0, _, rb, hg_cons_zero _ _, hrb, rfl, hlb⟩
 have hlt : l < w.heap.size := (Array.getElem?_eq_some_iff.1 hl).1
 obtain ⟨hz1, hz2⟩ := relR_zip (ps := ps) (vs := vs) hrel hvs (fun p hp => by
  have := List.all_eq_true.1 hpN p hp
  rw [hsz]; simpa [Nat.blt_eq] using this) hps
 have htm : (r.params.zip ⟨vs⟩).foldl (fun tmps (q : Nat × Value) => tmps.setIfInBounds q.1 q.2) r.tmps = ((ps.zip vs).foldl (fun t (q : Nat × Value) => t.setIfInBounds q.1 q.2) r.tmps) := by
  rw [hrp, ← Array.foldl_toList]; simp
 have hsim : Sim N w.heap.size (H0t.length + 1) ρ (rg (zipR ps args0 R0)) (hg (none :: H0t)) { tmps := ((ps.zip vs).foldl (fun t (q : Nat × Value) => t.setIfInBounds q.1 q.2) r.tmps), defers := [] } w :=
  ⟨by rw [hz2, hsz], fun t v hv => hz1 t v hv, hh1, hsep1, fun id hid => hfr id (by simpa using hid), ⟨List.Pairwise.nil, fun d hd => by simp at hd, Nat.le_refl _⟩⟩
 refine roundIn_of_wpIn trivial ?_
 have e0 : (r.params.zip ⟨vs⟩).foldl (fun tmps x => match x with | (t, a) => tmps.setIfInBounds t a) r.tmps = ((ps.zip vs).foldl (fun t (q : Nat × Value) => t.setIfInBounds q.1 q.2) r.tmps) := htm
 rw [e0]
 refine wpIn_mono (hwalk.run (some l) n w.heap.size ρ _ w trivial hsim (by simp)) ?_
 rintro e a1 w1 ⟨R1, H1, L1, ρ1, ⟨rfl, hno2, hz0, hbody⟩, hl1, hs1, he1⟩
 have hl1' : w1.heap[l]? = some (.loop r) := (he1.fr.blk l _ hl).same (fun o => hl0 o)
 refine ⟨_, run_beginRound hl1' hst, ?_⟩
 obtain ⟨w2, hw2⟩ : ∃ w2, w2 = w1.putObj l (.loop { r with state := .busy }) := ⟨_, rfl⟩
 rw [← hw2]
 have hs2 : Sim N w.heap.size L1 ρ1 (rg R1) (hg H1) a1 w2 := by rw [hw2]; exact hs1.putLoop hl1' hno2
 have hl2 : w2.heap[l]? = some (.loop { r with state := .busy }) := by rw [hw2]; exact putLoop_self hl1'
 refine wpIn_mono (hbody.run (some l) n w.heap.size ρ1 a1 w2 trivial hs2 hl1) ?_
 rintro e a3 w3 ⟨R3, H3, L3, ρ3, ⟨rfl, hz3, hno3, hfin⟩, hl3, hs3, he3⟩
 have hl1n : ∀ o, ¬ Owned ρ1 (hg H1) l o := fun o ho => by
  rcases he1.own l o ho with h | h
  ·
   exact hl0 o h
  ·
   omega
 have hl3' : w3.heap[l]? = some (.loop { r with state := .busy }) := (he3.fr.blk l _ hl2).same hl1n
 obtain ⟨sel, f1, f2, f3, f4⟩ := hfin.ex
 have f1' : sel.length = H1t.length + 1 := by simpa using beqE f1
 have hsel := sel_sim (R0 := []) (L0 := H1t.length + 1) sel f1' f2 trivial f3 f4 hs3
 obtain ⟨k1, k2⟩ := hsel
 -- what the end of the round hands back
 have fin : ∀ jump : Option Code, jump = jumpOf e → ∃ w4, (Instr.endRound l jump).run P w3 = .ok (.bool jump.isNone) w4 ∧ CallR ρ (some (.obj (.loop R0 N ps as_ bd)) :: H0t) w (retEnd e) (some (.obj (obEnd R0 N ps as_ bd e)) :: H1t) (.returned (.bool jump.isNone)) w4 := by
  intro jump hj
  refine ⟨_, run_endRound jump hl3', ?_⟩
  obtain ⟨r4, hr4⟩ : ∃ r4 : Loop, r4 = { r with state := if jump.isNone then .ready else .done, pending := jump } := ⟨_, rfl⟩
  have er4 : ({ ({ r with state := .busy } : Loop) with state := if jump.isNone then .ready else .done, pending := jump } : Loop) = r4 := by rw [hr4]
  rw [er4]
  obtain ⟨w4, hw4⟩ : ∃ w4, w4 = w3.putObj l (.loop r4) := ⟨_, rfl⟩
  rw [← hw4]
  have hl4 : w4.heap[l]? = some (.loop r4) := by rw [hw4]; exact putLoop_self hl3'
  have hext : ∀ id rb2, ρ id = some rb2 → pullR sel ρ3 id = some rb2 := fun id rb2 hid => by
   have hlt2 : id < H0t.length + 1 := by
    by_cases h : id < H0t.length + 1
    ·
     exact h
    ·
     rw [hfr id (by simp; omega)] at hid; cases hid
   exact k2.ext id hlt2 rb2 (he3.ext id hlt2 rb2 (he1.ext id hlt2 rb2 hid))
  have hk0 : noObj (none :: H1t) = true := hno1
  have hheap4 : HRel (pullR sel ρ3) (hg (none :: H1t)) w4 := by
   rw [hw4]
   intro id b hb
   obtain ⟨rb2, g1, g2⟩ := k1.heap id b hb
   exact ⟨rb2, g1, g2.putLoop hl3' (fun y ey => noObj_get hk0 (by rw [← ey]; exact hb))⟩
  have sub1 : ∀ id b, id ≠ 0 → hg (some (.obj (obEnd R0 N ps as_ bd e)) :: H1t) id = some b → hg (none :: H1t) id = some b := fun id b hne hb => by
   cases id with
   | zero => exact absurd rfl hne
   | succ id => rw [hg_cons_succ] at hb ⊢; exact hb
  have hfoot : ∀ id b rb2 o, id ≠ 0 → hg (some (.obj (obEnd R0 N ps as_ bd e)) :: H1t) id = some b → pullR sel ρ3 id = some rb2 → ¬ foot rb2 b l o := by
   intro id b rb2 o hne hb hr hf
   have hb2 := sub1 id b hne hb
   obtain ⟨rb3, g1, g2⟩ := hheap4 id b hb2
   rw [hr] at g1; cases g1
   obtain ⟨x, hc, hx⟩ := foot_cells g2 (fun y ey => noObj_get hk0 (by rw [← ey]; exact hb2)) hf
   rw [hl4] at hc; cases hc; exact hx rfl
  have hfr : Fr (Owned ρ (hg (some (.obj (.loop R0 N ps as_ bd)) :: H0t))) w w4 := by
   have a1 : Fr (Owned ρ (hg (some (.obj (.loop R0 N ps as_ bd)) :: H0t))) w w1 := he1.fr.mono (fun k o _ h => hown0 k o h)
   have a2 : Fr (Owned ρ (hg (some (.obj (.loop R0 N ps as_ bd)) :: H0t))) w w2 := by
    rw [hw2]; exact a1.trans (Fr.putLoop hl1' ⟨0, hownl⟩) (fun _ _ _ h => h)
   have a3 : Fr (Owned ρ (hg (some (.obj (.loop R0 N ps as_ bd)) :: H0t))) w w3 := a2.trans he3.fr (fun k o hk h => by
    rcases he1.own k o h with h | h
    ·
     exact hown0 k o h
    ·
     omega)
   rw [hw4]; exact a3.trans (Fr.putLoop hl3' ⟨0, hownl⟩) (fun _ _ _ h => h)
  have hb0 : ORel (pullR sel ρ3) w4 l (obEnd R0 N ps as_ bd e) := by
   unfold obEnd
   rw [← hj]
   cases jump with
   | none =>
    have : r4 = r := by rw [hr4]; cases r; simp only at hst hpd; subst hst; subst hpd; rfl
    rw [this] at hl4
    exact ⟨r, hl4, hst, hpd, hrp, hra, hrbd, hsz, fun t v hv => (hrel t v hv).ext (fun id rb2 h => hext id rb2 h)⟩
   | some c => exact ⟨r4, hl4, by rw [hr4]; rfl, by rw [hr4]⟩
  refine ⟨pullR sel ρ3, ?_, ?_, ?_, ?_, ?_⟩
  ·
   simp only [retEnd, Rel, hj]
  ·
   intro id b hb
   by_cases h0 : id = 0
   ·
    subst h0
    rw [hg_cons_zero] at hb; cases hb
    exact ⟨rb, hext 0 rb hrb, by rw [hlb] at hb0; exact hb0⟩
   ·
    exact hheap4 id b (sub1 id b h0 hb)
  ·
   intro i j bi bj ri rj hne hi hj' hri hrj hown k o ⟨hfi, hfj⟩
   by_cases h0 : i = 0
   ·
    subst h0
    rw [hg_cons_zero] at hi; cases hi
    rw [hext 0 rb hrb] at hri; cases hri
    have hkl : k = l := by rw [hlb]; exact hfi
    subst hkl
    exact hfoot j bj rj o (fun e => hne e.symm) hj' hrj hfj
   ·
    by_cases h1 : j = 0
    ·
     subst h1
     rw [hg_cons_zero] at hj'; cases hj'
     rw [hext 0 rb hrb] at hrj; cases hrj
     have hkl : k = l := by rw [hlb]; exact hfj
     subst hkl
     exact hfoot i bi ri o h0 hi hri hfi
    ·
     exact k1.sep i j bi bj ri rj hne (sub1 i bi h0 hi) (sub1 j bj h1 hj') hri hrj hown k o ⟨hfi, hfj⟩
  ·
   intro id hid; exact k1.fresh id (by simpa using hid)
  ·
   refine ⟨fun id _ rb2 h => hext id rb2 h, hfr, ?_⟩
   rintro k o ⟨id, b, rb2, h1, h2, h3, h4⟩
   by_cases h0 : id = 0
   ·
    subst h0
    rw [hg_cons_zero] at h1; cases h1
    rw [hext 0 rb hrb] at h2; cases h2
    have hkl : k = l := by rw [hlb]; exact h4
    subst hkl
    exact .inl ⟨0, _, rb, hg_cons_zero _ _, hrb, rfl, hlb⟩
   ·
    rcases k2.own k o ⟨id, b, rb2, sub1 id b h0 h1, h2, h3, h4⟩ with h | h
    ·
     rcases he3.own k o h with h | h
     ·
      rcases he1.own k o h with h | h
      ·
       exact .inl (hown0 k o h)
      ·
       exact .inr h
     ·
      right
      have : w2.heap.size = w1.heap.size := by rw [hw2]; simp [World.putObj]
      have := he1.fr.size
      omega
    ·
     right
     have h1 := he1.fr.size
     have h2 : w2.heap.size = w1.heap.size := by rw [hw2]; simp [World.putObj]
     have h3 := he3.fr.size
     omega
 rcases hex with rfl | rfl | ⟨i, rfl⟩
 ·
  obtain ⟨w4, g1, g2⟩ := fin none rfl
  exact ⟨_, w4, g1, g2⟩
 ·
  obtain ⟨w4, g1, g2⟩ := fin (some .ret) rfl
  exact ⟨_, w4, g1, g2⟩
 ·
  obtain ⟨w4, g1, g2⟩ := fin (some (.exit i)) rfl
  exact ⟨_, w4, g1, g2⟩
/-! ### The statement -/
theorem hg_hput (H : HL) (id : Nat) (ob : Option SB) (i : Nat) : hg (hput H id ob) i = if i = id then ob else hg H i := by
 have h := congrFun (hg_hupd H [(id, ob)]) i
 have e : hput H id ob = hupd H [(id, ob)] := by rw [hput_eq]; rfl
 rw [e, h]
 by_cases hi : i = id
 ·
  subst hi; simp [updW]
 ·
  have : (i == id) = false := by simpa using hi
  simp [updW, List.lookup_cons, this, hi]
theorem hput_le {H : HL} {id L : Nat} {ob : Option SB} (h : H.length ≤ L) (hi : id < L) : (hput H id ob).length ≤ L := by
 have e : hput H id ob = hupd H [(id, ob)] := by rw [hput_eq]; rfl
 rw [e]
 exact hupd_le h (fun i o hm => by simp only [List.mem_singleton, Prod.mk.injEq] at hm; rw [hm.1]; exact hi)
def rangeK (L0 : Nat) (R : RL) (Q : Exit → RL → HL → Nat → Prop) (H : HL) (L : Nat) : Prop :=
 match hk H L0 with
 | some (.obj (.loop _ _ _ _ _)) => Q .normal R (hput H L0 none) L
 | some (.obj (.pend .ret)) => Q .ret R (hput H L0 none) L
 | some (.obj (.pend (.exit i))) => Q (.exit i) R (hput H L0 none) L
 | _ => False
def rangeQ (L0 : Nat) (R : RL) (Q : Exit → RL → HL → Nat → Prop) : Exit → RL → HL → Nat → Prop
 | .normal, _, H, L => rangeK L0 R Q H L
 | .ret, _, H, L => rangeK L0 R Q H L
 | _, _, _, _ => False
theorem leaves_void {P : Program} {fn : Func} (hr : fn.results = #[]) (tmps : Array Value) (w : World) : ∃ v, (results fn tmps).run P w = .ok v w := by
 refine ⟨.tuple #[], ?_⟩
 unfold results
 rw [hr]
 simp
theorem range_rule {P : Program} {N A : Nat} {g : Operand} {ps : List Nat} {as_ bd : Code} {Q : Exit → RL → HL → Nat → Prop} {R : RL} {H : HL} {L : Nat} {gf : Nat} {caps : List SV} {fn : Func} {c : Code}
  (hg0 : ev R g = some (.fn gf caps)) (hle : Nat.ble H.length L = true) (hA : Nat.ble A L = true) (hf : P.funcs[gf]? = some fn) (hb : fn.body = some c) (hnm : (fn.name == "runtime.NumGoroutine") = false) (hres : fn.results = #[]) (hnt : Nat.ble (caps.length + 1) fn.ntmps = true)
  (hwalk : SWp P (· = none) fn.ntmps (L + 1) c (rangeQ L R Q) (regs 0 (.yld L :: caps)) (hput H L (some (.obj (.loop R N ps as_ bd)))) (L + 1)) :
  SWp P (· = none) N A (.rangeFunc g ⟨ps⟩ as_ bd) Q R H L := by
 refine ⟨fun r n B ρ a w hM hs hl => ?_⟩
 subst hM
 have hHL := Nat.le_of_ble_eq_true hle
 have hgv : Rel ρ (.fn gf caps) (a.eval g) := by
  cases g with
  | tmp t => exact hs.regs t _ (by rw [rg, ← lk_eq]; exact hg0)
  | const u => exact (ofVal_rel hg0).1
  | func f => simp only [ev, Option.some.injEq] at hg0; cases hg0; simp only [Rel]; exact ⟨[], rfl, Rels.nil_iff.2 rfl⟩
  | global g => cases hg0
 simp only [Rel] at hgv
 obtain ⟨cs, hge, hcaps⟩ := hgv
 refine wpIn_rangeFunc ?_
 intro fid _
 obtain ⟨r0, hr0⟩ : ∃ r0 : Loop, r0 = { state := .ready, pending := none, fn := fid, tmps := a.tmps, params := ⟨ps⟩, assign := as_, body := bd, defers := w.heap.size } := ⟨_, rfl⟩
 obtain ⟨w1, hw1⟩ : ∃ w1, w1 = (w.alloc (.deferred (some []))).alloc (.loop r0) := ⟨_, rfl⟩
 have hL1 : w1.heap[w.heap.size + 1]? = some (.loop r0) := by
  rw [hw1]; have := World.alloc_heap_new (w.alloc (.deferred (some []))) (.loop r0); rwa [World.size_alloc] at this
 have hD1 : w1.heap[w.heap.size]? = some (.deferred (some [])) := by
  rw [hw1]; exact (RowKit.Below.heap_alloc _ _ _ (by simp)).trans (World.alloc_heap_new w _)
 have hfr1 : ∀ S, Fr S w w1 := fun S => by
  rw [hw1]; exact (Fr.alloc S w _).trans (Fr.alloc S _ _) (fun _ _ _ h => h)
 have hsz1 : w1.heap.size = w.heap.size + 2 := by rw [hw1]; simp
 have hfok : FnOk P gf := ⟨fn, hf, by rw [hb]; rfl, hnm⟩
 refine ⟨w.heap.size + 1, [{ target := .collected w.heap.size, args := #[] }], w1, { target := .fn (.func gf) ⟨cs⟩, args := #[.func (.yield (w.heap.size + 1)) #[] #[]] }, w1, gf,
  #[.func (.yield (w.heap.size + 1)) #[] #[]] ++ ⟨cs⟩, w1, ?_, ?_, fun _ _ => trivial, ?_, fun h => (by cases h), ?_⟩
 ·
  rw [hw1, hr0]; exact run_enterLoop_outer _ _ _ _ _
 ·
  simp only [resolve, hge]
  simp [go_sem]
 ·
  simp only [invoke, run_callFunc hfok]
 ·
  -- the iterator
  obtain ⟨ρ1, hρ1⟩ : ∃ ρ1 : Ren, ρ1 = setR ρ L ⟨w.heap.size + 1, 0, 0, false⟩ := ⟨_, rfl⟩
  have hρL : ρ1 L = some ⟨w.heap.size + 1, 0, 0, false⟩ := by rw [hρ1]; simp [setR]
  have hρne : ∀ id, id ≠ L → ρ1 id = ρ id := fun id h => by rw [hρ1]; simp [setR, h]
  have hfresh := hs.fresh
  have hext : Ext ρ ρ1 := fun id rb h => by
   have : id ≠ L := fun e => by subst e; rw [hfresh id (Nat.le_refl _)] at h; cases h
   rw [hρne id this]; exact h
  have hgp : ∀ id, hg (hput H L (some (.obj (.loop R N ps as_ bd)))) id = if id = L then some (.obj (.loop R N ps as_ bd)) else hg H id := fun id => by
   rw [hg_hput]
  have hlowH : ∀ id b, hg H id = some b → id ≠ L := fun id b h e => by
   subst e
   have := hk_lt hHL (by rw [hk_eq]; exact h)
   omega
  have hheap1 : HRel ρ1 (hg (hput H L (some (.obj (.loop R N ps as_ bd))))) w1 := by
   intro id b hb2
   rw [hgp] at hb2
   by_cases h : id = L
   ·
    rw [if_pos h] at hb2; cases hb2; subst h
    exact ⟨_, hρL, r0, hL1, by rw [hr0], by rw [hr0], by rw [hr0], by rw [hr0], by rw [hr0], by rw [hr0]; exact hs.size, fun t v hv => by
     have := hs.regs t v hv
     rw [hr0]; exact this.ext hext⟩
   ·
    rw [if_neg h] at hb2
    obtain ⟨rb, g1, g2⟩ := hs.heap id b hb2
    exact ⟨rb, hext _ _ g1, (g2.frame (hfr1 (fun _ _ => False)) (fun _ _ _ h => h)).ext hext⟩
  have hsep1 : Sep ρ1 (hg (hput H L (some (.obj (.loop R N ps as_ bd))))) := by
   intro i j bi bj ri rj hne hi hj hri hrj hown k o ⟨hfi, hfj⟩
   rw [hgp] at hi hj
   have low : ∀ id b rb, id ≠ L → hg H id = some b → ρ1 id = some rb → foot rb b k o → k < w.heap.size := fun id b rb hid hb2 hr hf => by
    rw [hρne id hid] at hr
    obtain ⟨rb2, g1, g2⟩ := hs.heap id b hb2
    rw [hr] at g1; cases g1
    exact g2.foot_lt hf
   by_cases h1 : i = L
   ·
    rw [if_pos h1] at hi; cases hi
    by_cases h2 : j = L
    ·
     exact hne (h1.trans h2.symm)
    ·
     rw [if_neg h2] at hj
     have := low j bj rj h2 hj hrj hfj
     subst h1; rw [hρL] at hri; cases hri
     have : k = w.heap.size + 1 := hfi
     omega
   ·
    rw [if_neg h1] at hi
    by_cases h2 : j = L
    ·
     rw [if_pos h2] at hj; cases hj
     have := low i bi ri h1 hi hri hfi
     subst h2; rw [hρL] at hrj; cases hrj
     have : k = w.heap.size + 1 := hfj
     omega
    ·
     rw [if_neg h2] at hj
     rw [hρne i h1] at hri
     rw [hρne j h2] at hrj
     exact hs.sep i j bi bj ri rj hne hi hj hri hrj hown k o ⟨hfi, hfj⟩
  have hvs : Rels ρ1 (.yld L :: caps) (.func (.yield (w.heap.size + 1)) #[] #[] :: cs) :=
   Rels.cons (by simp only [Rel]; exact ⟨_, hρL, rfl⟩) (Rels.ext hext caps hcaps)
  have hargsz : (#[.func (.yield (w.heap.size + 1)) #[] #[]] ++ ⟨cs⟩ : Array Value) = ⟨.func (.yield (w.heap.size + 1)) #[] #[] :: cs⟩ := by simp
  rw [hargsz]
  have hcl := hcaps.length
  have hnt' := Nat.le_of_ble_eq_true hnt
  have hsim : Sim fn.ntmps w1.heap.size (L + 1) ρ1 (rg (regs 0 (.yld L :: caps))) (hg (hput H L (some (.obj (.loop R N ps as_ bd)))))
    { tmps := (⟨.func (.yield (w.heap.size + 1)) #[] #[] :: cs⟩ : Array Value) ++ Array.replicate (fn.ntmps - (⟨.func (.yield (w.heap.size + 1)) #[] #[] :: cs⟩ : Array Value).size) undef, defers := [] } w1 := by
   refine ⟨by simp; omega, ?_, hheap1, hsep1, fun id hid => ?_, ⟨List.Pairwise.nil, fun d hd => by simp at hd, Nat.le_refl _⟩⟩
   ·
    intro t v hv
    obtain ⟨_, h2⟩ := regs_get hv
    obtain ⟨u, hu, hr⟩ := hvs.get h2
    simp only [Nat.sub_zero] at hu
    have htl : t < (Value.func (Fn.yield (w.heap.size + 1)) #[] #[] :: cs).length := (List.getElem?_eq_some_iff.1 hu).1
    rw [Array.getD_eq_getD_getElem?, Array.getElem?_append_left (by simpa using htl)]
    simp only [List.getElem?_toArray, hu]
    exact hr
   ·
    rw [hρne id (by omega)]; exact hfresh id (by omega)
  refine callsIn_of_wp_marks hf hb trivial ?_ rfl
  have hlen1 : (hput H L (some (.obj (.loop R N ps as_ bd)))).length ≤ L + 1 := hput_le (by omega) (by omega)
  refine wpIn_mono (hwalk.run none (n - 1) w1.heap.size ρ1 _ w1 rfl hsim hlen1) ?_
  rintro e a' w2 ⟨R2, H2, L2, ρ2, hq, hl2, hs2, he2⟩
  have main : rangeK L R Q H2 L2 → LeavesInM (Fw none) (n - 1) P fn a'.tmps (rangePost (Fw none) n P (w.heap.size + 1) (fun e a' w' => ∃ R' H' L' ρ', Q e R' H' L' ∧ H'.length ≤ L' ∧ Sim N B L' ρ' (rg R') (hg H') a' w' ∧ EvA A ρ (hg H) w ρ' (hg H') w')
    { a with defers := [{ target := .collected w.heap.size, args := #[] }] ++ a.defers }) a'.defers .returning w2 := by
   intro hq
   refine leaves_marks a'.defers w2 hs2.dfr (fun w3 hm => ?_)
   obtain ⟨v, hv⟩ := leaves_void (P := P) hres a'.tmps w3
   refine ⟨v, hv, ?_⟩
   have hAL := Nat.le_of_ble_eq_true hA
   have hρ2L : ρ2 L = some ⟨w.heap.size + 1, 0, 0, false⟩ := he2.ext L (by omega) _ hρL
   -- the record, behind the iterator
   have hrec : ∃ y, hg H2 L = some (.obj y) := by
    unfold rangeK at hq
    rw [hk_eq] at hq
    cases hh : hg H2 L with
    | none => rw [hh] at hq; exact hq.elim
    | some b => cases b with
     | obj y => exact ⟨y, rfl⟩
     | _ => rw [hh] at hq; exact hq.elim
   obtain ⟨y, hy⟩ := hrec
   obtain ⟨rb, hrb, hO⟩ := hs2.heap L _ hy
   rw [hρ2L] at hrb; cases hrb
   have hloop : ∃ r3 : Loop, w3.heap[w.heap.size + 1]? = some (.loop r3) ∧ r3.state ≠ .busy ∧ r3.pending = (match y with | .loop _ _ _ _ _ => none | .pend c => some c) := by
    cases y with
    | loop R3 N3 ps3 a3 b3 => obtain ⟨r3, g1, g2, g3, _⟩ := hO; exact ⟨r3, hm.loops _ _ g1, by rw [g2]; simp, g3⟩
    | pend c3 => obtain ⟨r3, g1, g2, g3⟩ := hO; exact ⟨r3, hm.loops _ _ g1, by rw [g2]; simp, g3⟩
   obtain ⟨r3, hr3, hnb, hpd⟩ := hloop
   obtain ⟨w4, hw4⟩ : ∃ w4, w4 = w3.putObj (w.heap.size + 1) (.loop { r3 with state := .exhausted }) := ⟨_, rfl⟩
   have hend := run_endLoop (P := P) hr3 hnb
   rw [← hw4] at hend
   -- the heap without the record
   have hgp2 : ∀ id, hg (hput H2 L none) id = if id = L then none else hg H2 id := fun id => by rw [hg_hput]
   have sub : ∀ id b, hg (hput H2 L none) id = some b → id ≠ L ∧ hg H2 id = some b := fun id b h => by
    rw [hgp2] at h
    by_cases e : id = L
    ·
     rw [if_pos e] at h; cases h
    ·
     rw [if_neg e] at h; exact ⟨e, h⟩
   have hobj : ∀ id y2, hg (hput H2 L none) id = some (.obj y2) → ∃ rb, ρ2 id = some rb ∧ rb.blk ≠ w.heap.size + 1 := fun id y2 h => by
    obtain ⟨hne, h2⟩ := sub id _ h
    obtain ⟨rb, g1, g2⟩ := hs2.heap id _ h2
    refine ⟨rb, g1, fun e => ?_⟩
    exact hs2.sep L id _ _ _ rb (fun e => hne e.symm) hy h2 hρ2L g1 rfl (w.heap.size + 1) 0 ⟨rfl, e.symm⟩
   have hheap4 : HRel ρ2 (hg (hput H2 L none)) w4 := by
    intro id b hb2
    obtain ⟨hne, h2⟩ := sub id b hb2
    obtain ⟨rb, g1, g2⟩ := hs2.heap id b h2
    refine ⟨rb, g1, ?_⟩
    rw [hw4]
    have g3 := g2.marks hm
    cases b with
    | obj y2 =>
     obtain ⟨rb3, q1, q2⟩ := hobj id y2 hb2
     rw [g1] at q1; cases q1
     have keep : (w3.putObj (w.heap.size + 1) (.loop { r3 with state := .exhausted })).heap[rb.blk]? = w3.heap[rb.blk]? := World.putObj_heap_other q2
     cases y2 with
     | loop R3 N3 ps3 a3 b3 => obtain ⟨r5, k1, k2⟩ := g3; exact ⟨r5, by rw [keep]; exact k1, k2⟩
     | pend c3 => obtain ⟨r5, k1, k2⟩ := g3; exact ⟨r5, by rw [keep]; exact k1, k2⟩
    | row t l => exact g3.putLoop hr3 (fun _ e => by cases e)
    | box l => exact g3.putLoop hr3 (fun _ e => by cases e)
    | ro l => exact g3.putLoop hr3 (fun _ e => by cases e)
    | ext y => exact g3.putLoop hr3 (fun _ e => by cases e)
   have hfr4 : Fr (Owned ρ (hg H)) w w4 := by
    have a2 : Fr (Owned ρ (hg H)) w w2 := (hfr1 _).trans he2.fr (fun k o hk h => by
     obtain ⟨id, b, rb, g1, g2, g3, g4⟩ := h
     rw [hgp] at g1
     by_cases e : id = L
     ·
      rw [if_pos e] at g1; cases g1
      subst e; rw [hρL] at g2; cases g2
      have : k = w.heap.size + 1 := g4
      omega
     ·
      rw [if_neg e] at g1
      rw [hρne id e] at g2
      exact ⟨id, b, rb, g1, g2, g3, g4⟩)
    have a3 : Fr (Owned ρ (hg H)) w w3 := by
     refine ⟨hm.os.trans a2.os, hm.tape.trans a2.tape, hm.output.trans a2.output, by rw [hm.size]; exact a2.size, fun k o ho => ?_⟩
     have hk : k < w.heap.size := (Array.getElem?_eq_some_iff.1 ho).1
     rw [hm.low k (by omega)]
     exact a2.blk k o ho
    refine ⟨by rw [hw4]; exact a3.os, by rw [hw4]; exact a3.tape, by rw [hw4]; exact a3.output, by rw [hw4]; simpa [World.putObj] using a3.size, fun k o ho => ?_⟩
    have hk : k < w.heap.size := (Array.getElem?_eq_some_iff.1 ho).1
    rw [hw4, World.putObj_heap_other (by omega)]
    exact a3.blk k o ho
   have hD4 : w4.heap[w.heap.size]? = some (.deferred (some [])) := by
    have d2 : w2.heap[w.heap.size]? = some (.deferred (some [])) := (he2.fr.blk _ _ hD1).fixed rfl (fun _ _ _ h => by cases h)
    have d3 : w3.heap[w.heap.size]? = some (.deferred (some [])) := by rw [hm.low _ (by omega)]; exact d2
    rw [hw4]; exact putLoop_dfr hr3 d3
   have hown4 : ∀ k o, Owned ρ2 (hg (hput H2 L none)) k o → Owned ρ (hg H) k o ∨ w.heap.size ≤ k := by
    rintro k o ⟨id, b, rb, g1, g2, g3, g4⟩
    obtain ⟨hne, h2⟩ := sub id b g1
    rcases he2.own k o ⟨id, b, rb, h2, g2, g3, g4⟩ with h | h
    ·
     obtain ⟨id2, b2, rb2, q1, q2, q3, q4⟩ := h
     rw [hgp] at q1
     by_cases e : id2 = L
     ·
      rw [if_pos e] at q1; cases q1
      subst e; rw [hρL] at q2; cases q2
      have : k = w.heap.size + 1 := q4
      exact .inr (by omega)
     ·
      rw [if_neg e] at q1
      rw [hρne id2 e] at q2
      exact .inl ⟨id2, b2, rb2, q1, q2, q3, q4⟩
    ·
     exact .inr (by omega)
   have hextA : ∀ id rb, ρ id = some rb → ρ2 id = some rb := fun id rb h => by
    have hid : id < L := by
     by_cases e : id < L
     ·
      exact e
     ·
      rw [hfresh id (by omega)] at h; cases h
    exact he2.ext id (by omega) rb (hext id rb h)
   have hsim4 : Sim N B L2 ρ2 (rg R) (hg (hput H2 L none)) { a with defers := [{ target := .collected w.heap.size, args := #[] }] ++ a.defers } w4 := by
    refine ⟨hs.size, fun t v hv => (hs.regs t v hv).ext (fun id rb h => hextA id rb h), hheap4, fun i j bi bj ri rj hne hi hj hri hrj hown => hs2.sep i j bi bj ri rj hne (sub i bi hi).2 (sub j bj hj).2 hri hrj hown, hs2.fresh, ?_⟩
    have hd0 : DfrOk B a.defers w4 := hs.dfr.fr hfr4
    refine ⟨?_, fun d hd => ?_, hd0.2.2⟩
    ·
     simp only [List.singleton_append, List.map_cons, List.pairwise_cons]
     refine ⟨fun t ht k hk => ?_, hd0.1⟩
     cases hk
     intro e
     obtain ⟨d, hd, rfl⟩ := List.mem_map.1 ht
     obtain ⟨q, e2, _, hq2⟩ := hs.dfr.2.1 d hd
     rw [e2] at e
     simp only [Target.collected.injEq] at e
     subst e
     have := (Array.getElem?_eq_some_iff.1 hq2).1
     omega
    ·
     rcases List.mem_append.1 hd with h | h
     ·
      simp only [List.mem_singleton] at h
      subst h
      exact ⟨w.heap.size, rfl, hs.dfr.2.2, hD4⟩
     ·
      exact hd0.2.1 d h
   have hev4 : EvA A ρ (hg H) w ρ2 (hg (hput H2 L none)) w4 := ⟨fun id _ rb h => hextA id rb h, hfr4, hown4⟩
   have hlen4 : (hput H2 L none).length ≤ L2 := hput_le hl2 (by have := hk_lt hl2 (by rw [hk_eq]; exact hy); omega)
   refine ⟨r3.pending, w4, hend, ?_⟩
   rw [hpd]
   unfold rangeK at hq
   rw [hk_eq, hy] at hq
   cases y with
   | loop R3 N3 ps3 a3 b3 => exact ⟨R, _, L2, ρ2, hq, hlen4, hsim4, hev4⟩
   | pend c3 =>
    cases c3 with
    | ret => exact wpIn_ret ⟨R, _, L2, ρ2, hq, hlen4, hsim4, hev4⟩
    | exit i => exact wpIn_exit ⟨R, _, L2, ρ2, hq, hlen4, hsim4, hev4⟩
    | _ => exact hq.elim
  cases e with
  | normal => exact main hq
  | ret => exact main hq
  | _ => exact hq.elim
end Go.Sh
namespace Go.Sh
theorem sload_map {α : Type} (f : α → SV) (d : α) {l : List α} {k i : Nat} (hk : k = i) (h : i < l.length) : sload false 1 (l.map f) k = some (f (l.getD i d)) := by
 subst hk
 simp [sload, h]
theorem sload_u8 {l : List UInt8} {k i : Nat} (hk : k = i) (h : i < l.length) : sload false 1 (l.map .u8) k = some (.u8 (l.getD i 0)) := sload_map _ _ hk h
theorem sload_u32 {l : List UInt32} {k i : Nat} (hk : k = i) (h : i < l.length) : sload false 1 (l.map .u32) k = some (.u32 (l.getD i 0)) := sload_map _ _ hk h
theorem sload_u64 {l : List UInt64} {k i : Nat} (hk : k = i) (h : i < l.length) : sload false 1 (l.map .u64) k = some (.u64 (l.getD i 0)) := sload_map _ _ hk h
theorem sload_i {l : List Int} {k i : Nat} (hk : k = i) (h : i < l.length) : sload false 1 (l.map .i) k = some (.i (l.getD i 0)) := sload_map _ _ hk h
theorem sload_all {l : List SV} {k sz : Nat} (hk : k = 0) (h : l.length = sz) : sload true sz l k = some (.agg l) := by
 subst hk; subst h
 simp only [sload, if_true]
 rw [if_pos (by omega), List.drop_zero, List.take_of_length_le (Nat.le_refl _)]
theorem sload_sub {α : Type} (f : α → SV) {l : List α} {k i sz : Nat} (hk : k = i) (h : i + sz ≤ l.length) : sload true sz (l.map f) k = some (.agg (((l.drop i).take sz).map f)) := by
 subst hk
 simp only [sload, if_true]
 rw [if_pos (by simpa using h), ← List.map_drop, ← List.map_take]
@[simp] theorem sput_agg_whole {l m : List SV} (h : m.length = l.length) : sput l 0 (.agg m) = m := by
 simp [sput, h]
theorem sput_all {l m : List SV} {k : Nat} (hk : k = 0) (h : m.length = l.length) : sput l k (.agg m) = m := by subst hk; exact sput_agg_whole h
theorem sput_m8 {l : List UInt8} {k i : Nat} {x : UInt8} (hk : k = i) : sput (l.map .u8) k (.u8 x) = (l.set i x).map .u8 := by subst hk; simp [sput, List.map_set]
theorem sput_mi {l : List Int} {k i : Nat} {x : Int} (hk : k = i) : sput (l.map .i) k (.i x) = (l.set i x).map .i := by subst hk; simp [sput, List.map_set]
theorem sput_m32 {l : List UInt32} {k i : Nat} {x : UInt32} (hk : k = i) : sput (l.map .u32) k (.u32 x) = (l.set i x).map .u32 := by subst hk; simp [sput, List.map_set]
theorem sput_m64 {l : List UInt64} {k i : Nat} {x : UInt64} (hk : k = i) : sput (l.map .u64) k (.u64 x) = (l.set i x).map .u64 := by subst hk; simp [sput, List.map_set]
theorem sload_pre8 {l : List UInt8} {r : List SV} {k i : Nat} (hk : k = i) (h : i < l.length) : sload false 1 (l.map .u8 ++ r) k = some (.u8 (l.getD i 0)) := by
 subst hk
 simp [sload, List.getElem?_append_left, h]
theorem sload_end {l : List SV} {x : SV} {k : Nat} (hk : k = l.length) : sload false 1 (l ++ [x]) k = some x := by
 subst hk; simp [sload]
theorem sput_end {l : List SV} {x y : SV} {k : Nat} (hk : k = l.length) (hy : y.atom = true) : sput (l ++ [x]) k y = l ++ [y] := by
 subst hk
 cases y <;> first | (simp [SV.atom] at hy; done) | simp [sput]
theorem bytesOf_cut {l r : List UInt8} {o n : Nat} (h : (l.drop o).take n = r) : bytesOf (((l.map SV.u8).drop o).take n) = some r := by
 subst h; rw [← List.map_drop, ← List.map_take, bytesOf_map]
theorem bytesOf_all {l : List UInt8} : bytesOf (((l.map SV.u8).drop 0).take l.length) = some l := by
 rw [List.drop_zero, take_map_len, bytesOf_map]
theorem set_map {α : Type} (f : α → SV) (l : List α) (k : Nat) (x : α) : (l.map f).set k (f x) = (l.set k x).map f := by simp [List.map_set]
theorem plainL_rep (n : Nat) {x : SV} (h : plainV x = true) : plainL (List.replicate n x) = true := by
 simp only [plainL, List.all_eq_true]; intro y hy; rw [List.eq_of_mem_replicate hy]; exact h
theorem ren_z8 {sel : List Nat} {n : Nat} {x : UInt8} : renL sel ((List.replicate n x).map .u8) = some (List.replicate n (.u8 x)) := by rw [List.map_replicate]; exact renL_plain sel (plainL_rep n rfl)
theorem ren_zi {sel : List Nat} {n : Nat} {x : Int} : renL sel ((List.replicate n x).map .i) = some (List.replicate n (.i x)) := by rw [List.map_replicate]; exact renL_plain sel (plainL_rep n rfl)
theorem ren_z32 {sel : List Nat} {n : Nat} {x : UInt32} : renL sel ((List.replicate n x).map .u32) = some (List.replicate n (.u32 x)) := by rw [List.map_replicate]; exact renL_plain sel (plainL_rep n rfl)
theorem ren_z64 {sel : List Nat} {n : Nat} {x : UInt64} : renL sel ((List.replicate n x).map .u64) = some (List.replicate n (.u64 x)) := by rw [List.map_replicate]; exact renL_plain sel (plainL_rep n rfl)
theorem ren_app {sel : List Nat} {a b c : List SV} (ha : plainL a = true) (h : renL sel b = some c) : renL sel (a ++ b) = some (a ++ c) := by
 induction a with
 | nil => exact h
 | cons x a ih =>
  simp only [plainL_cons, Bool.and_eq_true] at ha
  simp only [List.cons_append, renL, renV_plain sel ha.1, ih ha.2]
theorem ren_app2 {sel : List Nat} {a a' b c : List SV} (ha : plainL a = true) (e : a = a') (h : renL sel b = some c) : renL sel (a ++ b) = some (a' ++ c) := by subst e; exact ren_app ha h
/-! ### What stands in a register, as it is to stand -/
theorem wk_i {sel : List Nat} {n m : Int} (h : n = m) : renV sel (.i n) = some (.i m) := by subst h; rfl
theorem wk_u8 {sel : List Nat} {n m : UInt8} (h : n = m) : renV sel (.u8 n) = some (.u8 m) := by subst h; rfl
theorem wk_u32 {sel : List Nat} {n m : UInt32} (h : n = m) : renV sel (.u32 n) = some (.u32 m) := by subst h; rfl
theorem wk_u64 {sel : List Nat} {n m : UInt64} (h : n = m) : renV sel (.u64 n) = some (.u64 m) := by subst h; rfl
theorem wk_b {sel : List Nat} {n m : Bool} (h : n = m) : renV sel (.b n) = some (.b m) := by subst h; rfl
theorem wk_sl {sel : List Nat} {i j o o' n n' z : Nat} {f : Bool} (hi : sel[i]? = some j) (ho : o = o') (hn : n = n') : renV sel (.sl i o n z f) = some (.sl j o' n' z f) := by subst ho; subst hn; simp only [renV, hi]
theorem wk_tup {sel : List Nat} {l m : List SV} (h : renL sel l = some m) : renV sel (.tup l) = some (.tup m) := by simp only [renV, h]
theorem wk_agg {sel : List Nat} {l m : List SV} (h : renL sel l = some m) : renV sel (.agg l) = some (.agg m) := by simp only [renV, h]
theorem wk_cons {sel : List Nat} {x y : SV} {l m : List SV} (h : renV sel x = some y) (k : renL sel l = some m) : renL sel (x :: l) = some (y :: m) := by simp only [renL, h, k]
theorem wk_nil {sel : List Nat} : renL sel [] = some [] := rfl
theorem evb_i {R : RL} {d : Nat} {x : Operand} {n : Int} {m : Nat} (h : ev R x = some (.i n)) (hn : n = (m : Int)) : evb R d (some x) = some m := by
 subst hn; simp [evb, h, idxOf]
end Go.Sh
namespace Go.Sh
def sopYield (fl : List Bool) (R : RL) (H : HL) (L : Nat) (x : Operand) (args : List Operand) (id : Nat) (ss : List Nat) (args0 : List SV) (H0 : HL) (ret : SV) (H1 : HL) (k : K1) : Prop :=
 (match ev R x with
  | some (.yld i) => match evs R args with
   | some zs => i = id ∧ renL (id :: ss) args0 = some zs
   | none => False
  | _ => False) ∧ okH (id :: ss) H (id :: ss) H0 ∧ plainHf fl H1 = true ∧
 match Nat.beq (id :: ss).length H0.length with
 | true => match dupOk (id :: ss) 0 (id :: ss) H0 with
  | true => match cWf (id :: ss ++ newSel L (H1.length - H0.length)) fl (id :: ss ++ newSel L (H1.length - H0.length)) H0 H1 with
   | some W => match renV (id :: ss ++ newSel L (H1.length - H0.length)) ret with
    | some z => k (some z) W (id :: ss) (L + (H1.length - H0.length))
    | none => False
   | none => False
  | false => False
 | false => False
theorem ok1_yield {P : Program} {o : Oper} {R : RL} {H : HL} {L : Nat} {k : K1} {x : Operand} {args : Array Operand} {tys : Array TypeId} {args0 : List SV} {H0 H1 : HL} {ret : SV} (id : Nat) (ss : List Nat) (fl : List Bool)
  (hc : SYield P args0 H0 ret H1) (ho : o.op = .call ⟨.value x, args, tys⟩) (hle : Nat.ble H.length L = true) (h : sopYield fl R H L x args.toList id ss args0 H0 ret H1 k) : Ok1 P o R H L k := by
 have hl := Nat.le_of_ble_eq_true hle
 obtain ⟨h1, h2, hp, h3⟩ := h
 split at h1
 ·
  rename_i i hx
  split at h1
  ·
   rename_i zs hzs
   obtain ⟨rfl, hren⟩ := h1
   split at h3
   ·
    rename_i hlen
    split at h3
    ·
     rename_i hd
     split at h3
     ·
      rename_i W hWf
      split at h3
      ·
       rename_i z hz
       have hW := cWf_eq _ _ _ _ _ _ hp hWf
       obtain ⟨w1, w2, w3, w4, w5⟩ := cW_spec hW
       refine ⟨_, _, _, _, lt_yield hl ho (ev_some hx) (evs_eq hzs) hc hren (beqE hlen) h2 hd hW hz, by omega, ?_, h3⟩
       intro j ob hm
       obtain ⟨q, hj, hent⟩ := w3 j ob hm
       have hl0 := beqE hlen
       by_cases hjs : q < H0.length
       ·
        rw [List.getElem?_append_left (by omega)] at hj
        obtain ⟨b0, hb0⟩ := w5 q hjs
        obtain ⟨s, b, e1, e2, _⟩ := okH_get h2 hb0
        rw [hj] at e1; cases e1
        have := hk_lt hl (by rw [hk_eq]; exact e2 : hk H _ = some b)
        exact ⟨by omega, fun hn => absurd (List.mem_of_getElem? hj) hn⟩
       ·
        rw [List.getElem?_append_right (by omega), newSel_get] at hj
        split at hj
        ·
         have := Option.some.inj hj
         exact ⟨by omega, fun _ => by omega⟩
        ·
         cases hj
      ·
       exact h3.elim
     ·
      exact h3.elim
    ·
     exact h3.elim
   ·
    exact h3.elim
  ·
   exact h1.elim
 ·
  exact h1.elim
end Go.Sh
namespace Go.Sh
open Go.Proofs
theorem lt_ext {P : Program} {H : Heap} {o : Oper} {R : Env} {x : Operand} {args : Array Operand} {tys : Array TypeId} {f : Nat} {zs : List SV} {z : SV} (ho : o.op = .call ⟨.value x, args, tys⟩)
  (hx : evO R x = some (.fn f [])) (hargs : args.toList.map (evO R) = zs.map some)
  (hrun : ∀ (ρ : Ren) (w : World) (vs : List Value), Rels ρ zs vs → ∃ rv, (callFunc f ⟨vs⟩).run P w = .ok (.value rv) w ∧ Rel ρ z rv) : LT P o R H [] [] (some z) := by
 refine LT.pure (by simp [ho]) fun e w ρ h1 _ => ?_
 have hxr := h1 x (by simp [ho, Op.operands, Call.operands]) _ hx
 simp only [Rel] at hxr
 obtain ⟨cs, he, hcs⟩ := hxr
 rw [Rels.nil_iff] at hcs; subst hcs
 have hv : Rels ρ zs (args.toList.map e) := by
  have : ∀ (l : List Operand) (zs : List SV), (∀ y ∈ l, y ∈ args.toList) → l.map (evO R) = zs.map some → Rels ρ zs (l.map e) := by
   intro l
   induction l with
   | nil => intro zs _ h; cases zs with
    | nil => exact Rels.nil_iff.2 rfl
    | cons _ _ => simp at h
   | cons y l ih =>
    intro zs hm h
    cases zs with
    | nil => simp at h
    | cons z zs =>
     simp only [List.map_cons, List.cons.injEq] at h
     exact Rels.cons (h1 y (by have := hm y (by simp); simp [ho, Op.operands, Call.operands]; exact .inr (by simpa using this)) _ h.1) (ih zs (fun y hy => hm y (by simp [hy])) h.2)
  exact this _ _ (fun _ h => h) hargs
 obtain ⟨rv, hr, hz⟩ := hrun ρ w _ hv
 refine ⟨rv, ?_, hz⟩
 have ea : (⟨args.toList.map e⟩ : Array Value) = args.map e := by
  apply Array.ext'; simp
 rw [ea] at hr
 unfold execOp
 simp only [ho, resolve, he, Deferred.ofValue, Sem.run_bind, Sem.run_pure, Result.andThen, invoke]
 simpa [Result.andThen] using hr
theorem run_add64F {P : Program} {f : FuncId} {fn : Func} (hf : P.funcs[f]? = some fn) (hname : (fn.name == "runtime.NumGoroutine") = false)
  (hb : fn.body.isNone = true) (hn : Extern.findNext fn = none) (he : Extern.find fn = some add64Entry) (x y c : UInt64) (hc : c.toNat ≤ 1) (w : World) :
  (callFunc f #[.int .u64 (x.toNat : Int), .int .u64 (y.toNat : Int), .int .u64 (c.toNat : Int)]).run P w =
   .ok (.value (.tuple #[.int .u64 (((x.toNat + y.toNat + c.toNat) % 18446744073709551616 : Nat) : Int), .int .u64 (((x.toNat + y.toNat + c.toNat) / 18446744073709551616 : Nat) : Int)])) w := by
 rw [run_callFunc_extern hf hname hb hn he, run_add64 _ _ _ (by omega) (by omega) (by omega) (by omega)]
 simp only [Result.andThen]
 congr 5 <;> omega
theorem ok1_add64 {P : Program} {o : Oper} {R : RL} {H : HL} {L : Nat} {k : K1} {x : Operand} {args : Array Operand} {tys : Array TypeId} {f : Nat} (fn : Func) (a b c s t : UInt64)
  (hf : P.funcs[f]? = some fn) (hname : (fn.name == "runtime.NumGoroutine") = false) (hb : fn.body.isNone = true) (hn : Extern.findNext fn = none) (he : Extern.find fn = some add64Entry)
  (ho : o.op = .call ⟨.value x, args, tys⟩) (hx : ev R x = some (.fn f [])) (hargs : evs R args.toList = some [.u64 a, .u64 b, .u64 c]) (hc : c.toNat ≤ 1)
  (hs : s.toNat = (a.toNat + b.toNat + c.toNat) % 18446744073709551616) (ht : t.toNat = (a.toNat + b.toNat + c.toNat) / 18446744073709551616)
  (h : k (some (.tup [.u64 s, .u64 t])) [] [] L) : Ok1 P o R H L k := by
 refine ⟨_, [], [], L, lt_ext (z := .tup [.u64 s, .u64 t]) ho (ev_some hx) (evs_eq hargs) ?_, Nat.le_refl _, by simp, h⟩
 intro ρ w vs hv
 have hv2 : vs = [.int .u64 (a.toNat : Int), .int .u64 (b.toNat : Int), .int .u64 (c.toNat : Int)] := by
  simp only [Rels, Rel] at hv
  obtain ⟨_, _, rfl, rfl, _, _, rfl, rfl, _, _, rfl, rfl, rfl⟩ := hv
  rfl
 subst hv2
 refine ⟨_, run_add64F hf hname hb hn he a b c hc w, ?_⟩
 rw [← hs, ← ht]
 simp only [Rel]
 exact ⟨_, rfl, Rels.cons (by simp only [Rel]) (Rels.cons (by simp only [Rel]) (Rels.nil_iff.2 rfl))⟩
end Go.Sh
namespace Go.Sh
open Go.Proofs
theorem digits_u8 : ∀ (n t : Nat) (acc : Array Value), ∃ l : List UInt8, (Extern.BytealgMakeNoZero.digits n t acc).toList = acc.toList ++ l.map (fun x => Value.int .u8 (x.toNat : Int)) ∧ l.length = n
 | 0, t, acc => ⟨[], by simp [Extern.BytealgMakeNoZero.digits], rfl⟩
 | n + 1, t, acc => by
  obtain ⟨l, h1, h2⟩ := digits_u8 n (t / 256) (acc.push (.int .u8 (Int.ofNat (t % 256))))
  refine ⟨(UInt8.ofNat (t % 256)) :: l, ?_, by simp [h2]⟩
  rw [Extern.BytealgMakeNoZero.digits, h1]
  have : (UInt8.ofNat (t % 256)).toNat = t % 256 := by
   rw [UInt8.toNat_ofNat']; omega
  simp [this]
theorem rels_u8 (ρ : Ren) : ∀ l : List UInt8, Rels ρ (l.map .u8) (l.map (fun x => Value.int .u8 (x.toNat : Int)))
 | [] => Rels.nil_iff.2 rfl
 | x :: l => Rels.cons (by simp only [Rel]) (rels_u8 ρ l)
theorem atoms_u8m (l : List UInt8) : atoms (l.map SV.u8) = true := by simp [atoms, SV.atom]
theorem run_mnz0 {P : Program} {ps : Array TypeId} {t e : TypeId} (ht : P.underlying t = some (.slice e)) (n : Nat) (hn2 : n ≤ 281474976710656) (w : World) :
  ∃ b : Nat, (Extern.BytealgMakeNoZero.makeNoZero ps #[t] #[.int .i64 n]).run P w = .ok (.slice (some ⟨w.heap.size, 0, none⟩) n (Extern.BytealgMakeNoZero.digits (grownCap w n 0 e) b #[]).size) (w.drew.drew.alloc (.cells (Extern.BytealgMakeNoZero.digits (grownCap w n 0 e) b #[]) e)) := by
 have hdef : ∃ q : Question, q.forced = false ∧ Extern.BytealgMakeNoZero.makeNoZero ps #[t] #[.int .i64 n] =
   (do
    let .slice elem ← underlying t | stuck "bytealg.MakeNoZero: slice type expected"
    if (n : Int) < 0 || (n : Int) > 2 ^ 48 then runtimePanic (.error "makeslice: len out of range")
    let cap ← choose (.appendCap (n : Int).toNat 0 elem)
    askRoom cap
    let bytes ← choose q
    let a ← newRow elem (Extern.BytealgMakeNoZero.digits cap bytes #[])
    pure (.slice (some a) (n : Int).toNat cap)) := by
  refine ⟨_, ?_, rfl⟩
  rfl
 obtain ⟨q, hqf, hdef⟩ := hdef
 refine ⟨q.cut (w.tape (w.drawn + 1) q), ?_⟩
 rw [hdef]
 have h1 : ¬ (n : Int) < 0 := by omega
 have h2 : ¬ (281474976710656 : Int) < (n : Int) := by omega
 have hq2 : (Question.appendCap n 0 e).forced = false := rfl
 simp [run_underlying ht, h1, h2, hqf, hq2, newRow, Lib.size_digits, grownCap]
theorem run_mnz {P : Program} {f : FuncId} {fn : Func} {t e : TypeId} (hf : P.funcs[f]? = some fn) (hname : (fn.name == "runtime.NumGoroutine") = false) (hb : fn.body.isNone = true) (hn : Extern.findNext fn = none)
  (he : Extern.find fn = some (Extern.BytealgMakeNoZero.makeNoZero fn.params #[t])) (ht : P.underlying t = some (.slice e)) (n : Nat) (hn2 : n ≤ 281474976710656) (w : World) :
  ∃ (cs : Array Value) (l : List UInt8), (callFunc f #[.int .i64 (n : Int)]).run P w = .ok (.value (.slice (some ⟨w.heap.size, 0, none⟩) n cs.size)) (w.drew.drew.alloc (.cells cs e)) ∧ n ≤ cs.size ∧ l.length = n ∧ cs.toList.take n = l.map (fun x => Value.int .u8 (x.toNat : Int)) := by
 obtain ⟨b, hr⟩ := run_mnz0 (ps := fn.params) ht n hn2 w
 obtain ⟨l, hl1, hl2⟩ := digits_u8 (grownCap w n 0 e) b #[]
 have hge : n ≤ grownCap w n 0 e := by simpa using grownCap_ge w n 0 e
 refine ⟨Extern.BytealgMakeNoZero.digits (grownCap w n 0 e) b #[], l.take n, ?_, ?_, ?_, ?_⟩
 ·
  rw [run_callFunc_extern hf hname hb hn he, hr]; rfl
 ·
  rw [Lib.size_digits]; simpa using hge
 ·
  rw [List.length_take, hl2]; omega
 ·
  rw [hl1]; simp [List.map_take]
section
variable {P : Program} {ops : Array Oper} {N B : Nat}
theorem good_step_at {o : Oper} {i : Nat} {R Ri : Env} {H Hi : Heap} {e : En} {L L' n : Nat} {r : Option Nat} {ρ : Ren} {a : Act} {w : World} {K : Act → World → Prop} {Q : Exit → Act → World → Prop}
  (hi : ops[i]? = some o) (hd : e.lg.dst = o.dst) (hWi : e.lg.Wi = e.W.map (·.1)) (hgd : o.guard = none) (hN : ∀ d, o.dst = some d → d < N)
  (hlt : (∀ t ∈ readsOf o, ∀ v, Ri t = some v → Rel ρ v (a.tmps.getD t undef)) → ∀ next : Act → World → Prop, (∀ rv w' ρ', Chg ρ Hi w e.W ρ' w' → (∀ v, e.out = some v → Rel ρ' v rv) → next (a.put o.dst rv) w') → o.wpIn (Fw r) n P a w next Q)
  (hR : ∀ t, R t = Ri t) (hH : ∀ id, (id ∈ e.lg.F ∨ id ∈ e.lg.Wi) → H id = Hi id) (hs : Sim N B L ρ R H a w)
  (hfresh : ∀ id ob, (id, ob) ∈ e.W → id ∉ e.lg.F → ρ id = none) (hL : L ≤ L') (hW : ∀ id ob, (id, ob) ∈ e.W → id < L')
  (hk : ∀ a' w' ρ', Sim N B L' ρ' (appL R (wr e)) (appL H e.W) a' w' → Ev ρ H w ρ' (appL H e.W) w' → (∀ id rb, ρ' id = some rb → ρ id = some rb ∨ ∃ ob, (id, ob) ∈ e.W) → K a' w') :
  wpOpIn (Fw r) n P ops Q i K a w := by
 have put : ∀ (rv : Value) (w' : World) (ρ' : Ren), Chg ρ Hi w e.W ρ' w' → (∀ v, e.out = some v → Rel ρ' v rv) → K (a.put o.dst rv) w' := by
  intro rv w' ρ' hc hv
  have hev := hc.evo (H := H) (fun id ob hm => (hH id (.inr (by rw [hWi]; exact List.mem_map.2 ⟨_, hm, rfl⟩))).symm) hs.heap hs.sep
  rw [updW_app] at hev
  refine hk _ _ ρ' ⟨?_, ?_, hev.heap, hev.sep, ?_, ?_⟩ hev.ev hc.dom
  ·
   cases hdst : o.dst <;> simp [Act.put, hdst, hs.size]
  ·
   intro t v ht
   cases hdst : o.dst with
   | none =>
    rw [hdst] at hd
    simp only [wr, hd, appL, List.lookup_nil] at ht
    simp only [Act.put]
    exact (hs.regs t v ht).ext hev.ext
   | some d =>
    rw [hdst] at hd
    have hdN : d < a.tmps.size := by rw [hs.size]; exact hN d hdst
    simp only [wr, hd, appL, List.lookup_cons, List.lookup_nil] at ht
    simp only [Act.put]
    by_cases htd : t = d
    ·
     subst htd
     simp at ht
     rw [Array.getD_eq_getD_getElem?, Array.getElem?_setIfInBounds_self_of_lt hdN]
     exact hv v ht
    ·
     have : (t == d) = false := by simpa using htd
     simp only [this] at ht
     rw [Array.getD_eq_getD_getElem?, Array.getElem?_setIfInBounds_ne (fun e => htd e.symm), ← Array.getD_eq_getD_getElem?]
     exact (hs.regs t v ht).ext hev.ext
  ·
   intro id hid
   cases hr : ρ' id with
   | none => rfl
   | some rb =>
    rcases hc.dom id rb hr with h | ⟨ob, hm⟩
    ·
     rw [hs.fresh id (by omega)] at h; cases h
    ·
     have := hW id ob hm; omega
  ·
   have : (a.put o.dst rv).defers = a.defers := by cases hdst : o.dst <;> simp [Act.put]
   rw [this]
   exact hs.dfr.fr hev.fr
 unfold wpOpIn
 simp only [hi]
 have hw : Region.wanted o (yielded ops a.tmps) = true := by unfold Region.wanted; simp only [hgd]
 simp only [hw, if_true]
 exact hlt (fun t ht v hv => hs.regs t v ((hR t).trans hv)) K put
end
def swx (j : Nat) (T : TT) (P : Program) (M : Option Nat → Prop) (N A : Nat) (c : Code) : (Exit → RL → HL → Nat → Prop) → RL → HL → Nat → Prop :=
 @Code.rec (fun _ => (Exit → RL → HL → Nat → Prop) → RL → HL → Nat → Prop)
  (fun Q => Q .normal)
  (fun id ops draw Q R H L => match Nat.beq id j with
   | true => SWp P M N A (.region id ops draw) Q R H L
   | false => sw T P M N A (.region id ops draw) Q R H L)
  (fun _ _ iha ihb Q => iha fun e => match e with | .normal => ihb Q | e => Q e)
  (fun c _ _ ihx ihy Q R H L => match ev R c with
   | some (.b t) => (t = true → ihx Q R H L) ∧ (t = false → ihy Q R H L)
   | _ => False)
  (fun id _ ih Q => ih fun e => match e with
   | .exit i => match Nat.beq i id with | true => Q .normal | false => Q (.exit i)
   | e => Q e)
  (fun c _ Q => SWp P M N A (.loop c) Q)
  (fun f ps x y _ _ Q => SWp P M N A (.rangeFunc f ps x y) Q)
  (fun id Q => Q (.exit id))
  (fun c _ Q => SWp P M N A (.scope c) Q)
  (fun l Q => SWp P M N A (.label l) Q)
  (fun l Q => SWp P M N A (.goto l) Q)
  (fun Q => Q .ret)
  (fun s Q => SWp P M N A (.refuse s) Q) c
theorem swx_ok {j : Nat} {T : TT} {P : Program} {M : Option Nat → Prop} {N A : Nat} (hT : TOk P T) (hm : P.follows .mixedOrders = true) : ∀ {c : Code} {Q : Exit → RL → HL → Nat → Prop} {R : RL} {H : HL} {L : Nat}, codeOk N c = true →
  swx j T P M N A c Q R H L → SWp P M N A c Q R H L
 | .skip, Q, R, H, L, _, h => ⟨fun r n B ρ a w hM hs hl => wpIn_skip ⟨R, H, L, ρ, h, hl, hs, EvA.refl _ _ _ _⟩⟩
 | .exit id, Q, R, H, L, _, h => ⟨fun r n B ρ a w hM hs hl => wpIn_exit ⟨R, H, L, ρ, h, hl, hs, EvA.refl _ _ _ _⟩⟩
 | .ret, Q, R, H, L, _, h => ⟨fun r n B ρ a w hM hs hl => wpIn_ret ⟨R, H, L, ρ, h, hl, hs, EvA.refl _ _ _ _⟩⟩
 | .region id ops draw, Q, R, H, L, hc, h => by
  have h : (match Nat.beq id j with
   | true => SWp P M N A (.region id ops draw) Q R H L
   | false => sw T P M N A (.region id ops draw) Q R H L) := h
  cases hb : Nat.beq id j with
  | true => rw [hb] at h; exact h
  | false => rw [hb] at h; exact sw_ok hT hm hc h
 | .seq x y, Q, R, H, L, hc, h => by
  simp only [codeOk, Bool.and_eq_true] at hc
  have h : swx j T P M N A x (fun e => match e with | .normal => swx j T P M N A y Q | e => Q e) R H L := h
  exact (swx_ok hT hm hc.1 h).seq (fun R H L h => swx_ok hT hm hc.2 h) (fun e R H L hne h => by cases e <;> first | exact absurd rfl hne | exact h)
 | .cond c x y, Q, R, H, L, hc, h => by
  simp only [codeOk, Bool.and_eq_true] at hc
  have h : (match ev R c with
   | some (.b t) => (t = true → swx j T P M N A x Q R H L) ∧ (t = false → swx j T P M N A y Q R H L)
   | _ => False) := h
  split at h
  ·
   rename_i t ht
   refine ⟨fun r n B ρ a w hM hs hl => ?_⟩
   have hcv : a.eval c = .bool t := by
    cases c with
    | tmp k =>
     have h1 := hs.regs k (.b t) (by rw [rg, ← lk_eq]; exact ht)
     simp only [Rel] at h1
     exact h1
    | const v =>
     have h1 := (ofVal_rel (ρ := ρ) ht).1
     simp only [Rel] at h1
     exact h1
    | func f => cases ht
    | global g => cases ht
   refine wpIn_cond_split hcv (fun ht => (swx_ok hT hm hc.1 (h.1 ht)).run r n B ρ a w hM hs hl) (fun ht => (swx_ok hT hm hc.2 (h.2 ht)).run r n B ρ a w hM hs hl)
  ·
   exact h.elim
 | .block id c, Q, R, H, L, hc, h => by
  refine ⟨fun r n B ρ a w hM hs hl => ?_⟩
  have h : swx j T P M N A c (fun e => match e with
   | .exit i => match Nat.beq i id with | true => Q .normal | false => Q (.exit i)
   | e => Q e) R H L := h
  simp only [codeOk] at hc
  refine wpIn_block (wpIn_mono ((swx_ok hT hm hc h).run r n B ρ a w hM hs hl) ?_)
  rintro e a2 w2 ⟨R2, H2, L2, ρ2, hq2, rest⟩
  cases e with
  | exit i =>
   simp only [Exit.inBlock]
   cases hb : Nat.beq i id with
   | true => simp only [hb] at hq2; rw [if_pos (beqE hb)]; exact ⟨R2, H2, L2, ρ2, hq2, rest⟩
   | false => simp only [hb] at hq2; rw [if_neg (fun e => by subst e; simp at hb)]; exact ⟨R2, H2, L2, ρ2, hq2, rest⟩
  | _ => exact ⟨R2, H2, L2, ρ2, hq2, rest⟩
 | .loop c, Q, R, H, L, _, h => h
 | .rangeFunc f ps x y, Q, R, H, L, _, h => h
 | .scope c, Q, R, H, L, _, h => h
 | .label l, Q, R, H, L, _, h => h
 | .goto l, Q, R, H, L, _, h => h
 | .refuse s, Q, R, H, L, _, h => h
theorem swp_mnz {T : TT} {P : Program} {M : Option Nat → Prop} {N A : Nat} {id : Nat} {ops : Array Oper} {o1 o2 : Oper} {post : List Oper} {Q : Exit → RL → HL → Nat → Prop} {R R1 : RL} {H H1 : HL} {L L1 n f : Nat} {x : Operand} {tys : Array TypeId} {fn : Func} {t e d : TypeId}
  (hT : TOk P T) (hd : dstOk N ops = true) (hops : ops.toList = o1 :: o2 :: post)
  (h1 : rops T P ops [o1] R H L [] fun R' H' L' _ => R' = R1 ∧ H' = H1 ∧ L' = L1)
  (ho : o2.op = .call ⟨.value (.func f), #[x], tys⟩) (hgd : o2.guard = none) (hdst : o2.dst = some d) (hx : evO (rg R1) x = some (.i (n : Int))) (hn2 : n ≤ 281474976710656)
  (hf : P.funcs[f]? = some fn) (hname : (fn.name == "runtime.NumGoroutine") = false) (hb : fn.body.isNone = true) (hn : Extern.findNext fn = none)
  (he : Extern.find fn = some (Extern.BytealgMakeNoZero.makeNoZero fn.params #[t])) (ht : P.underlying t = some (.slice e))
  (h2 : ∀ l : List UInt8, l.length = n → rops T P ops post ((d, .sl L1 0 n 1 false) :: R1) (hupd H1 [(L1, some (.row e (l.map .u8)))]) (L1 + 1) [] fun R' H' L' _ => Q .normal R' H' L') :
  SWp P M N A (.region id ops false) Q R H L := by
 refine ⟨fun r nn B ρ a w hM hs hl => ?_⟩
 have hN : ∀ (i : Nat) (o : Oper) (d : Nat), ops[i]? = some o → o.dst = some d → d < N := by
  intro i o d ho hdst
  simp only [dstOk, List.all_eq_true] at hd
  have := hd o (by simpa using Array.mem_of_getElem? ho)
  simpa [hdst] using this
 have hget : ∀ j, ops[j]? = (o1 :: o2 :: post)[j]? := fun j => by rw [← hops, Array.getElem?_toList]
 obtain ⟨es, R', H', L', hr, hl', hq1, hq2, hq3⟩ := rops_ok hT h1 hl
 subst hq1 hq2 hq3
 obtain ⟨e1, es1, L0, rfl, hg1, hL1, hW1, hr0⟩ := hr
 obtain ⟨rfl, hR1, hH1, hLL⟩ := hr0
 subst hLL
 refine wpIn_region ?_
 have hsz : ops.size = post.length + 1 + 1 := by rw [← Array.length_toList, hops]; simp
 rw [List.range_eq_range', hsz, List.range'_succ, List.range'_succ, wpOpsIn_cons]
 refine good_step (L' := L0) (hget 0) hg1 (fun d hd => hN 0 o1 d (hget 0) hd) (fun _ _ => rfl) (fun _ _ => rfl) hs (fun id ob hm hF => hs.fresh id ((hW1 id ob hm).2 hF)) hL1 (fun id ob hm => (hW1 id ob hm).1) ?_
 intro a1 w1 ρ1 hs1 hev1 _
 rw [wpOpsIn_cons]
 rw [hR1, hH1] at hs1
 rw [hH1] at hev1
 obtain ⟨cs, l, hrun, hcs, hll, hlt⟩ := run_mnz hf hname hb hn he ht n hn2 w1
 have hch : ∀ Hx : Heap, Chg ρ1 Hx w1 [(L0, some (.row e (l.map .u8)))] (setR ρ1 L0 ⟨w1.heap.size, 0, cs.size, false⟩) (w1.drew.drew.alloc (.cells cs e)) := fun Hx =>
  Chg.row (H := Hx) (w := w1) (fz := (0, 0)) (t := e) (w1.drawn + 2) (hs1.fresh L0 (Nat.le_refl _)) (atoms_u8m l) (by rw [List.length_map, hll, hlt]; exact rels_u8 ρ1 l) (by rw [List.length_map, hll]; exact hcs) (.inl rfl)
 refine good_step_at (L' := L0 + 1) (Ri := rg R') (Hi := hg H') (e := ⟨⟨o2.dst, [], [], [L0]⟩, some (.sl L0 0 n 1 false), [(L0, some (.row e (l.map .u8)))]⟩) (hget 1) rfl rfl hgd (fun d hd => hN 1 o2 d (hget 1) hd) ?_ (fun _ => rfl) (fun _ _ => rfl) hs1 ?_ (by omega) ?_ ?_
 ·
  intro hreg next hnext
  refine ⟨fun _ _ => trivial, ?_⟩
  rw [Oper.semAt_eq _ _ _ (by simp [ho])]
  have hxv : a1.eval x = .int .i64 (n : Int) := by
   have hrel : Rel ρ1 (.i (n : Int)) (a1.eval x) := by
    cases x with
    | tmp t => exact hreg t (by simp only [readsOf, List.mem_filterMap]; exact ⟨.tmp t, by simp [ho, Op.operands, Call.operands], rfl⟩) _ hx
    | const u => exact (ofVal_rel hx).1
    | func f => simp only [evO, Option.some.injEq] at hx; cases hx
    | global g => cases hx
   simpa only [Rel] using hrel
  have hexe : (execOp a1.eval o2).run P w1 = .ok (.value (.slice (some ⟨w1.heap.size, 0, none⟩) n cs.size)) (w1.drew.drew.alloc (.cells cs e)) := by
   unfold execOp
   have hr := hrun
   rw [← hxv] at hr
   have hfe : a1.eval (.func f) = .func (.func f) #[] #[] := rfl
   simp only [ho, resolve, hfe, Deferred.ofValue, Sem.run_bind, Sem.run_pure, Result.andThen, invoke]
   simpa [Result.andThen] using hr
  rw [hexe]
  refine hnext _ _ _ (hch _) ?_
  intro v hv
  cases hv
  simp only [Rel]
  refine ⟨⟨w1.heap.size, 0, cs.size, false⟩, some ⟨w1.heap.size, 0, none⟩, cs.size, by simp [setR], rfl, hcs, by simp, .inr ⟨rfl, by simp, by simp⟩⟩
 ·
  intro id ob hm hF
  simp at hm
  rw [hm.1]; exact hs1.fresh L0 (Nat.le_refl _)
 ·
  intro id ob hm
  simp at hm
  rw [hm.1]; omega
 ·
  intro a2 w2 ρ2 hs2 hev2 _
  rw [appL_wr rfl, ← updW_app, ← hg_hupd] at hs2
  rw [← updW_app, ← hg_hupd] at hev2
  have hrp : rput R' o2.dst (some (.sl L0 0 n 1 false)) = (d, .sl L0 0 n 1 false) :: R' := by rw [hdst]; rfl
  rw [hrp] at hs2
  obtain ⟨es, R2, H2, L2, hr2, hl2, hq2⟩ := rops_ok hT (h2 l hll) (hupd_le (by omega) (fun id ob hm => by simp at hm; rw [hm.1]; omega))
  have hfin := region_text (r := r) (n := nn) (Q := fun e a' w' => ∃ R' H' L' ρ', Q e R' H' L' ∧ H'.length ≤ L' ∧ Sim N B L' ρ' (rg R') (hg H') a' w' ∧ EvA A ρ (hg H) w ρ' (hg H') w') hN post 2 _ _ _ es ρ2 a2 w2 (fun j => by rw [hget]; simp [Nat.add_comm 2 j]) hr2 hs2
   (fun a' w' ρ' hs' hev => ⟨R2, H2, L2, ρ', hq2, hl2, hs', ((hev1.trans hev2).trans hev).toA⟩)
  exact hfin
end Go.Sh
namespace Go.Sh
open Go.Proofs
section
variable {P : Program} {ops : Array Oper} {N B : Nat}
theorem step_put {o : Oper} {R : Env} {H : Heap} {e : En} {L L' : Nat} {ρ : Ren} {a : Act} {w : World} (hd : e.lg.dst = o.dst) (hN : ∀ d, o.dst = some d → d < N) (hs : Sim N B L ρ R H a w) (hL : L ≤ L') (hW : ∀ id ob, (id, ob) ∈ e.W → id < L')
  {rv : Value} {w' : World} {ρ' : Ren} (hc : Chg ρ H w e.W ρ' w') (hv : ∀ v, e.out = some v → Rel ρ' v rv) : Sim N B L' ρ' (appL R (wr e)) (appL H e.W) (a.put o.dst rv) w' ∧ Ev ρ H w ρ' (appL H e.W) w' := by
  have hev := hc.evo (H := H) (fun id ob hm => rfl) hs.heap hs.sep
  rw [updW_app] at hev
  refine ⟨⟨?_, ?_, hev.heap, hev.sep, ?_, ?_⟩, hev.ev⟩
  ·
   cases hdst : o.dst <;> simp [Act.put, hdst, hs.size]
  ·
   intro t v ht
   cases hdst : o.dst with
   | none =>
    rw [hdst] at hd
    simp only [wr, hd, appL, List.lookup_nil] at ht
    simp only [Act.put]
    exact (hs.regs t v ht).ext hev.ext
   | some d =>
    rw [hdst] at hd
    have hdN : d < a.tmps.size := by rw [hs.size]; exact hN d hdst
    simp only [wr, hd, appL, List.lookup_cons, List.lookup_nil] at ht
    simp only [Act.put]
    by_cases htd : t = d
    ·
     subst htd
     simp at ht
     rw [Array.getD_eq_getD_getElem?, Array.getElem?_setIfInBounds_self_of_lt hdN]
     exact hv v ht
    ·
     have : (t == d) = false := by simpa using htd
     simp only [this] at ht
     rw [Array.getD_eq_getD_getElem?, Array.getElem?_setIfInBounds_ne (fun e => htd e.symm), ← Array.getD_eq_getD_getElem?]
     exact (hs.regs t v ht).ext hev.ext
  ·
   intro id hid
   cases hr : ρ' id with
   | none => rfl
   | some rb =>
    rcases hc.dom id rb hr with h | ⟨ob, hm⟩
    ·
     rw [hs.fresh id (by omega)] at h; cases h
    ·
     have := hW id ob hm; omega
  ·
   have : (a.put o.dst rv).defers = a.defers := by cases hdst : o.dst <;> simp [Act.put]
   rw [this]
   exact hs.dfr.fr hev.fr
theorem region_pre {r : Option Nat} {n : Nat} {Q : Exit → Act → World → Prop} {R' : Env} {H' : Heap} {Lf : Nat} {rest : List Nat} (hN : ∀ (i : Nat) (o : Oper) (d : Nat), ops[i]? = some o → o.dst = some d → d < N) :
  ∀ (os : List Oper) (k : Nat) (R : Env) (H : Heap) (L : Nat) (es : List En) (ρ : Ren) (a : Act) (w : World), (∀ j, j < os.length → os[j]? = ops[k + j]?) → RunT P ops os R H L es R' H' Lf → Sim N B L ρ R H a w →
   (∀ a' w' ρ', Sim N B Lf ρ' R' H' a' w' → Ev ρ H w ρ' H' w' → wpOpsIn (Fw r) n P ops Q rest a' w') → wpOpsIn (Fw r) n P ops Q (List.range' k os.length ++ rest) a w
 | [], k, R, H, L, es, ρ, a, w, _, hr, hs, hk => by
  obtain ⟨rfl, rfl, rfl, rfl⟩ := hr
  exact hk a w ρ hs (Ev.refl _ _ _)
 | o :: os, k, R, H, L, es, ρ, a, w, hos, hr, hs, hk => by
  obtain ⟨e, es', L', rfl, hg, hL, hW, hr'⟩ := hr
  have h0 : ops[k]? = some o := by have := hos 0 (by simp); simpa using this.symm
  rw [List.length_cons, List.range'_succ, List.cons_append, wpOpsIn_cons]
  refine good_step (L' := L') h0 hg (fun d hd => hN k o d h0 hd) (fun _ _ => rfl) (fun _ _ => rfl) hs (fun id ob hm hF => hs.fresh id ((hW id ob hm).2 hF)) hL (fun id ob hm => (hW id ob hm).1) ?_
  intro a' w' ρ' hs' hev _
  refine region_pre hN os (k + 1) _ _ L' es' ρ' a' w' (fun j hj => by have := hos (j + 1) (by simp; omega); simp only [List.getElem?_cons_succ] at this; rw [this]; congr 1; omega) hr' hs' ?_
  intro a2 w2 ρ2 hs2 hev2
  exact hk a2 w2 ρ2 hs2 (hev.trans hev2)
end
structure SOps (P : Program) (N : Nat) (ops : Array Oper) (Q : RL → HL → Nat → Prop) (os : List Oper) (R : RL) (H : HL) (L : Nat) : Prop where
 run : ∀ (r : Option Nat) (n B : Nat) (ρ : Ren) (a : Act) (w : World) (k : Nat) (K : Exit → Act → World → Prop), (∀ j, os[j]? = ops[k + j]?) → Sim N B L ρ (rg R) (hg H) a w → H.length ≤ L →
  (∀ a' w' R' H' L' ρ', Q R' H' L' → H'.length ≤ L' → Sim N B L' ρ' (rg R') (hg H') a' w' → Ev ρ (hg H) w ρ' (hg H') w' → K .normal a' w') → wpOpsIn (Fw r) n P ops K (List.range' k os.length) a w
section
variable {T : TT} {P : Program} {N : Nat} {ops : Array Oper}
theorem sops_end {Q : RL → HL → Nat → Prop} {os : List Oper} {R : RL} {H : HL} {L : Nat} (hT : TOk P T) (hd : dstOk N ops = true) (h : rops T P ops os R H L [] fun R' H' L' _ => Q R' H' L') : SOps P N ops Q os R H L := by
 refine ⟨fun r n B ρ a w k K hos hs hl hK => ?_⟩
 have hN : ∀ (i : Nat) (o : Oper) (d : Nat), ops[i]? = some o → o.dst = some d → d < N := by
  intro i o d ho hdst
  simp only [dstOk, List.all_eq_true] at hd
  have := hd o (by simpa using Array.mem_of_getElem? ho)
  simpa [hdst] using this
 obtain ⟨es, R2, H2, L2, hr2, hl2, hq2⟩ := rops_ok hT h hl
 exact region_text hN os k _ _ _ es ρ a w hos hr2 hs (fun a' w' ρ' hs' hev => hK a' w' R2 H2 L2 ρ' hq2 hl2 hs' hev)
theorem sops_pre {Q : RL → HL → Nat → Prop} {pre os : List Oper} {R : RL} {H : HL} {L : Nat} (hT : TOk P T) (hd : dstOk N ops = true) (h : rops T P ops pre R H L [] fun R' H' L' _ => SOps P N ops Q os R' H' L') : SOps P N ops Q (pre ++ os) R H L := by
 refine ⟨fun r n B ρ a w k K hos hs hl hK => ?_⟩
 have hN : ∀ (i : Nat) (o : Oper) (d : Nat), ops[i]? = some o → o.dst = some d → d < N := by
  intro i o d ho hdst
  simp only [dstOk, List.all_eq_true] at hd
  have := hd o (by simpa using Array.mem_of_getElem? ho)
  simpa [hdst] using this
 obtain ⟨es, R2, H2, L2, hr2, hl2, hq2⟩ := rops_ok hT h hl
 rw [List.length_append, List.range'_append_1.symm]
 refine region_pre hN pre k _ _ _ es ρ a w (fun j hj => by rw [← hos, List.getElem?_append_left hj]) hr2 hs (fun a' w' ρ' hs' hev => ?_)
 refine hq2.run r n B ρ' a' w' (k + pre.length) K (fun j => ?_) hs' hl2 (fun a2 w2 R3 H3 L3 ρ3 hq3 hl3 hs3 hev3 => hK a2 w2 R3 H3 L3 ρ3 hq3 hl3 hs3 (hev.trans hev3))
 have := hos (pre.length + j)
 rw [List.getElem?_append_right (by omega), show pre.length + j - pre.length = j by omega] at this
 rw [this]; congr 1; omega
theorem swp_sops {M : Option Nat → Prop} {A id : Nat} {Q : Exit → RL → HL → Nat → Prop} {R : RL} {H : HL} {L : Nat} {os : List Oper} (ho : ops.toList = os) (h : SOps P N ops (fun R' H' L' => Q .normal R' H' L') os R H L) : SWp P M N A (.region id ops false) Q R H L := by
 refine ⟨fun r nn B ρ a w hM hs hl => ?_⟩
 refine wpIn_region ?_
 have hsz : ops.size = os.length := by rw [← ho]; simp
 rw [List.range_eq_range', hsz]
 exact h.run r nn B ρ a w 0 _ (fun j => by rw [← ho, Array.getElem?_toList, Nat.zero_add]) hs hl (fun a' w' R' H' L' ρ' hq hl' hs' hev => ⟨R', H', L', ρ', hq, hl', hs', hev.toA⟩)
theorem run_conv_same {t el : TypeId} {b n : Nat} {cs : Array Value} (hu : P.underlying t = some (.slice el)) (he : P.underlying el = some (.int .u8)) (w : World) :
  (convert t t (.slice (some ⟨w.heap.size, 0, none⟩) n n)).run P (w.alloc (.cells cs el)) = .ok (.slice (some ⟨w.heap.size, 0, none⟩) n n) (w.alloc (.cells cs el (cs.size, cs.size + 1))) := by
 have hfrz : (w.alloc (.cells cs el)).freeze ⟨w.heap.size, cs.size, none⟩ 1 = w.alloc (.cells cs el (cs.size, cs.size + 1)) := by
  have hh : ((w.alloc (.cells cs el)).freeze ⟨w.heap.size, cs.size, none⟩ 1).heap = (w.alloc (.cells cs el (cs.size, cs.size + 1))).heap := by
   simp only [World.freeze, World.alloc, Nat.one_ne_zero, if_false]
   apply Array.ext_getElem?
   intro j
   rw [Array.getElem?_modify]
   by_cases hj : w.heap.size = j
   ·
    subst hj; simp
   ·
    rw [if_neg hj, Array.getElem?_push, Array.getElem?_push, if_neg (fun e => hj e.symm), if_neg (fun e => hj e.symm)]
  simp only [World.freeze, World.alloc, Nat.one_ne_zero, if_false] at hh ⊢
  rw [hh]
 have hsh : (w.alloc (.cells cs el)).shape? w.heap.size = some (el, cs.size) := by
  have hh := alloc_heap_new w (.cells cs el)
  simp only [World.shape?]
  rw [show (w.alloc (.cells cs el)).heap[w.heap.size]? = some (.cells cs el) from hh]
 have hmark : (markStringish ⟨w.heap.size, 0, none⟩).run P (w.alloc (.cells cs el)) = .ok () ((w.alloc (.cells cs el)).freeze ⟨w.heap.size, cs.size, none⟩ 1) := by
  simp only [markStringish, Sem.run_bind, run_shape, hsh, Result.andThen_ok, run_freeze]
 have hbe : (t == t) = true := by simp
 simp only [convert, Sem.run_bind, run_und hu, run_und he, Result.andThen_ok, hbe, hmark, hfrz, Sem.run_pure]
theorem sops_lit {Q : RL → HL → Nat → Prop} {o1 o2 : Oper} {os : List Oper} {R : RL} {H : HL} {L d1 d2 t n el sz : Nat} {parts : Array (Nat × Operand)} {xs : List (Nat × SV)} {z : SV} {l : List SV} (hd : dstOk N ops = true)
  (ho1 : o1.op = .buildSlice t n parts) (hg1 : o1.guard = none) (hd1 : o1.dst = some d1) (ho2 : o2.op = .convert t t (.tmp d1)) (hg2 : o2.guard = none) (hd2 : o2.dst = some d2)
  (hx : parts.toList.map (fun p => (p.1, evO (rg R) p.2)) = xs.map (fun p => (p.1, some p.2))) (hu : P.underlying t = some (.slice el)) (he : P.underlying el = some (.int .u8)) (hz : pzero P el = some z) (hs : psz P el = some sz) (hzs : z.cells.length = sz)
  (hn : n * sz ≤ 16777216) (hf : sfill (fun i => some (i * sz, sz)) (reps n z.cells) xs = some l)
  (h : SOps P N ops Q os ((d2, .sl L 0 n sz true) :: (d1, .sl L 0 n sz true) :: R) (hupd H [(L, some (.row el l))]) (L + 1)) : SOps P N ops Q (o1 :: o2 :: os) R H L := by
 refine ⟨fun r nn B ρ a w k K hos hsim hl hK => ?_⟩
 have hN : ∀ (i : Nat) (o : Oper) (d : Nat), ops[i]? = some o → o.dst = some d → d < N := by
  intro i o d ho hdst
  simp only [dstOk, List.all_eq_true] at hd
  have := hd o (by simpa using Array.mem_of_getElem? ho)
  simpa [hdst] using this
 have e1 : ops[k]? = some o1 := by have := hos 0; simpa using this.symm
 have e2 : ops[k + 1]? = some o2 := by have := hos 1; simpa using this.symm
 have h1 : ∀ x ∈ o1.op.operands, ∀ v, evO (rg R) x = some v → Rel ρ v (a.eval x) := fun x hx v hv => by
  cases x with
  | tmp t => exact hsim.regs t v hv
  | const u => exact (ofVal_rel hv).1
  | func f => simp only [evO, Option.some.injEq] at hv; subst hv; simp only [Rel]; exact ⟨[], rfl, Rels.nil_iff.2 rfl⟩
  | global g => cases hv
 obtain ⟨e, hee⟩ : ∃ e : Operand → Value, e = a.eval := ⟨_, rfl⟩
 rw [← hee] at h1
 obtain ⟨i, v, hi, hv, hr, ht⟩ := zero_of hz
 obtain ⟨zr, za⟩ := (hr ρ).cells_rel ht
 have hzl := zr.length
 simp only [Array.length_toList] at hzl
 obtain ⟨mr, ma⟩ := made_rel zr za n
 rw [hzl, hzs] at mr
 obtain ⟨cs, g1, g2, g3⟩ := fill_ok (relParts_map (parts_ops (fun x hx => by obtain ⟨p, hp, rfl⟩ := hx; simp [ho1, Op.operands]; exact ⟨p.1, by simpa using hp⟩) h1) hx) mr ma hf
 have hcl := g2.length
 simp only [Array.length_toList] at hcl
 have hlen : l.length = n * sz := by
  have : ∀ (ys : List (Nat × SV)) (l l' : List SV), sfill (fun i => some (i * sz, sz)) l ys = some l' → l'.length = l.length := by
   intro ys
   induction ys with
   | nil => intro l l' h; simp only [sfill, Option.some.injEq] at h; rw [h]
   | cons y ys ih =>
    intro l l' h
    obtain ⟨i, y⟩ := y
    simp only [sfill] at h
    split at h
    ·
     rename_i hc
     rw [ih _ _ h, sput_eq _ _ _ (by omega)]
     simp; omega
    ·
     cases h
  rw [this _ _ _ hf, reps_length, hzs]
 rw [← map_parts] at g1
 have hrun1 : (execOp a.eval o1).run P w = .ok (.value (.slice (some ⟨w.heap.size, 0, none⟩) n n)) (w.alloc (.cells cs el)) := by
  rw [← hee]
  simp only [execOp, ho1, Sem.run_bind, run_buildSlice' hu hs hi hv hn g1, Result.andThen_ok, Sem.run_pure]
 have hch : Chg ρ (hg H) w [(L, some (.row el l))] (setR ρ L ⟨w.heap.size, 0, cs.size, false⟩) (w.alloc (.cells cs el (cs.size, cs.size + 1))) :=
  Chg.row w.drawn (hsim.fresh L (Nat.le_refl _)) g3 (by rw [List.take_of_length_le (by simp; omega)]; exact g2) (by omega) (.inr (Nat.le_refl _))
 have hrel : Rel (setR ρ L ⟨w.heap.size, 0, cs.size, false⟩) (.sl L 0 n sz true) (.slice (some ⟨w.heap.size, 0, none⟩) n n) := by
  simp only [Rel]
  exact ⟨_, _, n, setR_same _ _ _, rfl, Nat.le_refl _, fun _ => rfl, .inr ⟨rfl, rfl, by simp only; omega⟩⟩
 rw [List.length_cons, List.length_cons, List.range'_succ, List.range'_succ, wpOpsIn_cons]
 have hw1 : Region.wanted o1 (yielded ops a.tmps) = true := by unfold Region.wanted; simp only [hg1]
 unfold wpOpIn
 simp only [e1, hw1, if_true]
 refine ⟨fun _ _ => trivial, ?_⟩
 rw [Oper.semAt_eq _ _ _ (by simp [ho1]), hrun1]
 show wpOpsIn (Fw r) nn P ops K ((k + 1) :: List.range' (k + 1 + 1) os.length) (a.put o1.dst (.slice (some ⟨w.heap.size, 0, none⟩) n n)) (w.alloc (.cells cs el))
 rw [wpOpsIn_cons]
 obtain ⟨a1, ha1⟩ : ∃ a1, a1 = a.put o1.dst (.slice (some ⟨w.heap.size, 0, none⟩) n n) := ⟨_, rfl⟩
 rw [← ha1]
 have hw2 : Region.wanted o2 (yielded ops a1.tmps) = true := by unfold Region.wanted; simp only [hg2]
 unfold wpOpIn
 simp only [e2, hw2, if_true]
 refine ⟨fun _ _ => trivial, ?_⟩
 have hd1N : d1 < a.tmps.size := by rw [hsim.size]; exact hN k o1 d1 e1 hd1
 have hev : a1.eval (.tmp d1) = .slice (some ⟨w.heap.size, 0, none⟩) n n := by
  rw [ha1, hd1]
  show (a.tmps.setIfInBounds d1 _).getD d1 undef = _
  rw [Array.getD_eq_getD_getElem?, Array.getElem?_setIfInBounds_self_of_lt hd1N]; rfl
 have hrun2 : (execOp a1.eval o2).run P (w.alloc (.cells cs el)) = .ok (.value (.slice (some ⟨w.heap.size, 0, none⟩) n n)) (w.alloc (.cells cs el (cs.size, cs.size + 1))) := by
  simp only [execOp, ho2, hev, Sem.run_bind, run_conv_same (b := 0) hu he w, Result.andThen_ok, Sem.run_pure]
 rw [Oper.semAt_eq _ _ _ (by simp [ho2]), hrun2]
 show wpOpsIn (Fw r) nn P ops K (List.range' (k + 1 + 1) os.length) (a1.put o2.dst (.slice (some ⟨w.heap.size, 0, none⟩) n n)) (w.alloc (.cells cs el (cs.size, cs.size + 1)))
 have hnL : ∀ id ob, (id, ob) ∈ [(L, some (SB.row el l))] → id < L + 1 := fun id ob hm => by simp at hm; omega
 obtain ⟨s1, ev1⟩ := step_put (o := o1) (e := ⟨⟨o1.dst, [], [], [L]⟩, some (.sl L 0 n sz true), [(L, some (.row el l))]⟩) (L' := L + 1) rfl (fun d hd => hN k o1 d e1 hd) hsim (by omega) hnL hch (rv := .slice (some ⟨w.heap.size, 0, none⟩) n n) (fun v hv => by cases hv; exact hrel)
 rw [appL_wr rfl, ← updW_app, ← hg_hupd, ← ha1] at s1
 rw [← updW_app, ← hg_hupd] at ev1
 obtain ⟨s2, ev2⟩ := step_put (o := o2) (e := ⟨⟨o2.dst, [], [], []⟩, some (.sl L 0 n sz true), []⟩) (L' := L + 1) rfl (fun d hd => hN (k + 1) o2 d e2 hd) s1 (Nat.le_refl _) (fun id ob hm => by simp at hm) (Chg.zero _ _ _) (rv := .slice (some ⟨w.heap.size, 0, none⟩) n n) (fun v hv => by cases hv; exact hrel)
 rw [appL_wr rfl, ← updW_app, ← hg_hupd] at s2
 rw [← updW_app, ← hg_hupd] at ev2
 have hr1 : rput R o1.dst (some (.sl L 0 n sz true)) = (d1, .sl L 0 n sz true) :: R := by rw [hd1]; rfl
 have hr2 : ∀ R', rput R' o2.dst (some (.sl L 0 n sz true)) = (d2, .sl L 0 n sz true) :: R' := fun R' => by rw [hd2]; rfl
 rw [hr1, hr2] at s2
 have hz0 : hupd (hupd H [(L, some (.row el l))]) [] = hupd H [(L, some (.row el l))] := rfl
 rw [hz0] at s2 ev2
 refine h.run r nn B _ _ _ (k + 1 + 1) K (fun j => ?_) s2 (hupd_le (by omega) hnL) (fun a2 w2 R3 H3 L3 ρ3 hq3 hl3 hs3 hev3 => hK a2 w2 R3 H3 L3 ρ3 hq3 hl3 hs3 ((ev1.trans ev2).trans hev3))
 have := hos (j + 2)
 simp only [List.getElem?_cons_succ] at this
 rw [this]; congr 1; omega
end
def memN : Nat → List Nat → Bool
 | _, [] => false
 | x, y :: ys => match Nat.beq x y with | true => true | false => memN x ys
def swxs (J : List Nat) (T : TT) (P : Program) (M : Option Nat → Prop) (N A : Nat) (c : Code) : (Exit → RL → HL → Nat → Prop) → RL → HL → Nat → Prop :=
 @Code.rec (fun _ => (Exit → RL → HL → Nat → Prop) → RL → HL → Nat → Prop)
  (fun Q => Q .normal)
  (fun id ops draw Q R H L => match memN id J with
   | true => SWp P M N A (.region id ops draw) Q R H L
   | false => sw T P M N A (.region id ops draw) Q R H L)
  (fun _ _ iha ihb Q => iha fun e => match e with | .normal => ihb Q | e => Q e)
  (fun c _ _ ihx ihy Q R H L => match ev R c with
   | some (.b t) => (t = true → ihx Q R H L) ∧ (t = false → ihy Q R H L)
   | _ => False)
  (fun id _ ih Q => ih fun e => match e with
   | .exit i => match Nat.beq i id with | true => Q .normal | false => Q (.exit i)
   | e => Q e)
  (fun c _ Q => SWp P M N A (.loop c) Q)
  (fun f ps x y _ _ Q => SWp P M N A (.rangeFunc f ps x y) Q)
  (fun id Q => Q (.exit id))
  (fun c _ Q => SWp P M N A (.scope c) Q)
  (fun l Q => SWp P M N A (.label l) Q)
  (fun l Q => SWp P M N A (.goto l) Q)
  (fun Q => Q .ret)
  (fun s Q => SWp P M N A (.refuse s) Q) c
theorem swxs_ok {J : List Nat} {T : TT} {P : Program} {M : Option Nat → Prop} {N A : Nat} (hT : TOk P T) (hm : P.follows .mixedOrders = true) : ∀ {c : Code} {Q : Exit → RL → HL → Nat → Prop} {R : RL} {H : HL} {L : Nat}, codeOk N c = true →
  swxs J T P M N A c Q R H L → SWp P M N A c Q R H L
 | .skip, Q, R, H, L, _, h => ⟨fun r n B ρ a w hM hs hl => wpIn_skip ⟨R, H, L, ρ, h, hl, hs, EvA.refl _ _ _ _⟩⟩
 | .exit id, Q, R, H, L, _, h => ⟨fun r n B ρ a w hM hs hl => wpIn_exit ⟨R, H, L, ρ, h, hl, hs, EvA.refl _ _ _ _⟩⟩
 | .ret, Q, R, H, L, _, h => ⟨fun r n B ρ a w hM hs hl => wpIn_ret ⟨R, H, L, ρ, h, hl, hs, EvA.refl _ _ _ _⟩⟩
 | .region id ops draw, Q, R, H, L, hc, h => by
  have h : (match memN id J with
   | true => SWp P M N A (.region id ops draw) Q R H L
   | false => sw T P M N A (.region id ops draw) Q R H L) := h
  cases hb : memN id J with
  | true => rw [hb] at h; exact h
  | false => rw [hb] at h; exact sw_ok hT hm hc h
 | .seq x y, Q, R, H, L, hc, h => by
  simp only [codeOk, Bool.and_eq_true] at hc
  have h : swxs J T P M N A x (fun e => match e with | .normal => swxs J T P M N A y Q | e => Q e) R H L := h
  exact (swxs_ok hT hm hc.1 h).seq (fun R H L h => swxs_ok hT hm hc.2 h) (fun e R H L hne h => by cases e <;> first | exact absurd rfl hne | exact h)
 | .cond c x y, Q, R, H, L, hc, h => by
  simp only [codeOk, Bool.and_eq_true] at hc
  have h : (match ev R c with
   | some (.b t) => (t = true → swxs J T P M N A x Q R H L) ∧ (t = false → swxs J T P M N A y Q R H L)
   | _ => False) := h
  split at h
  ·
   rename_i t ht
   refine ⟨fun r n B ρ a w hM hs hl => ?_⟩
   have hcv : a.eval c = .bool t := by
    cases c with
    | tmp k =>
     have h1 := hs.regs k (.b t) (by rw [rg, ← lk_eq]; exact ht)
     simp only [Rel] at h1
     exact h1
    | const v =>
     have h1 := (ofVal_rel (ρ := ρ) ht).1
     simp only [Rel] at h1
     exact h1
    | func f => cases ht
    | global g => cases ht
   refine wpIn_cond_split hcv (fun ht => (swxs_ok hT hm hc.1 (h.1 ht)).run r n B ρ a w hM hs hl) (fun ht => (swxs_ok hT hm hc.2 (h.2 ht)).run r n B ρ a w hM hs hl)
  ·
   exact h.elim
 | .block id c, Q, R, H, L, hc, h => by
  refine ⟨fun r n B ρ a w hM hs hl => ?_⟩
  have h : swxs J T P M N A c (fun e => match e with
   | .exit i => match Nat.beq i id with | true => Q .normal | false => Q (.exit i)
   | e => Q e) R H L := h
  simp only [codeOk] at hc
  refine wpIn_block (wpIn_mono ((swxs_ok hT hm hc h).run r n B ρ a w hM hs hl) ?_)
  rintro e a2 w2 ⟨R2, H2, L2, ρ2, hq2, rest⟩
  cases e with
  | exit i =>
   simp only [Exit.inBlock]
   cases hb : Nat.beq i id with
   | true => simp only [hb] at hq2; rw [if_pos (beqE hb)]; exact ⟨R2, H2, L2, ρ2, hq2, rest⟩
   | false => simp only [hb] at hq2; rw [if_neg (fun e => by subst e; simp at hb)]; exact ⟨R2, H2, L2, ρ2, hq2, rest⟩
  | _ => exact ⟨R2, H2, L2, ρ2, hq2, rest⟩
 | .loop c, Q, R, H, L, _, h => h
 | .rangeFunc f ps x y, Q, R, H, L, _, h => h
 | .scope c, Q, R, H, L, _, h => h
 | .label l, Q, R, H, L, _, h => h
 | .goto l, Q, R, H, L, _, h => h
 | .refuse s, Q, R, H, L, _, h => h
end Go.Sh
namespace Go.Sh
open Go.Proofs
section
variable {P : Program} {ρ : Ren} {H : Heap} {w : World}
theorem app_row2 {o : Oper} {x y : Operand} {t xT el sz by_ id nid n m : Nat} {full : Bool} {z : SV} {l ys : List SV} {rb : RB} {e : Operand → Value} (ho : o.op = .call { callee := .builtin .append, args := #[x, y], argTypes := #[t, xT] })
  (hty : AppTy P t xT el sz by_ z) (hx : Rel ρ (.sl id 0 n sz full) (e x)) (hid : H id = some (.row el l)) (hr : ρ id = some rb) (hb : BRel ρ w rb (.row el l)) (hln : n * sz = l.length) (hsrc : Src P ρ w (e y) sz m ys)
  (hm : (n + m) * by_ ≤ 140737488355328) (hm0 : 0 < m) (hn : ρ nid = none) :
  ∃ v w', (execOp e o).run P w = .ok (.value v) w' ∧ ((Chg ρ H w [(id, some (.row el (l ++ ys)))] ρ w' ∧ Rel ρ (.sl id 0 (n + m) sz false) v) ∨ (∃ ρ', Chg ρ H w [(nid, some (.row el (l ++ ys)))] ρ' w' ∧ Rel ρ' (.sl nid 0 (n + m) sz false) v)) := by
 obtain ⟨i, v, dx, hi, hv, hvs, his, hib, hdx, hdx2⟩ := hty.facts
 have hsrcx : Src P ρ w (e x) sz n ((l.drop 0).take (n * sz)) := src_sl hx hr hb (by show 0 + n * sz ≤ l.length; omega)
 rw [List.drop_zero, hln, List.take_length] at hsrcx
 obtain ⟨news, hl, hf, hrn, ha, hlen, _⟩ := hsrc
 obtain ⟨olds, _, hfo, hro, hao, hleno, _⟩ := hsrcx
 have hl0 := hl w.drawn
 have hf0 := hf w.drawn
 have hf1 := hf (w.drawn + 1)
 have hfo1 := hfo (w.drawn + 1)
 have hnl := hrn.length
 have hx0 := hx
 simp only [Rel] at hx
 obtain ⟨rb', a, c, hr', he, hnc, hfull, hdis⟩ := hx
 rw [hr] at hr'; cases hr'
 by_cases hroom : n + m ≤ c
 ·
  have hc0 : c ≠ 0 := by omega
  obtain ⟨hvirt, ha2, hcap⟩ := hdis.resolve_left hc0
  rcases hb with ⟨hv1, _⟩ | ⟨_, ca, fz, hca, hz, hcs, hla, hlr, hll⟩
  ·
   rw [hvirt] at hv1; cases hv1
  have hcm : (n + m) * sz ≤ c * sz := Nat.mul_le_mul_right _ hroom
  rw [Nat.add_mul] at hcm
  have hst := run_puts (P := P) (o := rb.off + n * sz) news 0 hca hz (by omega) (hrn.oneCell ha)
  have hps : (putAt ca (rb.off + n * sz) news).size = ca.size := putAt_size _ _ _ (by omega)
  refine ⟨.slice a (n + m) c, World.putCells w rb.blk (rb.off + n * sz) news, app_run ho ?_, .inl ⟨?_, ?_⟩⟩
  ·
   rw [he, app_room hty.hT hdx hdx2 hty.hs hl0 hf0 hroom, ha2]
   simp only [add_addr, Nat.add_zero, hst]
   rfl
  ·
   refine Chg.put hid hr rfl ?_ (.inr ⟨hvirt, _, fz, World.putCells_heap w rb.blk _ news hca, hz.put _ _ (by omega), ?_, ?_, ?_, ?_⟩) ?_
   ·
    rintro i o2 ⟨h1, h2, h3⟩
    exact ⟨h1, h2, h3⟩
   ·
    rw [hps]; omega
   ·
    simp [atoms] at hao ha ⊢; exact ⟨hao, ha⟩
   ·
    have e1 : ((putAt ca (rb.off + n * sz) news).toList.drop rb.off).take (l ++ ys).length = List.take l.length (ca.toList.drop rb.off) ++ news := by
     have h1 : (l ++ ys).length = n * sz + news.length := by rw [List.length_append, hnl, hln]
     rw [h1]
     apply List.ext_getElem?
     intro j
     by_cases hj : j < n * sz + news.length
     ·
      rw [drop_take_get hj, Array.getElem?_toList, putAt_getElem? _ _ _ (by omega)]
      by_cases h2 : j < n * sz
      ·
       rw [if_neg (by omega)]
       rw [List.getElem?_append_left (by simp; omega), List.getElem?_take_of_lt (by omega), List.getElem?_drop, Array.getElem?_toList]
      ·
       rw [if_pos (by omega)]
       rw [List.getElem?_append_right (by simp; omega)]
       congr 1
       simp; omega
     ·
      rw [List.getElem?_eq_none (by simp; omega)]
      rw [List.getElem?_eq_none (by simp; omega)]
    rw [e1]
    exact hlr.append hrn
   ·
    simp only [List.length_append, hlen]; omega
   ·
    exact Fr.putCells _ _ _ _ _ hca (by omega) (fun o2 h1 h2 => ⟨hvirt, rfl, by omega⟩)
  ·
   simp only [Rel]
   refine ⟨_, a, c, hr, rfl, hroom, fun h => (by cases h), .inr ⟨hvirt, by rw [ha2], by omega⟩⟩
 ·
  rw [he] at hfo1
  have hg := app_grow (ty := o.type) (a := a) (n := n) (c := c) hty.hT hdx hdx2 hi hv his hl0 hf1 hfo1 (by omega) (by rw [hib]; exact hty.hb0) (by rw [hib]; exact growslice_fits (by omega) hm)
  have hge := grownCap_ge w (n + m) c el
  obtain ⟨g1, g2⟩ := grown_row (ρ := ρ) (w := w) (nid := nid) (el := el) hro hao hrn ha hln.symm hlen hvs hge
  exact ⟨_, _, app_run ho (by rw [he]; exact hg), .inr ⟨_, Chg.new (w.drawn + 1) hn rfl g1, g2⟩⟩
end
section
variable {T : TT} {P : Program} {N : Nat} {ops : Array Oper}
theorem wanted_of_gpass {B L : Nat} {o : Oper} {R : Env} {H : Heap} {ρ : Ren} {a : Act} {w : World} {t : Bool} (hs : Sim N B L ρ R H a w) (ht : gpass ops o R = some t) : Region.wanted o (yielded ops a.tmps) = t := by
 unfold gpass at ht
 unfold Region.wanted
 split at ht
 ·
  rename_i hgd; simp only [hgd]; cases ht; rfl
 ·
  rename_i j want hgd
  simp only [hgd]
  cases hsl : (ops[j]?).bind (·.dst) with
  | none => rw [hsl] at ht; cases ht
  | some s =>
   rw [hsl] at ht
   simp only [Option.bind_some] at ht
   cases hRs : R s with
   | none => rw [hRs] at ht; cases ht
   | some v =>
    rw [hRs] at ht
    cases v with
    | b b =>
     have hrel := hs.regs s _ hRs
     simp only [Rel] at hrel
     have hyi : yielded ops a.tmps j = some b := by
      unfold yielded
      rw [hsl, Option.bind_some]
      have hsz : s < a.tmps.size := by
       refine Nat.lt_of_not_le fun hlt => ?_
       rw [Array.getD_eq_getD_getElem?, Array.getElem?_eq_none hlt] at hrel
       cases hrel
      have : a.tmps[s]? = some (.bool b) := by
       rw [Array.getD_eq_getD_getElem?, Array.getElem?_eq_getElem hsz] at hrel
       rw [Array.getElem?_eq_getElem hsz]; exact congrArg some hrel
      rw [this]
     rw [hyi]
     cases ht
     cases b <;> cases want <;> rfl
    | tup l =>
     cases l with
     | cons _ _ => cases ht
     | nil =>
      cases ht
      have hrel := hs.regs s _ hRs
      simp only [Rel, Rels] at hrel
      obtain ⟨cs, e, rfl⟩ := hrel
      have hyi : yielded ops a.tmps j = none := by
       unfold yielded
       rw [hsl, Option.bind_some]
       cases hg : a.tmps[s]? with
       | none => rfl
       | some x => rw [Array.getD_eq_getD_getElem?, hg] at e; simp only [Option.getD_some] at e; subst e; rfl
      rw [hyi]
      cases want <;> rfl
    | _ => cases ht
theorem sops_app2 {Q : RL → HL → Nat → Prop} {o : Oper} {os : List Oper} {R : RL} {H : HL} {L d t xT el sz by_ id id2 n m o2 : Nat} {full full2 : Bool} {x y : Operand} {z : SV} {l : List SV} {b : SB} (hd : dstOk N ops = true)
  (ho : o.op = .call { callee := .builtin .append, args := #[x, y], argTypes := #[t, xT] }) (hgp : gpass ops o (rg R) = some true) (hdst : o.dst = some d) (hty : AppTy P t xT el sz by_ z)
  (hx : evO (rg R) x = some (.sl id 0 n sz full)) (hid : hg H id = some (.row el l)) (hln : n * sz = l.length) (hy : evO (rg R) y = some (.sl id2 o2 m sz full2)) (hb : hg H id2 = some b) (hin : o2 + m * sz ≤ b.cells.length)
  (hm : (n + m) * by_ ≤ 140737488355328) (hm0 : 0 < m) (hidL : id < L)
  (hA : SOps P N ops Q os ((d, .sl id 0 (n + m) sz false) :: R) (hupd H [(id, some (.row el (l ++ (b.cells.drop o2).take (m * sz))))]) L)
  (hB : SOps P N ops Q os ((d, .sl L 0 (n + m) sz false) :: R) (hupd H [(L, some (.row el (l ++ (b.cells.drop o2).take (m * sz))))]) (L + 1)) : SOps P N ops Q (o :: os) R H L := by
 refine ⟨fun r nn B ρ a w k K hos hsim hl hK => ?_⟩
 have hN : ∀ (i : Nat) (o : Oper) (d : Nat), ops[i]? = some o → o.dst = some d → d < N := by
  intro i o d ho hdst
  simp only [dstOk, List.all_eq_true] at hd
  have := hd o (by simpa using Array.mem_of_getElem? ho)
  simpa [hdst] using this
 have e1 : ops[k]? = some o := by have := hos 0; simpa using this.symm
 have h1 : ∀ x v, evO (rg R) x = some v → Rel ρ v (a.eval x) := fun x v hv => by
  cases x with
  | tmp t => exact hsim.regs t v hv
  | const u => exact (ofVal_rel hv).1
  | func f => simp only [evO, Option.some.injEq] at hv; subst hv; simp only [Rel]; exact ⟨[], rfl, Rels.nil_iff.2 rfl⟩
  | global g => cases hv
 obtain ⟨rb, hr, hbr⟩ := hsim.heap id _ hid
 obtain ⟨rb2, hr2, hbr2⟩ := hsim.heap id2 _ hb
 obtain ⟨v, w', hrun, hcase⟩ := app_row2 (e := a.eval) (nid := L) ho hty (h1 x _ hx) hid hr hbr hln (src_sl (h1 y _ hy) hr2 hbr2 hin) hm hm0 (hsim.fresh L (Nat.le_refl _))
 rw [List.length_cons, List.range'_succ, wpOpsIn_cons]
 have hw1 := wanted_of_gpass hsim hgp
 unfold wpOpIn
 simp only [e1, hw1, if_true]
 refine ⟨fun _ _ => trivial, ?_⟩
 rw [Oper.semAt_eq _ _ _ (by simp [ho]), hrun]
 show wpOpsIn (Fw r) nn P ops K (List.range' (k + 1) os.length) (a.put o.dst v) w'
 have hos' : ∀ j, os[j]? = ops[k + 1 + j]? := fun j => by
  have := hos (j + 1)
  simp only [List.getElem?_cons_succ] at this
  rw [this]; congr 1; omega
 rcases hcase with ⟨hch, hrel⟩ | ⟨ρ', hch, hrel⟩
 ·
  have hnL : ∀ i ob, (i, ob) ∈ [(id, some (SB.row el (l ++ (b.cells.drop o2).take (m * sz))))] → i < L := fun i ob hm => by simp at hm; omega
  obtain ⟨s1, ev1⟩ := step_put (o := o) (e := ⟨⟨o.dst, [], [], [id]⟩, some (.sl id 0 (n + m) sz false), [(id, some (.row el (l ++ (b.cells.drop o2).take (m * sz))))]⟩) (L' := L) rfl (fun d hd => hN k o d e1 hd) hsim (Nat.le_refl _) hnL hch (rv := v) (fun v hv => by cases hv; exact hrel)
  rw [appL_wr rfl, ← updW_app, ← hg_hupd] at s1
  rw [← updW_app, ← hg_hupd] at ev1
  have hr1 : rput R o.dst (some (.sl id 0 (n + m) sz false)) = (d, .sl id 0 (n + m) sz false) :: R := by rw [hdst]; rfl
  rw [hr1] at s1
  exact hA.run r nn B _ _ _ (k + 1) K hos' s1 (hupd_le hl hnL) (fun a2 w2 R3 H3 L3 ρ3 hq3 hl3 hs3 hev3 => hK a2 w2 R3 H3 L3 ρ3 hq3 hl3 hs3 (ev1.trans hev3))
 ·
  have hnL : ∀ i ob, (i, ob) ∈ [(L, some (SB.row el (l ++ (b.cells.drop o2).take (m * sz))))] → i < L + 1 := fun i ob hm => by simp at hm; omega
  obtain ⟨s1, ev1⟩ := step_put (o := o) (e := ⟨⟨o.dst, [], [], [L]⟩, some (.sl L 0 (n + m) sz false), [(L, some (.row el (l ++ (b.cells.drop o2).take (m * sz))))]⟩) (L' := L + 1) rfl (fun d hd => hN k o d e1 hd) hsim (by omega) hnL hch (rv := v) (fun v hv => by cases hv; exact hrel)
  rw [appL_wr rfl, ← updW_app, ← hg_hupd] at s1
  rw [← updW_app, ← hg_hupd] at ev1
  have hr1 : rput R o.dst (some (.sl L 0 (n + m) sz false)) = (d, .sl L 0 (n + m) sz false) :: R := by rw [hdst]; rfl
  rw [hr1] at s1
  exact hB.run r nn B _ _ _ (k + 1) K hos' s1 (hupd_le (by omega) hnL) (fun a2 w2 R3 H3 L3 ρ3 hq3 hl3 hs3 hev3 => hK a2 w2 R3 H3 L3 ρ3 hq3 hl3 hs3 (ev1.trans hev3))
end
end Go.Sh
namespace Go.Sh
open Go.MapKept
def valO : SV → Option Value
 | .i n => some (.int .i64 n)
 | .u8 x => some (.int .u8 (x.toNat : Int))
 | .u16 x => some (.int .u16 (x.toNat : Int))
 | .u32 x => some (.int .u32 (x.toNat : Int))
 | .u64 x => some (.int .u64 (x.toNat : Int))
 | .b x => some (.bool x)
 | .s l => some (.string ⟨⟨l⟩⟩)
 | _ => none
def valL : List SV → Option (List Value)
 | [] => some []
 | x :: xs => match valO x with
  | some v => match valL xs with | some vs => some (v :: vs) | none => none
  | none => none
def valOf : SV → Option Value
 | .agg l => match valL l with | some c => some (.agg ⟨c⟩) | none => none
 | x => valO x
theorem valO_rel {ρ : Ren} {x : SV} {u : Value} (h : valO x = some u) : (∀ v, Rel ρ x v ↔ v = u) ∧ x.atom = true := by
 cases x <;> simp only [valO, Option.some.injEq] at h <;> first | (subst h; exact ⟨fun v => by simp only [Rel], rfl⟩) | cases h
theorem valL_rel {ρ : Ren} : ∀ {l : List SV} {c : List Value}, valL l = some c → (∀ vs, Rels ρ l vs ↔ vs = c) ∧ atoms l = true
 | [], c, h => by simp only [valL, Option.some.injEq] at h; subst h; exact ⟨fun vs => by simp only [Rels], rfl⟩
 | x :: xs, c, h => by
  simp only [valL] at h
  split at h
  ·
   rename_i v hv
   split at h
   ·
    rename_i vs hvs
    cases h
    obtain ⟨h1, a1⟩ := valO_rel (ρ := ρ) hv
    obtain ⟨h2, a2⟩ := valL_rel (ρ := ρ) hvs
    refine ⟨fun us => ?_, by simp only [atoms, List.all_cons, a1, Bool.true_and]; exact a2⟩
    simp only [Rels]
    constructor
    ·
     rintro ⟨y, ys, rfl, hy, hys⟩; rw [(h1 y).1 hy, (h2 ys).1 hys]
    ·
     rintro rfl; exact ⟨v, vs, rfl, (h1 v).2 rfl, (h2 vs).2 rfl⟩
   ·
    cases h
  ·
   cases h
theorem valOf_rel {ρ : Ren} {x : SV} {u v : Value} (h : valOf x = some u) : Rel ρ x v ↔ v = u := by
 cases x with
 | agg l =>
  simp only [valOf] at h
  split at h
  ·
   rename_i c hc
   cases h
   obtain ⟨h1, a1⟩ := valL_rel (ρ := ρ) hc
   simp only [Rel, a1, true_and]
   constructor
   ·
    rintro ⟨cs, rfl, hr⟩; rw [(h1 cs).1 hr]
   ·
    rintro rfl; exact ⟨c, rfl, (h1 c).2 rfl⟩
  ·
   cases h
 | _ => simp only [valOf] at h; exact (valO_rel (ρ := ρ) h).1 v
section
variable {P : Program} {ρ : Ren} {H : Heap} {w w' : World}
theorem Chg.newObj {nid : Nat} {o : Obj} (hn : ρ nid = none) (ho : 2 ≤ mutK o) : Chg ρ H w [(nid, some (.ext (.lit o)))] (setR ρ nid ⟨w.heap.size, 0, 0, false⟩) (w.alloc o) := by
 have he : Ext ρ (setR ρ nid ⟨w.heap.size, 0, 0, false⟩) := Ext.setR _ hn
 refine ⟨he, ?_, ?_, Fr.alloc _ _ _, ?_, ?_⟩
 ·
  intro id r hr
  by_cases e : id = nid
  ·
   subst e; exact .inr ⟨_, List.mem_singleton.2 rfl⟩
  ·
   rw [setR_other ρ _ e] at hr; exact .inl hr
 ·
  intro id x hx
  simp at hx
  obtain ⟨rfl, rfl⟩ := hx
  exact ⟨_, setR_same _ _ _, ⟨ho, rfl⟩, alloc_heap_new w o⟩
 ·
  intro id x r k o2 hm hr hf
  simp at hm
  obtain ⟨rfl, rfl⟩ := hm
  rw [setR_same] at hr; cases hr
  right
  simp only [foot, YB.foot] at hf
  omega
 ·
  intro i j bi bj ri rj hne hi hj
  simp at hi hj
  exact absurd (hi.1.trans hj.1.symm) hne
theorem Chg.putObj {id : Nat} {o o' : Obj} {rb : RB} (hid : H id = some (.ext (.lit o))) (hr : ρ id = some rb) (hb : w.heap[rb.blk]? = some o) (hoff : rb.off = 0) (ho : 2 ≤ mutK o) (hk : mutK o' = mutK o) :
  Chg ρ H w [(id, some (.ext (.lit o')))] ρ { w with heap := w.heap.setIfInBounds rb.blk o' } := by
 obtain ⟨s1, s2⟩ := heap_set (o' := o') hb
 refine Chg.put hid hr rfl (fun k o h => h) ⟨⟨by omega, hoff⟩, s1⟩ ⟨rfl, rfl, rfl, by simp, fun k x hx => ?_⟩
 by_cases hk2 : k = rb.blk
 ·
  subst hk2
  rw [hb] at hx; cases hx
  show FrO _ o (w.heap.setIfInBounds rb.blk o')[rb.blk]?
  rw [s1]
  cases o with
  | cells c t fz => simp [mutK] at ho
  | _ => exact .inr ⟨⟨0, rfl⟩, by omega, _, rfl, hk⟩
 ·
  show FrO _ x (w.heap.setIfInBounds rb.blk o')[k]?
  rw [s2 k hk2, hx]; exact FrO.refl _ _
theorem lt_makeMap {o : Oper} {R : Env} {t nid : Nat} (ho : o.op = .makeMap t none) : LT P o R H [] [(nid, some (.ext (.lit (.map #[] 0))))] (some (.mp nid)) := by
 refine LT.of_run (by simp [ho]) fun e w ρ _ _ _ hn => ?_
 refine ⟨.value (.map (some w.heap.size)), w.alloc (.map #[] 0), _, by simp only [execOp, ho, Option.map_none]; rfl, Chg.newObj (hn nid (some (.ext (.lit (.map #[] 0)))) (by simp) (by simp)) (by simp [mutK]), .inl ⟨_, rfl, ?_⟩⟩
 intro v hv; cases hv
 simp only [Rel]
 exact ⟨_, setR_same _ _ _, rfl⟩
theorem lt_insert {o : Oper} {R : Env} {t kt et id : Nat} {m k x : Operand} {d : TypeDesc} {zk zx : SV} {vk vx : Value} {es : Array MapEntry} {clock : Nat} (ho : o.op = .insert t m k x ∨ o.op = .mapUpdate t m k x)
  (hm : P.underlying t = some (.map kt et)) (hd : P.underlying kt = some d) (em : evO R m = some (.mp id)) (ek : evO R k = some zk) (ex : evO R x = some zx) (hvk : valOf zk = some vk) (hx : valOf zx = some vx)
  (hb : H id = some (.ext (.lit (.map es clock)))) (hkey : IsKey d vk) (hf : Instr.findNow d vk es.toList 0 = some none) :
  LT P o R H [id] [(id, some (.ext (.lit (.map (es.push ⟨vk, vx, clock⟩) (clock + 1)))))] none := by
 refine LT.of_run (by rcases ho with h | h <;> simp [h]) fun e w ρ h1 h2 _ _ => ?_
 have g1 := h1 m (by rcases ho with h | h <;> simp [h, Op.operands]) _ em
 have g2 := (valOf_rel hvk).1 (h1 k (by rcases ho with h | h <;> simp [h, Op.operands]) _ ek)
 have g3 := (valOf_rel hx).1 (h1 x (by rcases ho with h | h <;> simp [h, Op.operands]) _ ex)
 simp only [Rel] at g1
 obtain ⟨rb, hr, he⟩ := g1
 obtain ⟨rb', hr', hbr⟩ := h2 id (by simp) _ hb
 rw [hr] at hr'; cases hr'
 obtain ⟨⟨_, hoff⟩, hw⟩ := hbr
 refine ⟨.skip, _, ρ, ?_, Chg.putObj hb hr hw hoff (by simp [mutK]) (by simp [mutK]), .inr ⟨rfl, rfl⟩⟩
 have hun : ∀ (t : TypeId) (d : TypeDesc), P.underlying t = some d → (underlying t).run P w = .ok d w := fun t d h => run_und h
 have key : (Instr.mapUpdate t (.map (some rb.blk)) vk vx).run P w = .ok () { w with heap := w.heap.setIfInBounds rb.blk (.map (es.push ⟨vk, vx, clock⟩) (clock + 1)) } := by
  simp only [Instr.mapUpdate, Sem.run_bind, hun _ _ hm, MapKept.run_getObj_map hw, MapKept.run_checkKey hd hkey, MapKept.run_findKey hd hf, MapKept.run_setObj_map _ hw, Result.andThen_ok]
 rcases ho with h | h <;> simp only [execOp, h, he, g2, g3, Sem.run_bind, key, Result.andThen_ok, Sem.run_pure]
theorem lt_lookup {o : Oper} {R : Env} {t kt et id : Nat} {m k : Operand} {d : TypeDesc} {zk zv : SV} {vk v : Value} {i : Nat} {es : Array MapEntry} {clock : Nat} (ho : o.op = .lookup t m k true)
  (hm : P.underlying t = some (.map kt et)) (hd : P.underlying kt = some d) (em : evO R m = some (.mp id)) (ek : evO R k = some zk) (hvk : valOf zk = some vk)
  (hb : H id = some (.ext (.lit (.map es clock)))) (hkey : IsKey d vk) (hf : Instr.findNow d vk es.toList 0 = some (some (i, v))) (hz : valOf zv = some v) :
  LT P o R H [id] [] (some (.tup [zv, .b true])) := by
 refine LT.pure (by simp [ho]) fun e w ρ h1 h2 => ?_
 have g1 := h1 m (by simp [ho, Op.operands]) _ em
 have g2 := (valOf_rel hvk).1 (h1 k (by simp [ho, Op.operands]) _ ek)
 simp only [Rel] at g1
 obtain ⟨rb, hr, he⟩ := g1
 obtain ⟨rb', hr', hbr⟩ := h2 id (by simp) _ hb
 rw [hr] at hr'; cases hr'
 obtain ⟨_, hw⟩ := hbr
 have hun : ∀ (t : TypeId) (d : TypeDesc), P.underlying t = some d → (underlying t).run P w = .ok d w := fun t d h => run_und h
 refine ⟨.tuple #[v, .bool true], ?_, ?_⟩
 ·
  simp only [execOp, ho, he, g2, Instr.lookup, Sem.run_bind, hun _ _ hm, MapKept.run_getObj_map hw, MapKept.run_checkKey hd hkey, MapKept.run_findKey hd hf, Result.andThen_ok, Sem.run_pure, if_true]
 ·
  simp only [Rel]
  exact ⟨[v, .bool true], rfl, Rels.cons ((valOf_rel hz).2 rfl) (Rels.cons (by simp only [Rel]) (Rels.nil_iff.2 rfl))⟩
theorem lt_lookup_none {o : Oper} {R : Env} {t kt et id : Nat} {m k : Operand} {d : TypeDesc} {zk zv : SV} {vk : Value} {es : Array MapEntry} {clock : Nat} (ho : o.op = .lookup t m k true)
  (hm : P.underlying t = some (.map kt et)) (hd : P.underlying kt = some d) (em : evO R m = some (.mp id)) (ek : evO R k = some zk) (hvk : valOf zk = some vk)
  (hb : H id = some (.ext (.lit (.map es clock)))) (hkey : IsKey d vk) (hf : Instr.findNow d vk es.toList 0 = some none) (hz : pzero P et = some zv) :
  LT P o R H [id] [] (some (.tup [zv, .b false])) := by
 refine LT.pure (by simp [ho]) fun e w ρ h1 h2 => ?_
 have g1 := h1 m (by simp [ho, Op.operands]) _ em
 have g2 := (valOf_rel hvk).1 (h1 k (by simp [ho, Op.operands]) _ ek)
 simp only [Rel] at g1
 obtain ⟨rb, hr, he⟩ := g1
 obtain ⟨rb', hr', hbr⟩ := h2 id (by simp) _ hb
 rw [hr] at hr'; cases hr'
 obtain ⟨_, hw⟩ := hbr
 have hun : ∀ (t : TypeId) (d : TypeDesc), P.underlying t = some d → (underlying t).run P w = .ok d w := fun t d h => run_und h
 obtain ⟨v, hv, hrv, _⟩ := run_zero (P := P) (w := w) hz
 refine ⟨.tuple #[v, .bool false], ?_, ?_⟩
 ·
  simp only [execOp, ho, he, g2, Instr.lookup, Sem.run_bind, hun _ _ hm, MapKept.run_getObj_map hw, MapKept.run_checkKey hd hkey, MapKept.run_findKey hd hf, Result.andThen_ok, Sem.run_pure, if_true, hv]
 ·
  simp only [Rel]
  exact ⟨[v, .bool false], rfl, Rels.cons (hrv ρ) (Rels.cons (by simp only [Rel]) (Rels.nil_iff.2 rfl))⟩
end
section
variable {P : Program} {o : Oper} {R : RL} {H : HL} {L : Nat} {k : K1}
theorem ok1_makeMap {t : Nat} (ho : o.op = .makeMap t none) (h : k (some (.mp L)) [(L, some (.ext (.lit (.map #[] 0))))] [] (L + 1)) : Ok1 P o R H L k := ok1_new (lt_makeMap ho) h
theorem ok1_insert {t kt et : Nat} (id : Nat) (vk vx : Value) {m x y : Operand} {d : TypeDesc} {zk zx : SV} {es : Array MapEntry} {clock : Nat} (hl : Nat.ble H.length L = true) (ho : o.op = .insert t m x y ∨ o.op = .mapUpdate t m x y)
  (hm : P.underlying t = some (.map kt et)) (hd : P.underlying kt = some d) (em : ev R m = some (.mp id)) (ek : ev R x = some zk) (ex : ev R y = some zx) (hvk : valOf zk = some vk) (hx : valOf zx = some vx)
  (hb : hk H id = some (.ext (.lit (.map es clock)))) (hkey : IsKey d vk) (hf : Instr.findNow d vk es.toList 0 = some none)
  (h : k none [(id, some (.ext (.lit (.map (es.push ⟨vk, vx, clock⟩) (clock + 1)))))] [id] L) : Ok1 P o R H L k :=
 ok1_put (hk_lt (Nat.le_of_ble_eq_true hl) hb) (by simp) (lt_insert ho hm hd (ev_some em) (ev_some ek) (ev_some ex) hvk hx (hk_some hb) hkey hf) h
theorem ok1_lookup {t kt et : Nat} (id i : Nat) (vk v : Value) {m x : Operand} {d : TypeDesc} {zk : SV} (zv : SV) {es : Array MapEntry} {clock : Nat} (ho : o.op = .lookup t m x true)
  (hm : P.underlying t = some (.map kt et)) (hd : P.underlying kt = some d) (em : ev R m = some (.mp id)) (ek : ev R x = some zk) (hvk : valOf zk = some vk)
  (hb : hk H id = some (.ext (.lit (.map es clock)))) (hkey : IsKey d vk) (hf : Instr.findNow d vk es.toList 0 = some (some (i, v))) (hz : valOf zv = some v)
  (h : k (some (.tup [zv, .b true])) [] [id] L) : Ok1 P o R H L k := ok1_pure (lt_lookup ho hm hd (ev_some em) (ev_some ek) hvk (hk_some hb) hkey hf hz) h
theorem ok1_lookup_none {t kt et : Nat} (id : Nat) (vk : Value) {m x : Operand} {d : TypeDesc} {zk : SV} (zv : SV) {es : Array MapEntry} {clock : Nat} (ho : o.op = .lookup t m x true)
  (hm : P.underlying t = some (.map kt et)) (hd : P.underlying kt = some d) (em : ev R m = some (.mp id)) (ek : ev R x = some zk) (hvk : valOf zk = some vk)
  (hb : hk H id = some (.ext (.lit (.map es clock)))) (hkey : IsKey d vk) (hf : Instr.findNow d vk es.toList 0 = some none) (hz : pzero P et = some zv)
  (h : k (some (.tup [zv, .b false])) [] [id] L) : Ok1 P o R H L k := ok1_pure (lt_lookup_none ho hm hd (ev_some em) (ev_some ek) hvk (hk_some hb) hkey hf hz) h
end
end Go.Sh
namespace Go.Sh
theorem loop_rulex (J : List Nat) {T : TT} {P : Program} {M : Option Nat → Prop} {N A : Nat} {c : Code} {Q : Exit → RL → HL → Nat → Prop} {R : RL} {H : HL} {L : Nat} (hT : TOk P T) (hm : P.follows .mixedOrders = true) (hc : codeOk N c = true)
  {ι : Type} (IR : ι → RL) (IH : ι → HL) (IL : ι → Nat) (μ : ι → Nat) (i0 : ι) (h0 : Weak A R H L (IR i0) (IH i0) (IL i0))
  (round : ∀ i, swxs J T P M N A c (fun e R H L => match e with | .normal => ∃ j, μ j < μ i ∧ Weak A R H L (IR j) (IH j) (IL j) | e => Q e R H L) (IR i) (IH i) (IL i)) : SWp P M N A (.loop c) Q R H L := by
 refine SWp.weak h0 ?_
 refine ⟨fun r n B ρ a w hM hs hl => ?_⟩
 let K := fun (a' : Act) (w' : World) (k : Nat) => ∃ i ρ', μ i = k ∧ (IH i).length ≤ IL i ∧ Sim N B (IL i) ρ' (rg (IR i)) (hg (IH i)) a' w' ∧ EvA A ρ (hg (IH i0)) w ρ' (hg (IH i)) w'
 refine wpIn_loop (fun a' w' => ∃ k, K a' w' k) (fun a' w' => leastK (K a' w')) ⟨μ i0, i0, ρ, rfl, hl, hs, EvA.refl _ _ _ _⟩ ?_
 rintro a1 w1 ⟨k, hk⟩
 obtain ⟨⟨i, ρ1, hi, hl1, hs1, he1⟩, _⟩ := leastK_spec hk
 refine wpIn_mono ((swxs_ok hT hm hc (round i)).run r n B ρ1 a1 w1 hM hs1 hl1) ?_
 rintro e a2 w2 ⟨R2, H2, L2, ρ2, hq, hl2, hs2, he2⟩
 cases e with
 | normal =>
  obtain ⟨j, hj, hw⟩ := hq
  obtain ⟨ρ3, hs3, hl3, he3⟩ := hw N B ρ2 a2 w2 hs2 hl2
  have hJ : K a2 w2 (μ j) := ⟨j, ρ3, rfl, hl3, hs3, (he1.trans he2).trans he3⟩
  have := (leastK_spec hJ).2
  exact ⟨⟨μ j, hJ⟩, by omega⟩
 | _ => exact ⟨R2, H2, L2, ρ2, hq, hl2, hs2, he1.trans he2⟩
theorem focus_ev {R : RL} {H : HL} {L : Nat} (t q : Nat) {l : List FE} {e : FE} (hq : hk H q = some (.ext (.fam l))) (he : e ∈ l) (ht : lk t R = some (.lit e.v))
  {N B : Nat} {ρ : Ren} {a : Act} {w : World} (hs : Sim N B L ρ (rg R) (hg H) a w) (hl : H.length ≤ L) :
  ∃ ρ0, Sim N B (L + 1) ρ0 (rg ((t, .sl L 0 e.n e.sz false) :: R)) (hg (hupd H [(L, some (.ro e.cells))])) a w ∧ (hupd H [(L, some (.ro e.cells))]).length ≤ L + 1 ∧ Ev ρ (hg H) w ρ0 (hg (hupd H [(L, some (.ro e.cells))])) w := by
 rw [hk_eq] at hq
 obtain ⟨rq, hrq, hfam⟩ := hs.heap q _ hq
 obtain ⟨⟨ad, c, hv, hnc, hc⟩, hcells⟩ := hfam e he
 have hn := hs.fresh L (Nat.le_refl _)
 have hext : Ext ρ (setR ρ L e.rb) := Ext.setR e.rb hn
 have hg2 : ∀ id, hg (hupd H [(L, some (.ro e.cells))]) id = if id = L then some (.ro e.cells) else hg H id := fun id => by
  rw [hg_hupd]
  by_cases h : id = L
  ·
   subst h; simp [updW]
  ·
   have : (id == L) = false := by simpa using h
   simp [updW, List.lookup_cons, this, h]
 have hlt : ∀ id b, hg H id = some b → id ≠ L := fun id b hb he2 => by
  have := hk_lt hl (by rw [hk_eq]; exact hb : hk H id = some b)
  omega
 have hnew : BRel (setR ρ L e.rb) w e.rb (.ro e.cells) := hcells.imp id fun h => ⟨h.1.ext (fun i r h => by cases h), h.2⟩
 have hfoot : ∀ k o, foot e.rb (.ro e.cells) k o → foot rq (.ext (.fam l)) k o := fun k o h => ⟨e, he, h.1, h.2.1, h.2.2⟩
 have hown : ∀ k o, Owned (setR ρ L e.rb) (hg (hupd H [(L, some (.ro e.cells))])) k o → Owned ρ (hg H) k o := by
  rintro k o ⟨id, b, rb, h1, h2, h3, h4⟩
  rw [hg2] at h1
  by_cases h : id = L
  ·
   rw [if_pos h] at h1; cases h1; cases h3
  ·
   rw [if_neg h] at h1; rw [setR_other ρ e.rb h] at h2; exact ⟨id, b, rb, h1, h2, h3, h4⟩
 refine ⟨setR ρ L e.rb, ⟨hs.size, ?_, ?_, ?_, ?_, hs.dfr⟩, ?_, Ev.mk hext (Fr.refl _ _) (fun k o h => .inl (hown k o h))⟩
 ·
  intro t2 v hv2
  simp only [rg, List.lookup_cons] at hv2
  split at hv2
  ·
   rename_i e2
   have : t2 = t := by simpa using e2
   subst this
   cases hv2
   have h1 := hs.regs t2 (.lit e.v) (by rw [rg, ← lk_eq]; exact ht)
   simp only [Rel] at h1 ⊢
   exact ⟨e.rb, ad, c, setR_same _ _ _, by rw [h1.1, hv], hnc, fun h => (by cases h), hc.imp id fun ⟨g1, g2, g3⟩ => ⟨g1, by rw [g2]; rfl, by omega⟩⟩
  ·
   exact (hs.regs t2 v hv2).ext hext
 ·
  intro id b hb
  rw [hg2] at hb
  by_cases h : id = L
  ·
   rw [if_pos h] at hb; cases hb; subst h; exact ⟨e.rb, setR_same _ _ _, hnew⟩
  ·
   rw [if_neg h] at hb
   obtain ⟨rb, h1, h2⟩ := hs.heap id b hb
   exact ⟨rb, hext _ _ h1, h2.ext hext⟩
 ·
  intro i j bi bj ri rj hne hi hj hri hrj hb k o ⟨hfi, hfj⟩
  rw [hg2] at hi hj
  by_cases h1 : i = L
  ·
   rw [if_pos h1] at hi; cases hi; cases hb
  ·
   rw [if_neg h1] at hi
   rw [setR_other ρ e.rb h1] at hri
   by_cases h2 : j = L
   ·
    rw [if_pos h2] at hj; cases hj
    subst h2
    rw [setR_same] at hrj; cases hrj
    have hiq : i ≠ q := fun e2 => by subst e2; rw [hq] at hi; cases hi; cases hb
    exact hs.sep i q bi _ ri rq hiq hi hq hri hrq hb k o ⟨hfi, hfoot k o hfj⟩
   ·
    rw [if_neg h2] at hj
    rw [setR_other ρ e.rb h2] at hrj
    exact hs.sep i j bi bj ri rj hne hi hj hri hrj hb k o ⟨hfi, hfj⟩
 ·
  intro id hid
  rw [setR_other _ _ (by omega)]
  exact hs.fresh id (by omega)
 ·
  exact hupd_le (by omega) (fun id ob hm => by simp at hm; omega)
theorem Weak.focus {A : Nat} {R : RL} {H : HL} {L : Nat} (t q : Nat) {l : List FE} {e : FE} (hq : hk H q = some (.ext (.fam l))) (he : e ∈ l) (ht : lk t R = some (.lit e.v)) :
  Weak A R H L ((t, .sl L 0 e.n e.sz false) :: R) (hupd H [(L, some (.ro e.cells))]) (L + 1) := fun N B ρ a w hs hl =>
 let ⟨ρ0, h1, h2, h3⟩ := focus_ev t q hq he ht hs hl
 ⟨ρ0, h1, h2, h3.toA⟩
theorem sops_focus {P : Program} {N : Nat} {ops : Array Oper} {Q : RL → HL → Nat → Prop} {os : List Oper} {R : RL} {H : HL} {L : Nat} (t q : Nat) {l : List FE} {e : FE} (hq : hk H q = some (.ext (.fam l))) (he : e ∈ l) (ht : lk t R = some (.lit e.v))
  (h : SOps P N ops Q os ((t, .sl L 0 e.n e.sz false) :: R) (hupd H [(L, some (.ro e.cells))]) (L + 1)) : SOps P N ops Q os R H L :=
 ⟨fun r n B ρ a w k K hos hs hl hK =>
  let ⟨ρ0, h1, h2, h3⟩ := focus_ev t q hq he ht hs hl
  h.run r n B ρ0 a w k K hos h1 h2 fun a2 w2 R2 H2 L2 ρ2 hq2 hl2 hs2 hev2 => hK a2 w2 R2 H2 L2 ρ2 hq2 hl2 hs2 (h3.trans hev2)⟩
end Go.Sh
namespace Go.Sh
open Go.ChangeShapes Go.WideShapes Go.ChangeAt Go.RowKit
theorem Rels.of_get {ρ : Ren} : ∀ {xs : List SV} {vs : List Value}, xs.length = vs.length → (∀ (i : Nat) x, xs[i]? = some x → ∃ v, vs[i]? = some v ∧ Rel ρ x v) → Rels ρ xs vs
 | [], vs, hl, _ => by
  have : vs = [] := List.eq_nil_of_length_eq_zero (by simpa using hl.symm)
  subst this; exact Rels.nil_iff.2 rfl
 | x :: xs, [], hl, _ => by simp at hl
 | x :: xs, v :: vs, hl, h => by
  obtain ⟨u, hu, hr⟩ := h 0 x rfl
  simp at hu; subst hu
  exact Rels.cons hr (Rels.of_get (by simpa using hl) (fun i y hy => by simpa using h (i + 1) y (by simpa using hy)))
theorem calls_of_scall {P : Program} {f : Nat} {args : List SV} {H0 H1 : HL} (hc : SCall P f args H0 (.b true) H1) (hro : ∀ (id : Nat) b, hg H0 id = some b → b.own = false) {vs : List Value} {W : World} {ρ : Ren}
  (hvs : Rels ρ args vs) (hh : HRel ρ (hg H0) W) (hfr : ∀ id, H0.length ≤ id → ρ id = none) : Calls P f ⟨vs⟩ W fun e w' => e = .returned (.bool true) ∧ RowKit.Below W.heap.size W w' := by
 have h := hc.call 0 ρ W vs hvs hh (fun i j bi bj ri rj _ hi _ _ _ hown => by rw [hro i bi hi] at hown; cases hown) hfr
 refine (callsIn_wide.1 h).mono ?_
 intro e w' hr
 cases e with
 | returned v =>
  obtain ⟨ρ', h1, _, _, _, h5⟩ := hr
  simp only [Rel] at h1
  refine ⟨by rw [h1], h5.fr.below (fun x o _ hown => ?_)⟩
  obtain ⟨id, b, rb, g1, _, g3, _⟩ := hown
  rw [hro id b g1] at g3; cases g3
 | _ => exact hr.elim
theorem trodAll_stays {H : Type} {enc : TypeId × Value → H} {P : Program} (hl : laidOutB P = true) {W W' : World} (hb : RowKit.Below W.heap.size W W') : ∀ {ts : List TypeId} {vs : List Value} {ds : List (DataW H)} {ps : List MemPlace},
  (∀ t ∈ ts, P.readableRec t = true ∧ t < P.types.size) → DataW.TrodAll enc P W 0 (fun _ => true) true ts vs ds ps → (∀ x ∈ ps, x.block < W.heap.size) → ∀ sp : Nat → Bool, (∀ x ∈ ps, sp x.block = true) →
  DataW.TrodAll enc P W' 0 sp true ts vs ds ps
 | [], vs, ds, ps, _, h, _, sp, _ => by
  obtain ⟨rfl, rfl, rfl⟩ := trodAll_nil h
  exact trodAll_mk0
 | t :: ts, vs, ds, ps, ht, h, hlt, sp, hsp => by
  obtain ⟨v, vs', d, ds', p, q, rfl, rfl, rfl, h1, h2⟩ := trodAll_cons h
  obtain ⟨r1, r2⟩ := ht t (List.mem_cons_self ..)
  exact trodAll_cons_mk (WideElems.Trod_stays hl r1 r2 h1 (fun x hx => hb.same (hlt x (List.mem_append_left _ hx))) (fun x hx => hsp x (List.mem_append_left _ hx)))
   (trodAll_stays hl hb (fun u hu => ht u (List.mem_cons_of_mem _ hu)) h2 (fun x hx => hlt x (List.mem_append_right _ hx)) sp (fun x hx => hsp x (List.mem_append_right _ hx)))
theorem same_post {H : Type} {enc : TypeId × Value → H} {P : Program} {fn : Func} {s : ChangeSpec} {W W' : World} {args : Array Value} {ds gs : List (DataW H)} {before : List MemPlace} {bt : TypeId} {apart fresh handsOn again : Bool}
  (hl : laidOutB P = true) (hparams : ∀ t ∈ fn.params.toList, P.readableRec t = true ∧ t < P.types.size) (hbt : P.underlying bt = some .bool) (hrt : fn.resultTypes = #[bt]) (hvars : s.vars = [])
  (hW : DataW.Whole enc P fn.params.toList s.vars apart W args.toList ds gs before) (hspec : s.fn H ds = { results := [.lit (.bool true)], args := ds }) (hb : RowKit.Below W.heap.size W W') :
  s.post enc P fn apart fresh handsOn again W args (.bool true) W' := by
 have hlt := hW.lt
 have hW' := hW
 obtain ⟨p, q, hA, hV, rfl, hfz, hnd⟩ := hW
 rw [hvars] at hV
 obtain ⟨rfl, rfl⟩ := trodVars_none hV
 have hargs : ∀ sp : Nat → Bool, (∀ x ∈ p, sp x.block = true) → DataW.TrodAll enc P W' 0 sp true fn.params.toList args.toList ds p := fun sp hsp =>
  trodAll_stays hl hb hparams hA (fun x hx => hlt x (by simpa using hx)) sp hsp
 have hres : ∀ (b : Nat) (sp : Nat → Bool) (hd : Bool), DataW.TrodAll enc P W' b sp hd fn.resultTypes.toList ((Value.bool true).resultList fn.resultTypes.size) [.lit (.bool true)] [] := fun b sp hd => by
  rw [hrt]
  exact trodAll_cons_mk (shut_bool hbt _) trodAll_mk0
 refine ⟨ds, [], p ++ [], [], p, [], hW', ?_, ?_, ?_, World.keptBut_mono (fun x hx => ⟨hx, ?_⟩) (hb.frame (fun x => x ∈ p ++ [])), fun _ => ?_⟩
 ·
  rw [List.append_nil, hspec]; exact hres _ _ _
 ·
  rw [List.append_nil, hspec]
  exact hargs _ (fun x hx => by simpa using hlt x (by simpa using hx))
 ·
  rw [List.append_nil, hspec, hvars]
  rfl
 ·
  exact .inr (.inl (by simpa using hx))
 ·
  refine ⟨ok_one hrt rfl (okWide_bool_mk hbt _), _, [], ([] ++ p) ++ [], ⟨[] ++ p, [], trodAll_append (hargs _ (fun _ _ => rfl)) (hres _ _ _), by rw [hvars]; rfl, rfl, ?_, ?_⟩, ?_⟩
  ·
   intro b off hp
   have hpl := hlt (.cell b off) (by simpa using hp)
   rw [hb.frozen (p := ⟨b, off, none⟩) hpl]
   exact hfz b off (by simpa using hp)
  ·
   intro ha
   simpa using hnd ha
  ·
   intro x hx _
   simpa using hx
/-! ### What comes in, opened -/
theorem open_u64 {H : Type} {enc : TypeId × Value → H} {P : Program} {w : World} {base : Nat} {spare : Nat → Bool} {held : Bool} {r : Reach} {b0 : Nat} {t : TypeId} {v : Value} {d : DataW H} {ps : List MemPlace}
  (ht : P.underlying t = some (.int .u64)) (hval : Value.okWide P w r b0 t v) (hd : DataW.Trod enc P w base spare held t v d ps) : ∃ x : UInt64, ∀ ρ, Rel ρ (.u64 x) v := by
 obtain ⟨n, rfl, _, _, hw⟩ := open_int ht hval hd
 have hx : 0 ≤ n ∧ n < 18446744073709551616 := by
  simp only [Lit.wf, Bool.and_eq_true, decide_eq_true_eq, IntKind.min, IntKind.max, IntKind.signed, IntKind.bits] at hw
  have h2 := hw.2
  simp at h2 hw
  omega
 refine ⟨UInt64.ofNat n.toNat, fun ρ => ?_⟩
 simp only [Rel]
 congr 1
 simp only [UInt64.toNat_ofNat']
 omega
theorem atoms_u8 (l : List UInt8) : atoms (l.map .u8) = true := by induction l <;> simp_all [atoms, SV.atom]
theorem lits_length {H : Type} (k : IntKind) (zs : List Int) : (lits (H := H) k zs).length = zs.length := by simp [lits]
theorem open_bytes {H : Type} {enc : TypeId × Value → H} {P : Program} {w : World} {base : Nat} {r : Reach} {b0 : Nat} {t e : TypeId} {v : Value} {d : DataW H} {ps : List MemPlace}
  (ht : P.underlying t = some (.slice e)) (he : P.underlying e = some (.int .u8)) (hc : P.cellsOf e = 1) (hval : Value.okWide P w r b0 t v) (hd : DataW.Trod enc P w base (fun _ => true) true t v d ps) :
  ∃ (bs : List UInt8) (rb : RB), (∀ ρ id, ρ id = some rb → Rel ρ (.sl id 0 bs.length 1 false) v) ∧ (∀ ρ, BRel ρ w rb (.ro (bs.map .u8))) ∧
   (bs = [] ∨ ∃ zs rest : List Int, d = .slice (lits .u8 zs) (lits .u8 rest) ∧ zs.length = bs.length) := by
 obtain ⟨a, len, cap, rfl⟩ := okWide_slice ht hval
 obtain ⟨fuel, hf⟩ := hd
 have hcs : (Value.slice a len cap).cells.toList = [.slice a len cap] := rfl
 rw [hcs] at hf
 rcases open_ints ht he hc hf with ⟨h1, h2⟩ | ⟨a', len', cap', zs, h1, _, hlc, _, hzl, h2, hcell, hwf⟩
 ·
  cases h1
  refine ⟨[], ⟨0, 0, 0, true⟩, fun ρ id hr => ?_, fun ρ => .inl rfl, .inl rfl⟩
  simp only [Rel]
  exact ⟨_, none, 0, hr, rfl, Nat.le_refl _, fun h => (by cases h), .inl rfl⟩
 ·
  cases h1
  simp only [if_true] at hzl
  have hb : ∀ z ∈ zs, 0 ≤ z ∧ z < 256 := by
   intro z hz
   have hw := hwf z hz
   simp only [Lit.wf, Bool.and_eq_true, decide_eq_true_eq, IntKind.min, IntKind.max, IntKind.signed, IntKind.bits] at hw
   have h2 := hw.2
   simp at h2 hw
   omega
  have hbl : ((zs.take len).map fun z => UInt8.ofNat z.toNat).length = len := by simp; omega
  refine ⟨(zs.take len).map fun z => UInt8.ofNat z.toNat, ⟨a'.block, a'.off, cap, false⟩, fun ρ id hr => ?_, fun ρ => ?_, .inr ⟨zs.take len, zs.drop len, ?_, by simp⟩⟩
  ·
   rw [hbl]
   simp only [Rel]
   refine ⟨_, some a', cap, hr, rfl, hlc, fun h => (by cases h), ?_⟩
   by_cases h0 : cap = 0
   ·
    exact .inl h0
   ·
    right
    have := hcell 0 (by omega)
    have hsp : a'.spot = none := by
     unfold World.cell? at this
     split at this
     ·
      split at this
      ·
       cases this
      ·
       rename_i hs
       have : (a'.add 0).spot = a'.spot := by unfold Addr.add; split <;> simp_all
       rw [this] at hs
       simpa using hs
     ·
      cases this
    refine ⟨rfl, ?_, by simp⟩
    cases a'; simp at hsp; simp [hsp]
  ·
   by_cases h0 : len = 0
   ·
    left
    subst h0
    simp
   ·
    right
    have key : ∀ i, i < zs.length → ∃ c t fz, w.heap[a'.block]? = some (.cells c t fz) ∧ c[a'.off + i]? = some (.int .u8 (zs.getD i 0)) := by
     intro i hi
     have h := hcell i hi
     unfold World.cell? at h
     have e1 : (a'.add i).block = a'.block := by unfold Addr.add; split <;> rfl
     rw [e1] at h
     split at h
     ·
      rename_i c t fz hh
      split at h
      ·
       cases h
      ·
       rename_i hs
       have e2 : (a'.add i).off = a'.off + i := by
        unfold Addr.add at hs ⊢
        split
        ·
         simp_all
        ·
         rfl
       rw [e2] at h
       exact ⟨c, t, fz, hh, h⟩
     ·
      cases h
    obtain ⟨c, t2, fz, hh, _⟩ := key 0 (by omega)
    have key2 : ∀ i, i < zs.length → c[a'.off + i]? = some (.int .u8 (zs.getD i 0)) := by
     intro i hi
     obtain ⟨c', t', fz', hh', hv⟩ := key i hi
     rw [hh] at hh'; cases hh'
     exact hv
    have hsz : a'.off + len ≤ c.size := by
     have := key2 (len - 1) (by omega)
     have := (Array.getElem?_eq_some_iff.1 this).1
     omega
    refine ⟨⟨c, t2, fz, hh, atoms_u8 _, ?_, fun h => (by cases h), by simp; omega⟩, by simp; omega, rfl⟩
    apply Rels.of_get
    ·
     simp; omega
    ·
     intro i x hx
     have hi : i < len := by have := (List.getElem?_eq_some_iff.1 hx).1; simp at this; omega
     have hzi : i < zs.length := by omega
     have hg : zs.getD i 0 = zs[i] := by simp [hzi]
     simp only [List.map_map, List.getElem?_map, List.getElem?_take_of_lt hi, List.getElem?_eq_getElem hzi, Option.map_some, Option.some.injEq, Function.comp] at hx
     subst hx
     refine ⟨.int .u8 (zs.getD i 0), ?_, ?_⟩
     ·
      rw [List.length_map, hbl, List.getElem?_take_of_lt hi, List.getElem?_drop, Array.getElem?_toList]
      exact key2 i hzi
     ·
      rw [hg]
      simp only [Rel]
      have := hb zs[i] (List.getElem_mem hzi)
      congr 1
      simp only [UInt8.toNat_ofNat']
      omega
  ·
   have := congrArg Prod.fst h2
   exact this
end Go.Sh
namespace Go.Sh
open Go.ChangeShapes Go.WideShapes Go.ChangeAt Go.RowKit
section
variable {H : Type} {enc : TypeId × Value → H} {P : Program} {w : World} {base : Nat} {spare : Nat → Bool} {held : Bool}
def Rd (enc : TypeId × Value → H) (P : Program) (w : World) (base : Nat) (spare : Nat → Bool) (held : Bool) (t : TypeId) (cs : List Value) : Prop := ∃ fuel x, DataW.trod enc P w base spare held fuel t cs = some x
theorem psz_cells {t : TypeId} {n : Nat} (h : psz P t = some n) : P.cellsOf t = n := by
 unfold psz at h; unfold Program.cellsOf; rw [h]; rfl
theorem chunks {ks : List Nat} {R : List Value → Prop} (hR : ∀ c, R c → ∃ xs : List SV, xs.map kd = ks.map some ∧ ∀ ρ, Rels ρ xs c) (cs : List Value) : ∀ n : Nat, n * ks.length ≤ cs.length →
  (∀ i, i < n → R ((cs.drop (i * ks.length)).take ks.length)) → ∃ xs : List SV, xs.map kd = (List.replicate n ks).flatten.map some ∧ ∀ ρ, Rels ρ xs (cs.take (n * ks.length))
 | 0, _, _ => ⟨[], by simp, fun ρ => by simp [Rels]⟩
 | n + 1, hl, h => by
  have hn : (n + 1) * ks.length = n * ks.length + ks.length := by rw [Nat.add_mul]; omega
  obtain ⟨xs, hx, hxr⟩ := chunks hR cs n (by omega) (fun i hi => h i (by omega))
  obtain ⟨ys, hy, hyr⟩ := hR _ (h n (by omega))
  refine ⟨xs ++ ys, ?_, fun ρ => ?_⟩
  ·
   rw [List.map_append, hx, hy, List.replicate_succ', List.flatten_concat, List.map_append]
  ·
   rw [hn, List.take_add]
   exact Rels.append (hxr ρ) (hyr ρ)
theorem int_kd {k : IntKind} {q : Nat} {n : Int} (hk : kdT (.int k) = some q) (hw : (Lit.int k n).wf = true) : ∃ x : SV, kd x = some q ∧ ∀ ρ, Rel ρ x (.int k n) := by
 cases k <;> simp only [kdT] at hk <;> (try (cases hk; done)) <;> simp only [Option.some.injEq] at hk <;> subst hk
 ·
  exact ⟨.i n, rfl, fun ρ => by simp only [Rel]⟩
 all_goals
  simp only [Lit.wf, Bool.and_eq_true, decide_eq_true_eq, IntKind.min, IntKind.max, IntKind.signed, IntKind.bits] at hw
  have h2 := hw.2
  simp at h2 hw
 ·
  exact ⟨.u8 (UInt8.ofNat n.toNat), rfl, fun ρ => by simp only [Rel, UInt8.toNat_ofNat']; congr 1; omega⟩
 ·
  exact ⟨.u16 (UInt16.ofNat n.toNat), rfl, fun ρ => by simp only [Rel, UInt16.toNat_ofNat']; congr 1; omega⟩
 ·
  exact ⟨.u32 (UInt32.ofNat n.toNat), rfl, fun ρ => by simp only [Rel, UInt32.toNat_ofNat']; congr 1; omega⟩
 ·
  exact ⟨.u64 (UInt64.ofNat n.toNat), rfl, fun ρ => by simp only [Rel, UInt64.toNat_ofNat']; congr 1; omega⟩
theorem open_kinds_both : ∀ d : Nat,
  (∀ {t : TypeId} {ks : List Nat}, kinds P d t = some ks → ∀ {cs : List Value}, Rd enc P w base spare held t cs → ∃ xs : List SV, xs.map kd = ks.map some ∧ ∀ ρ, Rels ρ xs cs) ∧
  (∀ {off : Nat} {fs : List Field} {ks : List Nat}, kindsF P d off fs = some ks → ∀ {cs : List Value}, (∀ f ∈ fs, Rd enc P w base spare held f.type ((cs.drop f.offset).take (P.cellsOf f.type))) → off + ks.length ≤ cs.length →
   ∃ xs : List SV, xs.map kd = ks.map some ∧ ∀ ρ, Rels ρ xs ((cs.drop off).take ks.length))
 | 0 => by
  refine ⟨fun h => by simp [kinds] at h, fun {off fs ks} h => ?_⟩
  cases fs with
  | nil => simp [kindsF] at h; subst h; intro cs _ _; exact ⟨[], rfl, fun ρ => by simp [Rels]⟩
  | cons f fs => simp [kindsF] at h
 | d + 1 => by
  obtain ⟨ihA, ihB⟩ := open_kinds_both d
  refine ⟨fun {t ks} h {cs} hr => ?_, fun {off fs ks} h {cs} hr hl => ?_⟩
  ·
   obtain ⟨fuel, x, hx⟩ := hr
   have hsz := kinds_size h
   simp only [kinds] at h
   split at h
   ·
    rename_i fs hu
    split at h
    ·
     cases h
    ·
     obtain ⟨ks', h1, h2⟩ := Option.bind_eq_some_iff.1 h
     split at h2
     ·
      cases h2
      obtain ⟨xs, n, rfl, rfl, hcl, hxl, hf⟩ := DataW.trod_struct hu hx
      have hcs : cs.length = ks.length := by rw [hcl, psz_cells hsz]
      obtain ⟨ys, hy, hyr⟩ := ihB h1 (cs := cs) (fun f hfm => by
       obtain ⟨i, hi, hfi⟩ := List.getElem_of_mem hfm
       have hi' : i < fs.size := by simpa using hi
       have hget : fs[i]? = some f := by rw [Array.getElem?_eq_getElem hi']; simpa using hfi
       have := hf i f hget
       rw [List.getElem?_eq_getElem (by omega : i < xs.length)] at this
       exact ⟨n, _, this⟩) (by omega)
      refine ⟨ys, hy, fun ρ => ?_⟩
      have := hyr ρ
      rwa [List.drop_zero, List.take_of_length_le (by omega)] at this
     ·
      cases h2
   ·
    rename_i n e hu
    obtain ⟨ks', h1, h2⟩ := Option.bind_eq_some_iff.1 h
    split at h2
    ·
     rename_i hps
     cases h2
     obtain ⟨xs, m, rfl, rfl, hcl, hxl, hf⟩ := DataW.trod_array hu hx
     have hcs : cs.length = n * ks'.length := by rw [hcl, psz_cells hps]
     have he : P.cellsOf e = ks'.length := psz_cells (kinds_size h1)
     obtain ⟨ys, hy, hyr⟩ := chunks (R := fun c => Rd enc P w base spare held e c) (fun c hc => ihA h1 hc) cs n (by omega) (fun i hi => by
      have := hf i hi
      rw [he, List.getElem?_eq_getElem (by omega : i < xs.length)] at this
      exact ⟨m, _, this⟩)
     refine ⟨ys, hy, fun ρ => ?_⟩
     have := hyr ρ
     rwa [List.take_of_length_le (by omega)] at this
    ·
     cases h2
   ·
    rename_i ds hns hna hu
    obtain ⟨k, h1, h2⟩ := Option.bind_eq_some_iff.1 h
    split at h2
    ·
     cases h2
     cases ds with
     | int kk =>
      obtain ⟨n, rfl, _, hw⟩ := DataW.trod_int hu hx
      obtain ⟨y, hy, hyr⟩ := int_kd h1 hw
      exact ⟨[y], by simp [hy], fun ρ => Rels.cons (hyr ρ) (Rels.nil_iff.2 rfl)⟩
     | bool =>
      obtain ⟨b, rfl, _⟩ := DataW.trod_bool hu hx
      simp only [kdT, Option.some.injEq] at h1; subst h1
      exact ⟨[.b b], rfl, fun ρ => Rels.cons (by simp only [Rel]) (Rels.nil_iff.2 rfl)⟩
     | string =>
      obtain ⟨s, rfl, _, _⟩ := DataW.trod_string hu hx
      simp only [kdT, Option.some.injEq] at h1; subst h1
      exact ⟨[.s s.data.toList], rfl, fun ρ => Rels.cons (by simp only [Rel]) (Rels.nil_iff.2 rfl)⟩
     | _ => simp [kdT] at h1
    ·
     cases h2
   ·
    cases h
  ·
   cases fs with
   | nil => simp [kindsF] at h; subst h; exact ⟨[], rfl, fun ρ => by simp [Rels]⟩
   | cons f fs =>
    simp only [kindsF] at h
    split at h
    ·
     rename_i hf
     obtain ⟨k1, h1, h2⟩ := Option.bind_eq_some_iff.1 h
     obtain ⟨k2, h3, h4⟩ := Option.map_eq_some_iff.1 h2
     subst h4
     have he : P.cellsOf f.type = k1.length := psz_cells (kinds_size h1)
     have hr1 := hr f (List.mem_cons_self ..)
     rw [hf.2, he] at hr1
     simp only [List.length_append] at hl
     obtain ⟨xs, hx, hxr⟩ := ihA h1 hr1
     obtain ⟨ys, hy, hyr⟩ := ihB h3 (cs := cs) (fun g hg => hr g (List.mem_cons_of_mem _ hg)) (by omega)
     refine ⟨xs ++ ys, by simp [hx, hy], fun ρ => ?_⟩
     rw [List.length_append, List.take_add, List.drop_drop]
     exact Rels.append (hxr ρ) (hyr ρ)
    ·
     cases h
theorem open_kinds {d : Nat} {t : TypeId} {ks : List Nat} (h : kinds P d t = some ks) {cs : List Value} (hr : Rd enc P w base spare held t cs) : ∃ xs : List SV, xs.map kd = ks.map some ∧ ∀ ρ, Rels ρ xs cs :=
 (open_kinds_both d).1 h hr
/-! ### Kinds, told -/
theorem kd_0 {x : SV} (h : kd x = some 0) : ∃ n, x = .i n := by cases x <;> simp [kd] at h; exact ⟨_, rfl⟩
theorem kd_1 {x : SV} (h : kd x = some 1) : ∃ n, x = .u8 n := by cases x <;> simp [kd] at h; exact ⟨_, rfl⟩
theorem kd_2 {x : SV} (h : kd x = some 2) : ∃ n, x = .u16 n := by cases x <;> simp [kd] at h; exact ⟨_, rfl⟩
theorem kd_3 {x : SV} (h : kd x = some 3) : ∃ n, x = .u32 n := by cases x <;> simp [kd] at h; exact ⟨_, rfl⟩
theorem kd_4 {x : SV} (h : kd x = some 4) : ∃ n, x = .u64 n := by cases x <;> simp [kd] at h; exact ⟨_, rfl⟩
theorem kd_5 {x : SV} (h : kd x = some 5) : ∃ n, x = .b n := by cases x <;> simp [kd] at h; exact ⟨_, rfl⟩
theorem kd_nil {xs : List SV} (h : xs.map kd = ([] : List Nat).map some) : xs = [] := by simpa using h
theorem kd_cons {xs : List SV} {k : Nat} {ks : List Nat} (h : xs.map kd = (k :: ks).map some) : ∃ x ys, xs = x :: ys ∧ kd x = some k ∧ ys.map kd = ks.map some := by
 cases xs with
 | nil => simp at h
 | cons x ys => simp at h; exact ⟨x, ys, rfl, h.1, h.2⟩
theorem kd_append {xs : List SV} {k1 k2 : List Nat} (h : xs.map kd = (k1 ++ k2).map some) : ∃ ys zs, xs = ys ++ zs ∧ ys.map kd = k1.map some ∧ zs.map kd = k2.map some := by
 refine ⟨xs.take k1.length, xs.drop k1.length, (List.take_append_drop ..).symm, ?_, ?_⟩
 ·
  rw [List.map_take, h, List.map_append, List.take_left' (by simp)]
 ·
  rw [List.map_drop, h, List.map_append, List.drop_left' (by simp)]
theorem kd_rep {α : Type} {f : α → SV} {k : Nat} (hf : ∀ x, kd x = some k → ∃ a, x = f a) : ∀ {n : Nat} {xs : List SV}, xs.map kd = (List.replicate n k).map some → ∃ l : List α, xs = l.map f ∧ l.length = n
 | 0, xs, h => by
  have : xs = [] := kd_nil h
  subst this; exact ⟨[], rfl, rfl⟩
 | n + 1, xs, h => by
  rw [List.replicate_succ] at h
  obtain ⟨x, ys, rfl, hx, hy⟩ := kd_cons h
  obtain ⟨a, rfl⟩ := hf x hx
  obtain ⟨l, rfl, hl⟩ := kd_rep hf hy
  exact ⟨a :: l, rfl, by simp [hl]⟩
theorem kd_atoms : ∀ {xs : List SV} {ks : List Nat}, xs.map kd = ks.map some → atoms xs = true
 | [], _, _ => rfl
 | x :: xs, [], h => by simp at h
 | x :: xs, k :: ks, h => by
  simp only [List.map_cons, List.cons.injEq] at h
  simp only [atoms, List.all_cons, kd_atom h.1, Bool.true_and]
  exact kd_atoms h.2
theorem open_agg_k {r : Reach} {b0 d : Nat} {t : TypeId} {ks : List Nat} {v : Value} {y : DataW H} {ps : List MemPlace} (hk : kinds P d t = some ks) (ha : isRow P t = true) (hval : Value.okWide P w r b0 t v) (hd : DataW.Trod enc P w base spare held t v y ps) :
  ∃ xs : List SV, xs.map kd = ks.map some ∧ ∀ ρ, Rel ρ (.agg xs) v := by
 have : ∃ cs, v = .agg cs := by
  unfold Value.okWide at hval
  unfold isRow at ha
  cases hu : P.underlying t with
  | none => rw [hu] at ha; cases ha
  | some ds =>
   rw [hu] at ha hval
   cases ds <;> first | (simp at ha; done) | (obtain ⟨cs, h, _⟩ := hval; exact ⟨cs, h⟩)
 obtain ⟨cs, rfl⟩ := this
 obtain ⟨fuel, hf⟩ := hd
 obtain ⟨xs, hx, hxr⟩ := open_kinds hk (cs := cs.toList) ⟨fuel, _, hf⟩
 refine ⟨xs, hx, fun ρ => ?_⟩
 simp only [Rel]
 exact ⟨cs.toList, rfl, kd_atoms hx, hxr ρ⟩
theorem open_one_k {r : Reach} {b0 k : Nat} {t : TypeId} {ds : TypeDesc} {v : Value} {y : DataW H} {ps : List MemPlace} (hu : P.underlying t = some ds) (hk : kdT ds = some k) (hk6 : k ≠ 6) (hval : Value.okWide P w r b0 t v) (hd : DataW.Trod enc P w base spare held t v y ps) :
  ∃ x : SV, kd x = some k ∧ ∀ ρ, Rel ρ x v := by
 cases ds with
 | int kk =>
  obtain ⟨n, rfl, _, _, hw⟩ := open_int hu hval hd
  exact int_kd hk hw
 | bool =>
  obtain ⟨b, rfl, _⟩ := open_bool hu hval hd
  simp only [kdT, Option.some.injEq] at hk; subst hk
  exact ⟨.b b, rfl, fun ρ => by simp only [Rel]⟩
 | string => simp only [kdT, Option.some.injEq] at hk; exact absurd hk.symm hk6
 | _ => simp [kdT] at hk
/-! ### Rows -/
theorem cells_get {a : Addr} {n : Nat} {l : List Value} (h : w.cells? base a n = some l) : l.length = n ∧ ∀ i, i < n → w.cell? (a.add i) = l[i]? := by
 unfold World.cells? at h
 split at h
 ·
  refine ⟨by simpa using mapM_some_length h, fun i hi => ?_⟩
  simpa using mapM_some_get h i i (by simp [hi])
 ·
  cases h
theorem addr_add (a : Addr) (i : Nat) (h : a.spot = none) : a.add i = ⟨a.block, a.off + i, none⟩ := by
 cases a; simp only at h; subst h
 unfold Addr.add
 split
 ·
  rename_i h0; subst h0; rfl
 ·
  rfl
theorem addr_block (a : Addr) (i : Nat) : (a.add i).block = a.block := by unfold Addr.add; split <;> rfl
theorem addr_zero (a : Addr) : a.add 0 = a := by simp [Addr.add]
structure Row (enc : TypeId × Value → H) (P : Program) (w : World) (base : Nat) (spare : Nat → Bool) (held : Bool) (e : TypeId) (sz : Nat) (a : Addr) (len cap : Nat) (vs : List Value) : Prop where
 le : len ≤ cap
 most : cap ≤ maxLen
 spot : 0 < cap → a.spot = none
 len : vs.length = cap * sz
 cell : ∀ i, i < cap * sz → w.cell? ⟨a.block, a.off + i, none⟩ = vs[i]?
 read : ∀ i, i < cap → Rd enc P w base spare held e ((vs.drop (i * sz)).take sz)
theorem rows_of {α : Type} (f : Nat → Option (List α)) (sz : Nat) : ∀ n, (∀ i, i < n → ∃ l, f i = some l ∧ l.length = sz) → ∃ vs : List α, vs.length = n * sz ∧ ∀ i, i < n → f i = some ((vs.drop (i * sz)).take sz)
 | 0, _ => ⟨[], by simp, fun i hi => by omega⟩
 | n + 1, h => by
  obtain ⟨vs, h1, h2⟩ := rows_of f sz n (fun i hi => h i (by omega))
  obtain ⟨l, hl, hls⟩ := h n (by omega)
  refine ⟨vs ++ l, by simp [h1, hls, Nat.add_mul], fun i hi => ?_⟩
  by_cases hin : i < n
  ·
   rw [h2 i hin]
   have hle : i * sz + sz ≤ vs.length := by
    rw [h1]; calc i * sz + sz = (i + 1) * sz := by rw [Nat.add_mul]; omega
     _ ≤ n * sz := Nat.mul_le_mul_right _ hin
   rw [List.drop_append_of_le_length (by omega), List.take_append_of_le_length (by simp; omega)]
  ·
   have : i = n := by omega
   subst this
   rw [hl, ← h1, List.drop_left, List.take_of_length_le (by omega)]
theorem open_row {e t : TypeId} {sz : Nat} {cs : List Value} (ht : P.underlying t = some (.slice e)) (hs : psz P e = some sz) (h0 : 0 < sz) (hsp : spare = fun _ => true) (hr : Rd enc P w base spare held t cs) :
  cs = [.slice none 0 0] ∨ ∃ a len cap vs, cs = [.slice (some a) len cap] ∧ Row enc P w base spare held e sz a len cap vs := by
 obtain ⟨fuel, x, hx⟩ := hr
 have he := psz_cells hs
 rcases DataW.trod_slice ht hx with ⟨h, _⟩ | ⟨a, len, cap, elems, rest, n, rfl, rfl, _, hb, hlc, hm, hel, h1, h2, _⟩
 ·
  exact .inl h
 ·
  right
  rw [he] at h1 h2
  obtain ⟨hrl, h2⟩ := h2 (by rw [hsp])
  have all : ∀ i, i < cap → ∃ l, w.cells? base (a.add (i * sz)) sz = some l ∧ Rd enc P w base spare held e l := by
   intro i hi
   by_cases hil : i < len
   ·
    have := h1 i hil
    rw [List.getElem?_eq_getElem (by omega : i < elems.length)] at this
    obtain ⟨l, hl, hr⟩ := Option.bind_eq_some_iff.1 this
    exact ⟨l, hl, n, _, hr⟩
   ·
    have := h2 (i - len) (by omega)
    rw [List.getElem?_eq_getElem (by omega : i - len < rest.length), show len + (i - len) = i from by omega] at this
    obtain ⟨l, hl, hr⟩ := Option.bind_eq_some_iff.1 this
    exact ⟨l, hl, n, _, hr⟩
  obtain ⟨vs, hvl, hv⟩ := rows_of (fun i => w.cells? base (a.add (i * sz)) sz) sz cap (fun i hi => by
   obtain ⟨l, hl, _⟩ := all i hi
   exact ⟨l, hl, (cells_get hl).1⟩)
  have hspot : 0 < cap → a.spot = none := by
   intro hc
   obtain ⟨l, hl, _⟩ := all 0 hc
   obtain ⟨g1, g2⟩ := cells_get hl
   have := g2 0 h0
   rw [List.getElem?_eq_getElem (by omega)] at this
   unfold World.cell? at this
   split at this
   ·
    split at this
    ·
     cases this
    ·
     rename_i hs2
     have h3 : ((a.add (0 * sz)).add 0).spot = none := by simpa using hs2
     rwa [Nat.zero_mul, addr_zero, addr_zero] at h3
   ·
    cases this
  refine ⟨a, len, cap, vs, rfl, hlc, hm, hspot, hvl, fun i hi => ?_, fun i hi => ?_⟩
  ·
   have hc : 0 < cap := by
    rcases Nat.eq_zero_or_pos cap with h | h
    ·
     subst h; omega
    ·
     exact h
   have hi2 : i / sz < cap := by rw [Nat.div_lt_iff_lt_mul h0]; exact hi
   have hl := hv (i / sz) hi2
   obtain ⟨g1, g2⟩ := cells_get hl
   have hmod : i % sz < sz := Nat.mod_lt _ h0
   have := g2 (i % sz) hmod
   rw [addr_add a _ (hspot hc), addr_add _ _ rfl] at this
   have hdm : i / sz * sz + i % sz = i := by rw [Nat.mul_comm]; exact Nat.div_add_mod i sz
   rw [List.getElem?_take_of_lt hmod, List.getElem?_drop, hdm] at this
   simp only [Nat.add_assoc, hdm] at this
   exact this
  ·
   obtain ⟨l, hl, hr⟩ := all i hi
   have := hv i hi
   rw [hl] at this
   rw [← Option.some.inj this]; exact hr
theorem Row.block {e : TypeId} {sz : Nat} {a : Addr} {len cap : Nat} {vs : List Value} (h : Row enc P w base spare held e sz a len cap vs) {ρ : Ren} {ys : List SV} (hr : Rels ρ ys (vs.take (len * sz))) (ha : atoms ys = true) :
  (∀ id, ρ id = some ⟨a.block, a.off, cap * sz, false⟩ → Rel ρ (.sl id 0 len sz false) (.slice (some a) len cap)) ∧ BRel ρ w ⟨a.block, a.off, cap * sz, false⟩ (.ro ys) := by
 have hyl : ys.length = len * sz := by
  have := hr.length
  rw [List.length_take, h.len] at this
  have hle : len * sz ≤ cap * sz := Nat.mul_le_mul_right _ h.le
  omega
 refine ⟨fun id hid => ?_, ?_⟩
 ·
  simp only [Rel]
  refine ⟨_, some a, cap, hid, rfl, h.le, fun h => (by cases h), ?_⟩
  by_cases h0 : cap = 0
  ·
   exact .inl h0
  ·
   right
   refine ⟨rfl, ?_, by simp⟩
   have := h.spot (by omega)
   cases a; simp only at this; subst this; simp
 ·
  by_cases h0 : len * sz = 0
  ·
   left; exact List.eq_nil_of_length_eq_zero (by omega)
  ·
   right
   have hle : len * sz ≤ cap * sz := Nat.mul_le_mul_right _ h.le
   have key : ∀ i, i < cap * sz → ∃ c t fz, w.heap[a.block]? = some (.cells c t fz) ∧ c[a.off + i]? = vs[i]? := by
    intro i hi
    have hc := h.cell i hi
    rw [List.getElem?_eq_getElem (by rw [h.len]; exact hi)] at hc
    unfold World.cell? at hc
    split at hc
    ·
     rename_i c t fz hh
     simp only at hc
     exact ⟨c, t, fz, hh, by rw [List.getElem?_eq_getElem (by rw [h.len]; exact hi)]; simpa using hc⟩
    ·
     cases hc
   obtain ⟨c, t2, fz, hh, _⟩ := key 0 (by omega)
   have key2 : ∀ i, i < cap * sz → c[a.off + i]? = vs[i]? := by
    intro i hi
    obtain ⟨c', t', fz', hh', hv⟩ := key i hi
    rw [hh] at hh'; cases hh'; exact hv
   have hsz : a.off + len * sz ≤ c.size := by
    have := key2 (len * sz - 1) (by omega)
    rw [List.getElem?_eq_getElem (by rw [h.len]; omega)] at this
    have := (Array.getElem?_eq_some_iff.1 this).1
    omega
   refine ⟨⟨c, t2, fz, hh, ha, ?_, fun h => (by cases h), by rw [hyl]; exact hsz⟩, by rw [hyl]; exact hle, rfl⟩
   have e1 : (c.toList.drop a.off).take ys.length = vs.take (len * sz) := by
    apply List.ext_getElem?
    intro i
    rw [hyl]
    by_cases hi : i < len * sz
    ·
     rw [List.getElem?_take_of_lt hi, List.getElem?_take_of_lt hi, List.getElem?_drop, Array.getElem?_toList]
     exact key2 i (by omega)
    ·
     rw [List.getElem?_take_eq_none (by omega), List.getElem?_take_eq_none (by omega)]
   rw [e1]; exact hr
theorem open_row_k {r : Reach} {b0 d : Nat} {e t : TypeId} {ks : List Nat} {v : Value} {y : DataW H} {ps : List MemPlace} (ht : P.underlying t = some (.slice e)) (hk : kinds P d e = some ks) (h0 : 0 < ks.length) (hval : Value.okWide P w r b0 t v)
  (hd : DataW.Trod enc P w base (fun _ => true) held t v y ps) : ∃ (n : Nat) (ys : List SV) (rb : RB), n ≤ maxLen ∧ ys.map kd = (List.replicate n ks).flatten.map some ∧ (∀ ρ id, ρ id = some rb → Rel ρ (.sl id 0 n ks.length false) v) ∧ ∀ ρ, BRel ρ w rb (.ro ys) := by
 obtain ⟨a, len, cap, rfl⟩ := okWide_slice ht hval
 obtain ⟨fuel, hf⟩ := hd
 have hcs : (Value.slice a len cap).cells.toList = [.slice a len cap] := rfl
 rw [hcs] at hf
 rcases open_row ht (kinds_size hk) h0 rfl ⟨fuel, _, hf⟩ with h | ⟨a', len', cap', vs, h, hrow⟩
 ·
  cases h
  refine ⟨0, [], ⟨0, 0, 0, true⟩, Nat.zero_le _, rfl, fun ρ id hr => ?_, fun ρ => .inl rfl⟩
  simp only [Rel]
  exact ⟨_, none, 0, hr, rfl, Nat.le_refl _, fun h => (by cases h), .inl rfl⟩
 ·
  cases h
  have hle : len * ks.length ≤ cap * ks.length := Nat.mul_le_mul_right _ hrow.le
  obtain ⟨ys, hy, hyr⟩ := chunks (R := fun c => Rd enc P w base (fun _ => true) held e c) (fun c hc => open_kinds hk hc) vs len (by rw [hrow.len]; exact hle) (fun i hi => hrow.read i (Nat.lt_of_lt_of_le hi hrow.le))
  exact ⟨len, ys, _, Nat.le_trans hrow.le hrow.most, hy, fun ρ id hid => (hrow.block (hyr ρ) (kd_atoms hy)).1 id hid, fun ρ => (hrow.block (hyr ρ) (kd_atoms hy)).2⟩
theorem flat_rep1 (n k : Nat) : (List.replicate n [k]).flatten = List.replicate n k := by
 induction n with
 | zero => rfl
 | succ n ih => rw [List.replicate_succ, List.flatten_cons, ih]; rfl
theorem open_row1 {α : Type} {f : α → SV} {r : Reach} {b0 d k : Nat} {e t : TypeId} {v : Value} {y : DataW H} {ps : List MemPlace} (ht : P.underlying t = some (.slice e)) (hk : kinds P d e = some [k]) (hf : ∀ x, kd x = some k → ∃ a, x = f a) (hval : Value.okWide P w r b0 t v)
  (hd : DataW.Trod enc P w base (fun _ => true) held t v y ps) : ∃ (l : List α) (rb : RB), l.length ≤ maxLen ∧ (∀ ρ id, ρ id = some rb → Rel ρ (.sl id 0 l.length 1 false) v) ∧ ∀ ρ, BRel ρ w rb (.ro (l.map f)) := by
 obtain ⟨n, ys, rb, hm, hy, h1, h2⟩ := open_row_k ht hk (by simp) hval hd
 rw [flat_rep1] at hy
 obtain ⟨l, rfl, rfl⟩ := kd_rep hf hy
 exact ⟨l, rb, hm, h1, h2⟩
end
end Go.Sh
namespace Go.Sh
open Go.ChangeShapes Go.WideShapes Go.ChangeAt Go.RowKit
abbrev Part := Value × RB × List UInt8
def pFe (p : Part) : FE := ⟨p.1, p.2.1, p.2.2.length, 1, p.2.2.map .u8⟩
def pLit (p : Part) : SV := .lit p.1
def pTx (ps : List Part) (i : Nat) : List UInt8 := ((ps.take i).map (fun p => p.2.2)).flatten
theorem pTx_z (ps : List Part) : pTx ps 0 = [] := rfl
theorem pTx_s {ps : List Part} {i : Nat} {p : Part} (h : ps[i]? = some p) : pTx ps (i + 1) = pTx ps i ++ p.2.2 := by
 unfold pTx
 rw [List.take_add_one, h]; simp
theorem pTx_e (ps : List Part) : pTx ps ps.length = (ps.map (fun p => p.2.2)).flatten := by unfold pTx; rw [List.take_length]
theorem pTx_le (ps : List Part) (i : Nat) : (pTx ps i).length ≤ (pTx ps ps.length).length := by
 have e : pTx ps ps.length = pTx ps i ++ ((ps.drop i).map (fun p => p.2.2)).flatten := by
  unfold pTx; rw [List.take_length, ← List.flatten_append, ← List.map_append, List.take_append_drop]
 rw [e, List.length_append]; omega
@[simp] theorem plainL_lit (ps : List Part) : plainL (ps.map pLit) = true := by
 induction ps with
 | nil => rfl
 | cons p ps ih => rw [List.map_cons, plainL_cons, ih]; rfl
theorem focus_p {A : Nat} {R : RL} {H : HL} {L : Nat} (t q : Nat) {l : List FE} {v : Value} {rb : RB} {b : List UInt8} (hq : hk H q = some (.ext (.fam l))) (he : pFe (v, rb, b) ∈ l) (ht : lk t R = some (.lit v)) :
  Weak A R H L ((t, .sl L 0 b.length 1 false) :: R) (hupd H [(L, some (.ro (b.map .u8)))]) (L + 1) := Weak.focus t q hq he ht
theorem sops_p {P : Program} {N : Nat} {ops : Array Oper} {Q : RL → HL → Nat → Prop} {os : List Oper} {R : RL} {H : HL} {L : Nat} (t q : Nat) {l : List FE} {v : Value} {rb : RB} {b : List UInt8} (hq : hk H q = some (.ext (.fam l))) (he : pFe (v, rb, b) ∈ l) (ht : lk t R = some (.lit v))
  (h : SOps P N ops Q os ((t, .sl L 0 b.length 1 false) :: R) (hupd H [(L, some (.ro (b.map .u8)))]) (L + 1)) : SOps P N ops Q os R H L := sops_focus t q hq he ht h
theorem sload_lit {ps : List Part} {i : Nat} {p : Part} (h : ps[i]? = some p) : sload false 1 (ps.map pLit) (0 + i * 1) = some (.lit p.1) := by
 show (ps.map pLit)[0 + i * 1]? = _
 rw [Nat.zero_add, Nat.mul_one, List.getElem?_map, h]; rfl
section
variable {H : Type} {enc : TypeId × Value → H} {P : Program} {w : World} {base : Nat} {held : Bool}
theorem open_part {d : Nat} {t e : TypeId} {cs : List Value} (ht : P.underlying t = some (.slice e)) (hk : kinds P d e = some [1]) (hr : Rd enc P w base (fun _ => true) held t cs) :
  ∃ p : Part, p.2.2.length ≤ maxLen ∧ cs = [p.1] ∧ (∃ a n c, p.1 = .slice a n c) ∧ FEOk w (pFe p) := by
 rcases open_row ht (kinds_size hk) (by simp) rfl hr with rfl | ⟨a, len, cap, vs, rfl, hrow⟩
 ·
  exact ⟨(.slice none 0 0, ⟨0, 0, 0, true⟩, []), Nat.zero_le _, rfl, ⟨_, _, _, rfl⟩, ⟨none, 0, rfl, Nat.le_refl _, .inl rfl⟩, .inl rfl⟩
 ·
  have hle : len * [1].length ≤ cap * [1].length := Nat.mul_le_mul_right _ hrow.le
  obtain ⟨ys, hy, hyr⟩ := chunks (R := fun c => Rd enc P w base (fun _ => true) held e c) (fun c hc => open_kinds hk hc) vs len (by rw [hrow.len]; exact hle) (fun i hi => hrow.read i (Nat.lt_of_lt_of_le hi hrow.le))
  have hb := (hrow.block (hyr (fun _ => none)) (kd_atoms hy)).2
  rw [flat_rep1] at hy
  obtain ⟨b, rfl, rfl⟩ := kd_rep (f := SV.u8) (fun _ => kd_1) hy
  refine ⟨(.slice (some a) b.length cap, ⟨a.block, a.off, cap * 1, false⟩, b), Nat.le_trans hrow.le hrow.most, rfl, ⟨_, _, _, rfl⟩, ⟨some a, cap, rfl, hrow.le, ?_⟩, ?_⟩
  ·
   by_cases h0 : cap = 0
   ·
    exact .inl h0
   ·
    refine .inr ⟨rfl, ?_, Nat.le_refl _⟩
    have := hrow.spot (by omega)
    cases a; simp only at this; subst this; rfl
  ·
   exact hb
theorem open_parts {d : Nat} {e e2 : TypeId} (ht : P.underlying e = some (.slice e2)) (hk : kinds P d e2 = some [1]) (he : psz P e = some 1) (vs : List Value) : ∀ n : Nat, n ≤ vs.length →
  (∀ i, i < n → Rd enc P w base (fun _ => true) held e ((vs.drop (i * 1)).take 1)) → ∃ ps : List Part, ps.length = n ∧ (∀ p ∈ ps, p.2.2.length ≤ maxLen ∧ FEOk w (pFe p)) ∧ ∀ ρ, Rels ρ (ps.map pLit) (vs.take (n * 1))
 | 0, _, _ => ⟨[], rfl, by simp, fun ρ => by simp [Rels]⟩
 | n + 1, hl, h => by
  obtain ⟨ps, h1, h2, h3⟩ := open_parts ht hk he vs n (by omega) (fun i hi => h i (by omega))
  obtain ⟨p, q1, q2, ⟨a, m, c, q3⟩, q4⟩ := open_part ht hk (h n (by omega))
  refine ⟨ps ++ [p], by rw [List.length_append, h1, List.length_singleton], fun x hx => ?_, fun ρ => ?_⟩
  ·
   rcases List.mem_append.1 hx with hx | hx
   ·
    exact h2 x hx
   ·
    rw [List.mem_singleton] at hx; subst hx; exact ⟨q1, q4⟩
  ·
   rw [show (n + 1) * 1 = n * 1 + 1 from by omega, List.take_add, List.map_append, q2]
   exact Rels.append (h3 ρ) (Rels.cons (by simp only [pLit, Rel, true_and]; exact ⟨a, m, c, q3⟩) (Rels.nil_iff.2 rfl))
theorem atoms_lit (ps : List Part) : atoms (ps.map pLit) = true := by induction ps <;> simp_all [atoms, SV.atom, pLit]
theorem open_row_p {r : Reach} {b0 d : Nat} {e e2 t : TypeId} {v : Value} {y : DataW H} {pl : List MemPlace} (ht : P.underlying t = some (.slice e)) (he : P.underlying e = some (.slice e2)) (hs : psz P e = some 1) (hk : kinds P d e2 = some [1]) (hval : Value.okWide P w r b0 t v)
  (hd : DataW.Trod enc P w base (fun _ => true) held t v y pl) : ∃ (ps : List Part) (rb : RB), ps.length ≤ maxLen ∧ (∀ p ∈ ps, p.2.2.length ≤ maxLen) ∧ (∀ ρ id, ρ id = some rb → Rel ρ (.sl id 0 ps.length 1 false) v) ∧ (∀ ρ, BRel ρ w rb (.ro (ps.map pLit))) ∧ ∀ ρ rb2, BRel ρ w rb2 (.ext (.fam (ps.map pFe))) := by
 obtain ⟨a, len, cap, rfl⟩ := okWide_slice ht hval
 obtain ⟨fuel, hf⟩ := hd
 have hcs : (Value.slice a len cap).cells.toList = [.slice a len cap] := rfl
 rw [hcs] at hf
 rcases open_row ht hs (by decide) rfl ⟨fuel, _, hf⟩ with h | ⟨a', len', cap', vs, h, hrow⟩
 ·
  cases h
  refine ⟨[], ⟨0, 0, 0, true⟩, Nat.zero_le _, by simp, fun ρ id hr => ?_, fun ρ => .inl rfl, fun ρ rb2 e he => by simp at he⟩
  simp only [Rel]
  exact ⟨_, none, 0, hr, rfl, Nat.le_refl _, fun h => (by cases h), .inl rfl⟩
 ·
  cases h
  have hle : len ≤ vs.length := by rw [hrow.len]; have := hrow.le; omega
  obtain ⟨ps, h1, h2, h3⟩ := open_parts he hk hs vs len hle (fun i hi => hrow.read i (Nat.lt_of_lt_of_le hi hrow.le))
  subst h1
  refine ⟨ps, _, Nat.le_trans hrow.le hrow.most, fun p hp => (h2 p hp).1, fun ρ id hid => (hrow.block (h3 ρ) (atoms_lit ps)).1 id hid, fun ρ => (hrow.block (h3 ρ) (atoms_lit ps)).2, fun ρ rb2 e he => ?_⟩
  obtain ⟨p, hp, rfl⟩ := List.mem_map.1 he
  exact (h2 p hp).2
end
end Go.Sh
namespace Go.Sh
theorem rels_same {ρ : Ren} {xs : List SV} {vs : List Value} {k : Nat} {x y : SV} (h : Rels ρ xs vs) (hk : xs[k]? = some x) (hy : ∀ v, Rel ρ x v → Rel ρ y v) : Rels ρ (xs.set k y) vs := by
 obtain ⟨v, hv, hr⟩ := h.get hk
 have h2 := h.set (k := k) (hy v hr)
 have e : vs.set k v = vs := by
  apply List.ext_getElem?
  intro j
  rw [List.getElem?_set]
  by_cases hj : k = j
  ·
   subst hj
   obtain ⟨hlt, e⟩ := List.getElem?_eq_some_iff.1 hv
   rw [if_pos rfl, if_pos hlt, hv]
  ·
   rw [if_neg hj]
 rwa [e] at h2
theorem atoms_set {xs : List SV} {k : Nat} {x : SV} (h : atoms xs = true) (hx : x.atom = true) : atoms (xs.set k x) = true := by
 unfold atoms at *
 rw [List.all_eq_true] at *
 intro y hy
 rcases List.mem_or_eq_of_mem_set hy with h2 | h2
 ·
  exact h y h2
 ·
  rw [h2]; exact hx
theorem Weak.cell {A : Nat} {R : RL} {H : HL} {L : Nat} (q k : Nat) (x y : SV) {l : List SV} (hq : hk H q = some (.box l)) (hx : l[k]? = some x) (ha : y.atom = true) (hL : H.length ≤ L)
  (hy : ∀ ρ w, HRel ρ (hg H) w → ∀ v, Rel ρ x v → Rel ρ y v) : Weak A R H L R (hupd H [(q, some (.box (l.set k y)))]) L := by
 intro N B ρ a w hs hl
 have hq0 := hq
 rw [hk_eq] at hq
 have hg2 : ∀ id, hg (hupd H [(q, some (.box (l.set k y)))]) id = if id = q then some (.box (l.set k y)) else hg H id := fun id => by
  rw [hg_hupd]
  by_cases h : id = q
  ·
   subst h; simp [updW]
  ·
   have : (id == q) = false := by simpa using h
   simp [updW, List.lookup_cons, this, h]
 have hf : ∀ rb kk o, foot rb (.box (l.set k y)) kk o ↔ foot rb (.box l) kk o := fun rb kk o => by simp only [foot, List.length_set]
 have hown : ∀ kk o, Owned ρ (hg (hupd H [(q, some (.box (l.set k y)))])) kk o → Owned ρ (hg H) kk o := by
  rintro kk o ⟨id, b, rb, h1, h2, h3, h4⟩
  rw [hg2] at h1
  by_cases h : id = q
  ·
   rw [if_pos h] at h1; cases h1; subst h; exact ⟨id, _, rb, hq, h2, rfl, (hf _ _ _).1 h4⟩
  ·
   rw [if_neg h] at h1; exact ⟨id, b, rb, h1, h2, h3, h4⟩
 refine ⟨ρ, ⟨hs.size, hs.regs, ?_, ?_, hs.fresh, hs.dfr⟩, ?_, ⟨fun id _ rb h => h, Fr.refl _ _, fun kk o h => .inl (hown kk o h)⟩⟩
 ·
  intro id b hb
  rw [hg2] at hb
  by_cases h : id = q
  ·
   rw [if_pos h] at hb; cases hb; subst h
   obtain ⟨rb, h1, ⟨c, t, fz, g1, g2, g3, g4, g5⟩, g6, g7⟩ := hs.heap id _ hq
   refine ⟨rb, h1, ⟨c, t, fz, g1, atoms_set g2 ha, ?_, g4, by rw [List.length_set]; exact g5⟩, by rw [List.length_set]; exact g6, g7⟩
   rw [List.length_set]
   exact rels_same g3 hx (hy ρ w hs.heap)
  ·
   rw [if_neg h] at hb; exact hs.heap id b hb
 ·
  intro i j bi bj ri rj hne hi hj hri hrj hb kk o ⟨hfi, hfj⟩
  rw [hg2] at hi hj
  by_cases h1 : i = q
  ·
   rw [if_pos h1] at hi; cases hi
   rw [if_neg (fun e => hne (by rw [h1, e]))] at hj
   subst h1
   exact hs.sep i j _ bj ri rj hne hq hj hri hrj rfl kk o ⟨(hf _ _ _).1 hfi, hfj⟩
  ·
   rw [if_neg h1] at hi
   by_cases h2 : j = q
   ·
    rw [if_pos h2] at hj; cases hj
    subst h2
    exact hs.sep i j bi _ ri rj hne hi hq hri hrj hb kk o ⟨hfi, (hf _ _ _).1 hfj⟩
   ·
    rw [if_neg h2] at hj
    exact hs.sep i j bi bj ri rj hne hi hj hri hrj hb kk o ⟨hfi, hfj⟩
 ·
  have := hk_lt hl hq0
  exact hupd_le hL (fun id ob hm => by simp at hm; omega)
theorem Weak.virt0 {A : Nat} {R : RL} {H : HL} {L : Nat} (ty : Nat) : Weak A R H L R (hupd H [(L, some (.row ty []))]) (L + 1) := by
 intro N B ρ a w hs hl
 have hc := Chg.virtual (ρ := ρ) (H := hg H) (w := w) (t := ty) (hs.fresh L (Nat.le_refl _))
 have hev := hc.evo (H := hg H) (fun _ _ _ => rfl) hs.heap hs.sep
 rw [← hg_hupd] at hev
 refine ⟨_, ⟨hs.size, fun t v hv => (hs.regs t v hv).ext hev.ext, hev.heap, hev.sep, ?_, hs.dfr⟩, ?_, hev.ev.toA⟩
 ·
  intro id hid
  rw [setR_other _ _ (by omega)]
  exact hs.fresh id (by omega)
 ·
  exact hupd_le (by omega) (fun id ob hm => by simp at hm; omega)
theorem Weak.virtB {A : Nat} {R : RL} {H : HL} {L : Nat} (q k ty sz : Nat) {l : List SV} {H2 : HL} (hH2 : hupd H [(L, some (.row ty []))] = H2) (hl2 : Nat.ble H2.length (L + 1) = true) (hL : hk H2 L = some (.row ty [])) (hq : hk H2 q = some (.box l)) (hx : l[k]? = some .slnil) : Weak A R H L R (hupd H2 [(q, some (.box (l.set k (.sl L 0 0 sz false))))]) (L + 1) := by
 subst hH2
 refine (Weak.virt0 ty).trans (Weak.cell q k .slnil _ hq hx rfl (Nat.le_of_ble_eq_true hl2) ?_)
 intro ρ w hH v hv
 simp only [Rel] at hv ⊢
 rw [hk_eq] at hL
 obtain ⟨rb, h1, _⟩ := hH L _ hL
 exact ⟨rb, none, 0, h1, hv, Nat.le_refl _, fun h => (by cases h), .inl rfl⟩
end Go.Sh
namespace Go.Sh
variable {α : Type}
def fil (n i : Nat) (f g : Nat → α) : List α := (List.range n).map (fun j => if j < i then f j else g j)
theorem fil_len (n i : Nat) (f g : Nat → α) : (fil n i f g).length = n := by simp [fil]
theorem fil_zero (n : Nat) (f : Nat → α) (z : α) : fil n 0 f (fun _ => z) = List.replicate n z := by
 apply List.ext_getElem?; intro j; by_cases h : j < n <;> simp [fil, h]
theorem fil_full (n : Nat) (f g : Nat → α) : fil n n f g = (List.range n).map f := by
 unfold fil; apply List.map_congr_left; intro j hj; rw [if_pos (by simpa using hj)]
theorem fil_getD {n i j : Nat} {f g : Nat → α} {d : α} (h : j < n) : (fil n i f g).getD j d = if j < i then f j else g j := by
 rw [List.getD_eq_getElem?_getD]; simp [fil, h]
theorem fil_set {n i : Nat} {f g : Nat → α} (h : i < n) : (fil n i f g).set i (f i) = fil n (i + 1) f g := by
 apply List.ext_getElem?; intro j
 rw [List.getElem?_set]
 by_cases hj : i = j
 ·
  subst hj; simp [fil, h]
 ·
  rw [if_neg hj]
  by_cases h2 : j < n
  ·
   simp only [fil, List.getElem?_map, List.getElem?_range h2, Option.map_some]
   by_cases h3 : j < i
   ·
    rw [if_pos h3, if_pos (by omega)]
   ·
    rw [if_neg h3, if_neg (by omega)]
  ·
   simp [fil, h2]
theorem fil_setx {n i : Nat} {f g : Nat → α} {x : α} (h : i < n) (hx : x = f i) : (fil n i f g).set i x = fil n (i + 1) f g := by subst hx; exact fil_set h
theorem fil_same {n i : Nat} {f g : Nat → α} {x : α} (h : i < n) (hx : x = g i) : (fil n i f g).set i x = fil n i f g := by
 apply List.ext_getElem?; intro j
 rw [List.getElem?_set]
 by_cases hj : i = j
 ·
  subst hj; subst hx; simp [fil, h]
 ·
  rw [if_neg hj]
theorem fil_of_list {n : Nat} {f : Nat → α} {l : List α} {d : α} (h : l.length = n) : fil n 0 f (fun j => l.getD j d) = l := by
 apply List.ext_getElem?; intro j
 by_cases h2 : j < n
 ·
  simp only [fil, List.getElem?_map, List.getElem?_range h2, Option.map_some, Nat.not_lt_zero, if_false]
  rw [List.getD_eq_getElem?_getD, List.getElem?_eq_getElem (by omega)]; rfl
 ·
  rw [List.getElem?_eq_none (by simp [fil_len]; omega), List.getElem?_eq_none (by omega)]
theorem rng_getD {n j : Nat} {f : Nat → α} {d : α} (h : j < n) : ((List.range n).map f).getD j d = f j := by
 rw [List.getD_eq_getElem?_getD]; simp [h]
theorem rng_len {n : Nat} {f : Nat → α} : ((List.range n).map f).length = n := by simp
theorem rng_succ {n : Nat} {f : Nat → α} : (List.range (n + 1)).map f = (List.range n).map f ++ [f n] := by rw [List.range_succ]; simp
theorem set_get_set {l : List UInt8} {i : Nat} {x c : UInt8} (h : i < l.length) : (l.set i x).set i ((l.set i x).getD i 0 + c) = l.set i (x + c) := by
 rw [List.getD_eq_getElem?_getD, List.getElem?_set]; simp [h]
theorem getD_app_l {l m : List α} {i : Nat} {d : α} (h : i < l.length) : (l ++ m).getD i d = l.getD i d := by
 rw [List.getD_eq_getElem?_getD, List.getD_eq_getElem?_getD, List.getElem?_append_left h]
theorem getD_app_r {l m : List α} {i j : Nat} {d : α} (h : i = l.length + j) : (l ++ m).getD i d = m.getD j d := by
 subst h; rw [List.getD_eq_getElem?_getD, List.getD_eq_getElem?_getD, List.getElem?_append_right (by omega)]; congr 2; omega
theorem ren_m8 {sel : List Nat} {l m : List UInt8} (h : l = m) : renL sel (l.map .u8) = some (m.map .u8) := by subst h; exact renL_plain sel (plainL_u8 l)
theorem ren_m32 {sel : List Nat} {l m : List UInt32} (h : l = m) : renL sel (l.map .u32) = some (m.map .u32) := by subst h; exact renL_plain sel (plainL_u32 l)
theorem ren_m64 {sel : List Nat} {l m : List UInt64} (h : l = m) : renL sel (l.map .u64) = some (m.map .u64) := by subst h; exact renL_plain sel (plainL_u64 l)
theorem ren_mi {sel : List Nat} {l m : List Int} (h : l = m) : renL sel (l.map .i) = some (m.map .i) := by subst h; exact renL_plain sel (plainL_i l)
theorem app1 {l : List UInt8} {n : Nat} {y : UInt8} (h : l.length = n) : List.take (n * 1) (List.drop 0 (l.map SV.u8)) ++ List.take (1 * 1) (List.drop 0 [SV.u8 y]) = (l ++ [y]).map SV.u8 := by
 rw [List.drop_zero, List.take_of_length_le (by simp; omega)]; simp
end Go.Sh
namespace Go.Sh
theorem rel_plain {ρ ρ' : Ren} {x : SV} {v : Value} (h : plainV x = true) (hr : Rel ρ x v) : Rel ρ' x v := by
 cases x <;> simp only [plainV, Bool.false_eq_true] at h <;> simpa only [Rel] using hr
theorem rels_plain {ρ ρ' : Ren} : ∀ {l : List SV} {vs : List Value}, plainL l = true → Rels ρ l vs → Rels ρ' l vs
 | [], _, _, h => by simpa only [Rels] using h
 | x :: l, vs, hp, h => by
  simp only [plainL, List.all_cons, Bool.and_eq_true] at hp
  simp only [Rels] at h ⊢
  obtain ⟨y, ys, e, hy, hys⟩ := h
  exact ⟨y, ys, e, rel_plain hp.1 hy, rels_plain (by simpa [plainL] using hp.2) hys⟩
def skp (j n : Nat) : List Nat := (List.range n).map fun k => if k = j then 1000000 else k
theorem pull_skp {j n : Nat} {ρ ρ' : Ren} (h : ∀ id, id ≠ j → ρ id = ρ' id) (hj : j ≠ 1000000) : pullR (skp j n) ρ = pullR (skp j n) ρ' := by
 funext k
 simp only [pullR, skp, List.getElem?_map]
 by_cases hk : k < n
 ·
  rw [List.getElem?_range hk]
  simp only [Option.map_some]
  by_cases hkj : k = j
  ·
   rw [if_pos hkj]; exact h _ (fun e => hj e.symm)
  ·
   rw [if_neg hkj]; exact h _ hkj
 ·
  rw [List.getElem?_eq_none (by simp; omega)]; rfl
def shA (j o : Nat) : SV → SV
 | .sl id q n sz f => match Nat.beq id j with | true => .sl id (o + q) n sz f | false => .sl id q n sz f
 | x => x
def isSl (j : Nat) : SV → Bool
 | .sl id _ _ _ _ => Nat.beq id j
 | _ => false
def argOk (j n : Nat) : List SV → Prop
 | [] => True
 | x :: xs => (isSl j x = true ∨ (isSl j x = false ∧ renV (skp j n) x = some x)) ∧ argOk j n xs
def blkOk (j n : Nat) : Nat → HL → Prop
 | _, [] => True
 | k, none :: H => blkOk j n (k + 1) H
 | k, some b :: H => (k = j ∨ plainB b = true ∨ renB (skp j n) b = some b) ∧ blkOk j n (k + 1) H
theorem blkOk_get {j n : Nat} : ∀ {H : HL} {k id : Nat} {b : SB}, blkOk j n k H → hg H id = some b → k + id = j ∨ renB (skp j n) b = some b
 | [], k, id, b, _, h => by simp [hg] at h
 | none :: H, k, 0, b, _, h => by simp [hg] at h
 | none :: H, k, id + 1, b, ho, h => by
  have := blkOk_get (H := H) (k := k + 1) (id := id) ho (by simpa [hg] using h)
  rcases this with e | e
  ·
   exact .inl (by omega)
  ·
   exact .inr e
 | some b1 :: H, k, 0, b, ho, h => by
  have e : b1 = b := by simpa [hg] using h
  subst e
  rcases ho.1 with h1 | h1 | h1
  ·
   exact .inl (by omega)
  ·
   exact .inr (renB_plain _ h1)
  ·
   exact .inr h1
 | some b1 :: H, k, id + 1, b, ho, h => by
  have := blkOk_get (H := H) (k := k + 1) (id := id) ho.2 (by simpa [hg] using h)
  rcases this with e | e
  ·
   exact .inl (by omega)
  ·
   exact .inr e
theorem hg_set {H : HL} {j id : Nat} {b : SB} (hj : j < H.length) : hg (H.set j (some b)) id = if id = j then some b else hg H id := by
 unfold hg
 rw [List.getElem?_set]
 by_cases h : j = id
 ·
  subst h; simp [hj]
 ·
  rw [if_neg h, if_neg (fun e => h e.symm)]
theorem SCall.sub {P : Program} {f : Nat} {args : List SV} {H0 : HL} {ret : SV} {H1 : HL} (h : SCall P f args H0 ret H1) (j o : Nat) (L l0 : List SV) (n : Nat)
  (hj0 : hg H0 j = some (.ro l0)) (hj1 : hg H1 j = some (.ro l0)) (hL : (L.drop o).take l0.length = l0) (hp : plainL L = true) (hp0 : plainL l0 = true) (hjn : j ≠ 1000000)
  (ha : argOk j n args) (hr : renV (skp j n) ret = some ret) (h0 : blkOk j n 0 H0) (h1 : blkOk j n 0 H1) :
  SCall P f (args.map (shA j o)) (H0.set j (some (.ro L))) ret (H1.set j (some (.ro L))) := by
 have hjl0 : j < H0.length := by unfold hg at hj0; rcases Nat.lt_or_ge j H0.length with h | h; exact h; rw [List.getElem?_eq_none h] at hj0; simp at hj0
 have hjl1 : j < H1.length := by unfold hg at hj1; rcases Nat.lt_or_ge j H1.length with h | h; exact h; rw [List.getElem?_eq_none h] at hj1; simp at hj1
 have hlen : l0.length ≤ L.length - o := by have := congrArg List.length hL; simp at this; omega
 refine ⟨h.fn, fun nn ρ w vs hA hH hS hF => ?_⟩
 obtain ⟨rb, hρ, hB⟩ := hH j (.ro L) (by rw [hg_set hjl0, if_pos rfl])
 let rbs : RB := { rb with off := rb.off + o, cap := rb.cap - o }
 let ρs : Ren := fun id => if id = j then some rbs else ρ id
 have hρs : ∀ id, id ≠ j → ρs id = ρ id := fun id hid => if_neg hid
 have hsj : ρs j = some rbs := if_pos rfl
 have tr : ∀ {ρa ρb : Ren} {x : SV} {v : Value}, (∀ id, id ≠ j → ρa id = ρb id) → renV (skp j n) x = some x → Rel ρa x v → Rel ρb x v := by
  intro ρa ρb x v e hx hv
  have h1 := (rel_ren x hx (ρ := ρa)).2 hv
  rw [pull_skp e hjn] at h1
  exact (rel_ren x hx (ρ := ρb)).1 h1
 have trB : ∀ {ρa ρb : Ren} {b : SB} {w : World} {r : RB}, (∀ id, id ≠ j → ρa id = ρb id) → renB (skp j n) b = some b → BRel ρa w r b → BRel ρb w r b := by
  intro ρa ρb b w r e hx hv
  have h1 := (brel_ren hx (ρ := ρa) (w := w) (rb := r)).2 hv
  rw [pull_skp e hjn] at h1
  exact (brel_ren hx).1 h1
 -- the arguments
 have hA' : Rels ρs args vs := by
  have : ∀ (xs : List SV) (us : List Value), argOk j n xs → Rels ρ (xs.map (shA j o)) us → Rels ρs xs us := by
   intro xs
   induction xs with
   | nil => intro us _ h; simpa only [List.map_nil, Rels] using h
   | cons x xs ih =>
    intro us hok h
    simp only [List.map_cons, Rels] at h ⊢
    obtain ⟨y, ys, e, hy, hys⟩ := h
    refine ⟨y, ys, e, ?_, ih ys hok.2 hys⟩
    rcases hok.1 with hx | ⟨hx0, hx⟩
    ·
     cases x with
     | sl id q nn2 sz full =>
      simp only [isSl] at hx
      have hid : id = j := Nat.eq_of_beq_eq_true hx
      subst hid
      simp only [shA, hx, Rel] at hy
      obtain ⟨rb2, a, c, g1, g2, g3, g4, g5⟩ := hy
      rw [hρ] at g1; cases g1
      simp only [Rel]
      refine ⟨rbs, a, c, hsj, g2, g3, g4, ?_⟩
      rcases g5 with g5 | ⟨g5, g6, g7⟩
      ·
       exact .inl g5
      ·
       exact .inr ⟨g5, by rw [g6]; simp only [rbs, Nat.add_assoc], by simp only [rbs]; omega⟩
     | _ => simp [isSl] at hx
    ·
     have e2 : shA j o x = x := by
      cases x <;> first | rfl | (simp only [isSl] at hx0; simp only [shA, hx0])
     rw [e2] at hy
     exact tr (fun id hid => (hρs id hid).symm) hx hy
  exact this args vs ha hA
 -- the block
 have hBs : ∀ {ρ1 : Ren} {w1 : World}, BRel ρ1 w1 rb (.ro L) → BRel ρs w1 rbs (.ro l0) := by
  intro ρ1 w1 hb
  by_cases hl0 : l0 = []
  ·
   exact .inl hl0
  have hpos : 0 < l0.length := List.length_pos_iff.2 hl0
  rcases hb with rfl | ⟨⟨c, t, fz, g1, g2, g3, g4, g5⟩, g6, g7⟩
  ·
   exact absurd (List.eq_nil_of_length_eq_zero (by simpa using hlen)) hl0
  ·
   right
   refine ⟨⟨c, t, fz, g1, ?_, ?_, fun h => (by cases h), ?_⟩, by simp only [rbs]; omega, g7⟩
   ·
    have : ∀ l : List SV, plainL l = true → atoms l = true := by
     intro l; induction l with
     | nil => intro _; rfl
     | cons x xs ih =>
      intro h
      simp only [plainL, List.all_cons, Bool.and_eq_true] at h
      simp only [atoms, List.all_cons, Bool.and_eq_true]
      exact ⟨by cases x <;> simp_all [plainV, SV.atom], by simpa [atoms] using ih (by simpa [plainL] using h.2)⟩
    exact this l0 hp0
   ·
    have := Rels.take l0.length (Rels.drop o g3)
    rw [hL] at this
    have e : List.take l0.length (List.drop o (List.take L.length (List.drop rb.off c.toList))) = List.take l0.length (List.drop rbs.off c.toList) := by
     simp only [rbs]
     rw [List.drop_take, List.drop_drop, List.take_take]
     congr 1; omega
    rw [e] at this
    exact rels_plain hp0 this
   ·
    simp only [rbs]; omega
 have hgt : ∀ {H : HL} {b : SB}, j < H.length → hg (H.set j (some b)) j = some b := fun {H b} hl => by rw [hg_set hl, if_pos rfl]
 have hgo : ∀ {H : HL} {b : SB} {id : Nat}, j < H.length → id ≠ j → hg (H.set j (some b)) id = hg H id := fun {H b id} hl hid => by rw [hg_set hl, if_neg hid]
 have hHs : HRel ρs (hg H0) w := by
  intro id b hb
  by_cases hid : id = j
  ·
   subst hid
   rw [hj0] at hb; cases hb
   exact ⟨rbs, hsj, hBs hB⟩
  ·
   obtain ⟨r, e1, e2⟩ := hH id b (by rw [hgo hjl0 hid]; exact hb)
   exact ⟨r, by rw [hρs id hid]; exact e1, trB (fun id hid => (hρs id hid).symm) ((blkOk_get h0 hb).resolve_left (by omega)) e2⟩
 have hfoot : ∀ k q, foot rbs (.ro l0) k q → foot rb (.ro L) k q := fun k q ⟨e1, e2, e3⟩ => by
  simp only [rbs] at e1 e2 e3
  exact ⟨e1, by omega, by omega⟩
 have hown : ∀ k q, Owned ρs (hg H0) k q → Owned ρ (hg (H0.set j (some (.ro L)))) k q ∧ ¬ foot rb (.ro L) k q := by
  rintro k q ⟨id, b, r, e1, e2, e3, e4⟩
  have hid : id ≠ j := fun e => by subst e; rw [hj0] at e1; cases e1; cases e3
  rw [hρs id hid] at e2
  exact ⟨⟨id, b, r, by rw [hgo hjl0 hid]; exact e1, e2, e3, e4⟩, fun hf => hS id j b (.ro L) r rb hid (by rw [hgo hjl0 hid]; exact e1) (hgt hjl0) e2 hρ e3 k q ⟨e4, hf⟩⟩
 have hSs : Sep ρs (hg H0) := by
  intro i k bi bk ri rk hne hi hk hri hrk hw q p ⟨hfi, hfk⟩
  have hij : i ≠ j := fun e => by subst e; rw [hj0] at hi; cases hi; cases hw
  rw [hρs i hij] at hri
  by_cases hkj : k = j
  ·
   subst hkj
   rw [hj0] at hk; cases hk
   rw [hsj] at hrk; cases hrk
   exact hS i k bi (.ro L) ri rb hne (by rw [hgo hjl0 hij]; exact hi) (hgt hjl0) hri hρ hw q p ⟨hfi, hfoot q p hfk⟩
  ·
   rw [hρs k hkj] at hrk
   exact hS i k bi bk ri rk hne (by rw [hgo hjl0 hij]; exact hi) (by rw [hgo hjl0 hkj]; exact hk) hri hrk hw q p ⟨hfi, hfk⟩
 have hFs : ∀ id, H0.length ≤ id → ρs id = none := fun id hid => by
  rw [hρs id (by omega)]; exact hF id (by simpa using hid)
 refine (h.call nn ρs w vs hA' hHs hSs hFs).mono fun e w' hR => ?_
 cases e with
 | returned v =>
  obtain ⟨ρ1, q1, q2, q3, q4, q5⟩ := hR
  let ρ2 : Ren := fun id => if id = j then some rb else ρ1 id
  have h21 : ∀ id, id ≠ j → ρ2 id = ρ1 id := fun id hid => if_neg hid
  have h2j : ρ2 j = some rb := if_pos rfl
  have hB2 : BRel ρ2 w' rb (.ro L) := by
   rcases hB with hB | ⟨⟨c, t, fz, g1, g2, g3, g4, g5⟩, g6, g7⟩
   ·
    exact .inl hB
   ·
    obtain ⟨c', fz', k1, k2, _, k3⟩ := q5.fr.blk rb.blk _ g1
    have hsame : ∀ i, rb.off ≤ i → i < rb.off + L.length → c'[i]? = c[i]? := fun i h1 h2 => k3 i fun ho => (hown _ _ ho).2 ⟨rfl, h1, h2⟩
    have e : List.take L.length (List.drop rb.off c'.toList) = List.take L.length (List.drop rb.off c.toList) := by
     apply List.ext_getElem?
     intro i
     by_cases hi : i < L.length
     ·
      rw [List.getElem?_take_of_lt hi, List.getElem?_take_of_lt hi, List.getElem?_drop, List.getElem?_drop, Array.getElem?_toList, Array.getElem?_toList]
      exact hsame _ (by omega) (by omega)
     ·
      rw [List.getElem?_eq_none (by simp; omega), List.getElem?_eq_none (by simp; omega)]
    exact .inr ⟨⟨c', t, fz', k1, g2, by rw [e]; exact rels_plain hp g3, fun h => (by cases h), by omega⟩, g6, g7⟩
  refine ⟨ρ2, tr (fun id hid => (h21 id hid).symm) hr q1, ?_, ?_, ?_, ?_, ?_, ?_⟩
  ·
   intro id b hb
   by_cases hid : id = j
   ·
    subst hid
    rw [hgt hjl1] at hb; cases hb
    exact ⟨rb, h2j, hB2⟩
   ·
    rw [hgo hjl1 hid] at hb
    obtain ⟨r, e1, e2⟩ := q2 id b hb
    exact ⟨r, by rw [h21 id hid]; exact e1, trB (fun id hid => (h21 id hid).symm) ((blkOk_get h1 hb).resolve_left (by omega)) e2⟩
  ·
   intro i k bi bk ri rk hne hi hk hri hrk hw q p ⟨hfi, hfk⟩
   have hij : i ≠ j := fun e => by subst e; rw [hgt hjl1] at hi; cases hi; cases hw
   rw [h21 i hij] at hri
   rw [hgo hjl1 hij] at hi
   by_cases hkj : k = j
   ·
    subst hkj
    rw [hgt hjl1] at hk; cases hk
    rw [h2j] at hrk; cases hrk
    have hb := q5.own q p ⟨i, bi, ri, hi, hri, hw, hfi⟩
    rcases hb with hb | hb
    ·
     exact (hown _ _ hb).2 hfk
    ·
     rcases hB with hB | ⟨⟨c, t, fz, g1, _⟩, _⟩
     ·
      subst hB; have := hfk.2; simp at this; omega
     ·
      have hlt := (Array.getElem?_eq_some_iff.1 g1).1
      have := hfk.1
      omega
   ·
    rw [h21 k hkj] at hrk
    rw [hgo hjl1 hkj] at hk
    exact q3 i k bi bk ri rk hne hi hk hri hrk hw q p ⟨hfi, hfk⟩
  ·
   intro id hid
   rw [List.length_set] at hid
   rw [h21 id (by omega)]; exact q4 id hid
  ·
   intro id hid r hr2
   rw [List.length_set] at hid
   by_cases hij : id = j
   ·
    subst hij; rw [hρ] at hr2; cases hr2; exact h2j
   ·
    rw [h21 id hij]; exact q5.ext id hid r (by rw [hρs id hij]; exact hr2)
  ·
   exact q5.fr.mono (fun k q _ ho => (hown k q ho).1)
  ·
   rintro k q ⟨id, b, r, e1, e2, e3, e4⟩
   have hij : id ≠ j := fun e => by subst e; rw [hgt hjl1] at e1; cases e1; cases e3
   rw [hgo hjl1 hij] at e1
   rw [h21 id hij] at e2
   exact (q5.own k q ⟨id, b, r, e1, e2, e3, e4⟩).imp (fun ho => (hown k q ho).1) (fun h => h)
 | _ => exact hR
end Go.Sh
namespace Go.Sh
theorem SCall.absorb {P : Program} {f : Nat} {args args' : List SV} {H0 N0 N1 : HL} {ret ret' : SV} (sel : List Nat) (fn : FnOk P f)
  (h : ∀ ρ w, HRel ρ (hg H0) w → ∃ G0 : HL, G0.length = sel.length ∧ (∀ j, j < sel.length → ∃ b, hg G0 j = some b ∧ b.own = false) ∧ HRel (pullR sel ρ) (hg G0) w ∧ SCall P f args' G0 ret' (G0 ++ N0))
  (hro : ∀ id b, hg H0 id = some b → b.own = false) (ha : renL sel args' = some args) (hr : renV (sel ++ newSel H0.length N0.length) ret' = some ret)
  (hs : ∀ (j s : Nat), sel[j]? = some s → s < H0.length) (hl : N1.length = N0.length)
  (hN : ∀ j, (hg N0 j = none ∧ hg N1 j = none) ∨ ∃ b b', hg N0 j = some b ∧ hg N1 j = some b' ∧ renB (sel ++ newSel H0.length N0.length) b = some b') : SCall P f args H0 ret (H0 ++ N1) := by
 refine ⟨fn, fun n ρ w vs hA hH hS hF => ?_⟩
 obtain ⟨G0, hGl, hGa, hGH, hG⟩ := h ρ w hH
 have hlt : ∀ {X : HL} {id : Nat} {b : SB}, hg X id = some b → id < X.length := fun {X id b} h => by
  unfold hg at h
  rcases Nat.lt_or_ge id X.length with h2 | h2
  ·
   exact h2
  ·
   rw [List.getElem?_eq_none h2] at h; simp at h
 have hgl : ∀ {X Y : HL} {id : Nat}, id < X.length → hg (X ++ Y) id = hg X id := fun {X Y id} h => by unfold hg; rw [List.getElem?_append_left h]
 have hgr : ∀ {X Y : HL} {j : Nat}, hg (X ++ Y) (X.length + j) = hg Y j := fun {X Y j} => by unfold hg; rw [List.getElem?_append_right (by omega)]; congr 2; omega
 have hGo : ∀ id b, hg G0 id = some b → b.own = false := fun id b hb => by
  obtain ⟨b2, h1, h2⟩ := hGa id (by rw [← hGl]; exact hlt hb)
  rw [hb] at h1; cases h1; exact h2
 have hno : ∀ k o, ¬ Owned (pullR sel ρ) (hg G0) k o := by
  rintro k o ⟨id, b, rb, h1, h2, h3, h4⟩
  rw [hGo id b h1] at h3; cases h3
 have hc := hG.call n (pullR sel ρ) w vs ((rels_ren args' ha).2 hA) hGH (fun i j bi bj ri rj hne hi hj hri hrj hown => by rw [hGo i bi hi] at hown; cases hown)
  (fun id hid => by have : sel[id]? = none := List.getElem?_eq_none (by omega); simp only [pullR, this])
 refine hc.mono ?_
 intro e w' hr'
 cases e with
 | panicked c => exact hr'.elim
 | outgrown => exact hr'.elim
 | returned v =>
  obtain ⟨ρf, q1, q2, q3, q4, q5⟩ := hr'
  let ρ' : Ren := fun id => if id < H0.length then ρ id else ρf (G0.length + (id - H0.length))
  have r1 : ∀ id, id < H0.length → ρ' id = ρ id := fun id h => if_pos h
  have r2 : ∀ j, ρ' (H0.length + j) = ρf (G0.length + j) := fun j => by
   show (if H0.length + j < H0.length then _ else _) = _
   rw [if_neg (by omega)]; congr 1; omega
  have hpull : pullR (sel ++ newSel H0.length N0.length) ρ' = ρf := by
   funext j
   by_cases hj : j < sel.length
   ·
    obtain ⟨b, hb, _⟩ := hGa j hj
    obtain ⟨rb, h1, _⟩ := hGH j b hb
    have h2 := q5.ext j (by omega) rb h1
    have hs1 : (sel ++ newSel H0.length N0.length)[j]? = some sel[j] := by rw [List.getElem?_append_left hj, List.getElem?_eq_getElem hj]
    simp only [pullR, List.getElem?_eq_getElem hj] at h1
    simp only [pullR, hs1]
    rw [r1 _ (hs j _ (List.getElem?_eq_getElem hj)), h1, h2]
   ·
    have hs1 : (sel ++ newSel H0.length N0.length)[j]? = if j - sel.length < N0.length then some (H0.length + (j - sel.length)) else none := by rw [List.getElem?_append_right (by omega), newSel_get]
    by_cases hj2 : j - sel.length < N0.length
    ·
     rw [if_pos hj2] at hs1
     simp only [pullR, hs1]
     rw [r2]; congr 1; omega
    ·
     rw [if_neg hj2] at hs1
     simp only [pullR, hs1]
     exact (q4 j (by rw [List.length_append]; omega)).symm
  have hext : Ext ρ ρ' := fun id rb hid => by
   rcases Nat.lt_or_ge id H0.length with h2 | h2
   ·
    rw [r1 id h2]; exact hid
   ·
    rw [hF id h2] at hid; cases hid
  have hnew : ∀ j b, hg N1 j = some b → ∃ b0 rb, hg (G0 ++ N0) (G0.length + j) = some b0 ∧ renB (sel ++ newSel H0.length N0.length) b0 = some b ∧ ρf (G0.length + j) = some rb ∧ BRel ρf w' rb b0 := by
   intro j b hb
   rcases hN j with ⟨_, h2⟩ | ⟨b0, b', h1, h2, h3⟩
   ·
    rw [h2] at hb; cases hb
   ·
    rw [h2] at hb; cases hb
    have h4 : hg (G0 ++ N0) (G0.length + j) = some b0 := by rw [hgr]; exact h1
    obtain ⟨rb, h5, h6⟩ := q2 _ _ h4
    exact ⟨b0, rb, h4, h3, h5, h6⟩
  have hown : ∀ id b rb k o, hg (H0 ++ N1) id = some b → ρ' id = some rb → b.own = true → foot rb b k o → w.heap.size ≤ k ∧ ∃ j b0, id = H0.length + j ∧ hg (G0 ++ N0) (G0.length + j) = some b0 ∧ ρf (G0.length + j) = some rb ∧ b0.own = true ∧ foot rb b0 k o := by
   intro id b rb k o hb hρ ho hf
   rcases Nat.lt_or_ge id H0.length with h2 | h2
   ·
    rw [hgl h2] at hb; rw [hro id b hb] at ho; cases ho
   ·
    obtain ⟨j, rfl⟩ : ∃ j, id = H0.length + j := ⟨id - H0.length, by omega⟩
    rw [hgr] at hb
    obtain ⟨b0, rb0, h3, h4, h5, h6⟩ := hnew j b hb
    rw [r2, h5] at hρ; cases hρ
    have h7 := foot_ren h4 k o (rb := rb)
    have h8 : b0.own = true := by rw [← h7.2]; exact ho
    exact ⟨(q5.own k o ⟨_, b0, rb, h3, h5, h8, h7.1.2 hf⟩).resolve_left (hno k o), j, b0, rfl, h3, h5, h8, h7.1.2 hf⟩
  refine ⟨ρ', (rel_ren ret' hr).1 (by rw [hpull]; exact q1), ?_, ?_, ?_, ⟨fun id hid rb hρ => by rw [r1 id hid]; exact hρ, q5.fr.mono (fun k o _ h => absurd h (hno k o)), ?_⟩⟩
  ·
   intro id b hb
   rcases Nat.lt_or_ge id H0.length with h2 | h2
   ·
    rw [hgl h2] at hb
    obtain ⟨rb, h3, h4⟩ := hH id b hb
    exact ⟨rb, by rw [r1 id h2]; exact h3, (h4.frame q5.fr (fun k o _ => hno k o)).ext hext⟩
   ·
    obtain ⟨j, rfl⟩ : ∃ j, id = H0.length + j := ⟨id - H0.length, by omega⟩
    rw [hgr] at hb
    obtain ⟨b0, rb0, h3, h4, h5, h6⟩ := hnew j b hb
    exact ⟨rb0, by rw [r2]; exact h5, (brel_ren h4).1 (by rw [hpull]; exact h6)⟩
  ·
   intro i j bi bj ri rj hne hi hj hri hrj ho k o ⟨hfi, hfj⟩
   obtain ⟨hk, li, ci, e1, e2, e3, e4, e5⟩ := hown i bi ri k o hi hri ho hfi
   rcases Nat.lt_or_ge j H0.length with h2 | h2
   ·
    rw [hgl h2] at hj
    rw [r1 j h2] at hrj
    obtain ⟨rb, h3, h4⟩ := hH j bj hj
    rw [hrj] at h3; cases h3
    have := h4.foot_lt hfj
    omega
   ·
    obtain ⟨lj, rfl⟩ : ∃ l, j = H0.length + l := ⟨j - H0.length, by omega⟩
    rw [hgr] at hj
    obtain ⟨b0, rb0, h3, h4, h5, h6⟩ := hnew lj bj hj
    rw [r2, h5] at hrj; cases hrj
    exact q3 _ _ ci b0 ri rj (fun e => hne (by omega)) e2 h3 e3 h5 e4 k o ⟨e5, (foot_ren h4 k o).1.2 hfj⟩
  ·
   intro id hid
   rw [List.length_append] at hid
   obtain ⟨j, rfl⟩ : ∃ j, id = H0.length + j := ⟨id - H0.length, by omega⟩
   rw [r2]
   exact q4 _ (by rw [List.length_append]; omega)
  ·
   rintro k o ⟨id, b, rb, h1, h2, h3, h4⟩
   exact .inr (hown id b rb k o h1 h2 h3 h4).1
abbrev PD := Option (Nat × Bool × List UInt8)
def pdCell : PD → SV
 | none => .slnil
 | some d => .sl d.1 0 d.2.2.length 1 d.2.1
def pdTx : PD → List UInt8
 | none => []
 | some d => d.2.2
theorem parts_of {ρ : Ren} {H : Heap} {w : World} (hH : HRel ρ H w) : ∀ {ds : List PD} {vs : List Value}, (∀ id f b, some (id, f, b) ∈ ds → H id = some (.ro (b.map .u8))) → Rels ρ (ds.map pdCell) vs →
  ∃ ps : List Part, ps.map (fun p => p.2.2) = ds.map pdTx ∧ (∀ p ∈ ps, FEOk w (pFe p)) ∧ ∀ ρ2, Rels ρ2 (ps.map pLit) vs
 | [], vs, _, h => ⟨[], rfl, by simp, fun ρ2 => by simpa [Rels] using h⟩
 | d :: ds, vs, hd, h => by
  rw [List.map_cons] at h
  simp only [Rels] at h
  obtain ⟨v, us, rfl, h1, h2⟩ := h
  obtain ⟨ps, e1, e2, e3⟩ := parts_of hH (fun id f b hm => hd id f b (List.mem_cons_of_mem _ hm)) h2
  have fin : ∀ p : Part, p.1 = v → p.2.2 = pdTx d → FEOk w (pFe p) → ∃ ps : List Part, ps.map (fun p => p.2.2) = (d :: ds).map pdTx ∧ (∀ p ∈ ps, FEOk w (pFe p)) ∧ ∀ ρ2, Rels ρ2 (ps.map pLit) (v :: us) := by
   intro p g1 g2 g3
   refine ⟨p :: ps, by rw [List.map_cons, List.map_cons, e1, g2], fun q hq => ?_, fun ρ2 => Rels.cons ?_ (e3 ρ2)⟩
   ·
    rcases List.mem_cons.1 hq with rfl | hq
    ·
     exact g3
    ·
     exact e2 q hq
   ·
    simp only [pLit, Rel, g1, true_and]
    obtain ⟨⟨a, c, k1, _⟩, _⟩ := g3
    exact ⟨a, _, c, by rw [← g1]; exact k1⟩
  cases d with
  | none =>
   simp only [pdCell, Rel] at h1
   subst h1
   exact fin (.slice none 0 0, ⟨0, 0, 0, true⟩, []) rfl rfl ⟨⟨none, 0, rfl, Nat.le_refl _, .inl rfl⟩, .inl rfl⟩
  | some d =>
   obtain ⟨id, f, b⟩ := d
   simp only [pdCell, Rel] at h1
   obtain ⟨rb, a, c, k1, k2, k3, _, k5⟩ := h1
   obtain ⟨rb2, k6, k7⟩ := hH id _ (hd id f b (List.mem_cons_self ..))
   rw [k1] at k6; cases k6
   refine fin (v, rb, b) rfl rfl ⟨⟨a, c, k2, k3, ?_⟩, ?_⟩
   ·
    rcases k5 with k5 | ⟨g1, g2, g3⟩
    ·
     exact .inl k5
    ·
     exact .inr ⟨g1, g2, by show c * 1 ≤ rb.cap; omega⟩
   ·
    rcases k7 with k7 | ⟨⟨cc, t, fz, g1, g2, g3, g4, g5⟩, g6, g7⟩
    ·
     exact .inl k7
    ·
     exact .inr ⟨⟨cc, t, fz, g1, g2, rels_plain (plainL_u8 _) g3, fun h => (by cases h), g5⟩, g6, g7⟩
theorem rels_split {ρ : Ren} {xs ys : List SV} {vs : List Value} (h : Rels ρ (xs ++ ys) vs) : Rels ρ xs (vs.take xs.length) ∧ Rels ρ ys (vs.drop xs.length) := by
 have h1 := Rels.take xs.length h
 have h2 := Rels.drop xs.length h
 rw [List.take_left] at h1
 rw [List.drop_left] at h2
 exact ⟨h1, h2⟩
theorem atoms_app {xs ys : List SV} : atoms (xs ++ ys) = (atoms xs && atoms ys) := by simp [atoms]
theorem row_parts {sel : List Nat} {ρ : Ren} {H : Heap} {w : World} {rb : RB} (hH : HRel ρ H w) {xs ys : List SV} {ds : List PD} (hd : ∀ id f b, some (id, f, b) ∈ ds → H id = some (.ro (b.map .u8))) (hx : renL sel ys = some xs) (h : BRel ρ w rb (.ro (xs ++ ds.map pdCell))) :
  ∃ ps : List Part, ps.map (fun p => p.2.2) = ds.map pdTx ∧ (∀ ρ2 rb2, BRel ρ2 w rb2 (.ext (.fam (ps.map pFe)))) ∧ BRel (pullR sel ρ) w rb (.ro (ys ++ ps.map pLit)) := by
 have famOk : ∀ ps : List Part, (∀ p ∈ ps, FEOk w (pFe p)) → ∀ ρ2 rb2, BRel ρ2 w rb2 (.ext (.fam (ps.map pFe))) := fun ps hp ρ2 rb2 e he => by
  obtain ⟨p, hm, rfl⟩ := List.mem_map.1 he
  exact hp p hm
 rcases h with h | ⟨⟨c, t, fz, g1, g2, g3, g4, g5⟩, g6, g7⟩
 ·
  obtain ⟨rfl, h2⟩ := List.append_eq_nil_iff.1 h
  obtain rfl : ds = [] := by simpa using h2
  obtain rfl : ys = [] := (renL_nil hx).2 rfl
  exact ⟨[], rfl, famOk [] (by simp), .inl rfl⟩
 ·
  obtain ⟨h1, h2⟩ := rels_split g3
  obtain ⟨ps, e1, e2, e3⟩ := parts_of hH hd h2
  have hpl : ps.length = ds.length := by have := congrArg List.length e1; simpa using this
  obtain ⟨l1, l2⟩ := renL_len hx
  refine ⟨ps, e1, famOk ps e2, .inr ⟨⟨c, t, fz, g1, ?_, ?_, fun h => (by cases h), ?_⟩, ?_, g7⟩⟩
  ·
   rw [atoms_app] at g2 ⊢
   simp only [Bool.and_eq_true] at g2 ⊢
   exact ⟨by rw [← l2]; exact g2.1, atoms_lit ps⟩
  ·
   have hl : (ys ++ ps.map pLit).length = (xs ++ ds.map pdCell).length := by simp only [List.length_append, List.length_map]; omega
   rw [hl]
   have h3 : (c.toList.drop rb.off).take (xs ++ ds.map pdCell).length = ((c.toList.drop rb.off).take (xs ++ ds.map pdCell).length).take xs.length ++ ((c.toList.drop rb.off).take (xs ++ ds.map pdCell).length).drop xs.length := (List.take_append_drop _ _).symm
   rw [h3]
   exact Rels.append ((rels_ren ys hx).2 h1) (e3 _)
  ·
   simp only [List.length_append, List.length_map] at g5 ⊢; omega
  ·
   simp only [List.length_append, List.length_map] at g6 ⊢; omega
theorem sops_forget {P : Program} {N : Nat} {ops : Array Oper} {Q : RL → HL → Nat → Prop} {os : List Oper} {R : RL} {H : HL} {L : Nat} (t : Nat) {id o n sz : Nat} {fu : Bool} (ht : lk t R = some (.sl id o n sz fu)) (h : SOps P N ops Q os ((t, .sl id o n sz false) :: R) H L) : SOps P N ops Q os R H L := by
 refine ⟨fun r nn B ρ a w k K hos hs hl hK => ?_⟩
 refine h.run r nn B ρ a w k K hos ⟨hs.size, ?_, hs.heap, hs.sep, hs.fresh, hs.dfr⟩ hl hK
 intro t2 v hv
 simp only [rg, List.lookup_cons] at hv
 split at hv
 ·
  rename_i e2
  have : t2 = t := by simpa using e2
  subst this
  cases hv
  have h1 := hs.regs t2 _ (by rw [rg, ← lk_eq]; exact ht)
  simp only [Rel] at h1 ⊢
  obtain ⟨rb, a2, c, k1, k2, k3, _, k5⟩ := h1
  exact ⟨rb, a2, c, k1, k2, k3, fun h => (by cases h), k5⟩
 ·
  exact hs.regs t2 v hv
end Go.Sh
namespace Go.Sh
def renHs (sel : List Nat) : HL → HL → Prop
 | [], [] => True
 | none :: a, none :: b => renHs sel a b
 | some x :: a, some y :: b => (y.own = x.own ∧ match x.own with | true => renB sel x = some y | false => True) ∧ renHs sel a b
 | _, _ => False
theorem cW_renHs {sel : List Nat} : ∀ (ss : List Nat) (H0 H1 H1r : HL) (W : Upd), renHs sel H1 H1r → cWp ss H0 H1r = some W → cW sel ss H0 H1 = some W
 | s :: ss, some b0 :: H0, none :: H1, none :: H1r, W, h, hw => by
  simp only [renHs] at h
  simp only [cWp] at hw
  split at hw
  ·
   rename_i W2 hw2
   simp only [cW, cW_renHs ss H0 H1 H1r W2 h hw2]
   exact hw
  ·
   cases hw
 | s :: ss, some b0 :: H0, some x :: H1, some y :: H1r, W, h, hw => by
  simp only [renHs] at h
  obtain ⟨⟨h1, h2⟩, h3⟩ := h
  simp only [cWp] at hw
  split at hw
  ·
   rename_i W2 hw2
   simp only [cW, cW_renHs ss H0 H1 H1r W2 h3 hw2]
   cases hb : b0.own with
   | false => rw [hb] at hw; exact hw
   | true =>
    rw [hb] at hw
    simp only at hw ⊢
    rw [h1] at hw
    cases hx : x.own with
    | true => rw [hx] at h2 hw; simp only at h2 hw ⊢; rw [h2]; exact hw
    | false => rw [hx] at hw; cases hw
  ·
   cases hw
 | s :: ss, [], none :: H1, none :: H1r, W, h, hw => by
  simp only [renHs] at h
  simp only [cWp] at hw
  split at hw
  ·
   rename_i W2 hw2
   simp only [cW, cW_renHs ss [] H1 H1r W2 h hw2]
   exact hw
  ·
   cases hw
 | s :: ss, [], some x :: H1, some y :: H1r, W, h, hw => by
  simp only [renHs] at h
  obtain ⟨⟨h1, h2⟩, h3⟩ := h
  simp only [cWp] at hw
  split at hw
  ·
   rename_i W2 hw2
   simp only [cW, cW_renHs ss [] H1 H1r W2 h3 hw2]
   rw [h1] at hw
   cases hx : x.own with
   | true => rw [hx] at h2 hw; simp only at h2 hw ⊢; rw [h2]; exact hw
   | false => rw [hx] at hw; cases hw
  ·
   cases hw
 | [], [], [], [], W, _, hw => by simpa only [cW, cWp] using hw
 | _, _, [], _ :: _, _, h, _ => by simp only [renHs] at h
 | _, _, _ :: _, [], _, h, _ => by simp [renHs] at h
 | _, _, none :: _, some _ :: _, _, h, _ => by simp only [renHs] at h
 | _, _, some _ :: _, none :: _, _, h, _ => by simp only [renHs] at h
 | [], _ :: _, [], [], _, _, hw => by simp [cWp] at hw
 | [], _, none :: _, none :: _, _, _, hw => by simp [cWp] at hw
 | [], _, some _ :: _, some _ :: _, _, _, hw => by simp [cWp] at hw
 | _ :: _, none :: _, _, _, _, _, hw => by simp [cWp] at hw
 | _ :: _, [], [], [], _, _, hw => by simp [cWp] at hw
 | _ :: _, some _ :: _, [], [], _, _, hw => by simp [cWp] at hw
theorem rb_boxa {sel : List Nat} {a b c : List SV} (ha : plainL a = true) (h : renL sel b = some c) : renB sel (.box (a ++ b)) = some (.box (a ++ c)) := by
 simp only [renB, ren_app ha h]
def sopCallE (H1r : HL) (z : SV) (R : RL) (H : HL) (L : Nat) (x : Operand) (args : List Operand) (f : Nat) (sel : List Nat) (args0 : List SV) (H0 : HL) (ret : SV) (H1 : HL) (k : K1) : Prop :=
 (match ev R x with
  | some (.fn g caps) => match evs R args with
   | some zs => g = f ∧ renL sel args0 = some (zs ++ caps)
   | none => False
  | _ => False) ∧ okH sel H sel H0 ∧ renHs (sel ++ newSel L (H1.length - H0.length)) H1 H1r ∧ renV (sel ++ newSel L (H1.length - H0.length)) ret = some z ∧
 match Nat.beq sel.length H0.length with
 | true => match dupOk sel 0 sel H0 with
  | true => match cWp (sel ++ newSel L (H1.length - H0.length)) H0 H1r with
   | some W => k (some z) W sel (L + (H1.length - H0.length))
   | none => False
  | false => False
 | false => False
theorem ok1_callE {P : Program} {o : Oper} {R : RL} {H : HL} {L : Nat} {k : K1} {x : Operand} {args : Array Operand} {tys : Array TypeId} {f : Nat} {args0 : List SV} {H0 H1 : HL} {ret : SV} (sel : List Nat) (H1r : HL) (z : SV)
  (hc : SCall P f args0 H0 ret H1) (ho : o.op = .call ⟨.value x, args, tys⟩) (hle : Nat.ble H.length L = true) (h : sopCallE H1r z R H L x args.toList f sel args0 H0 ret H1 k) : Ok1 P o R H L k := by
 obtain ⟨h1, h2, hp, hr, h3⟩ := h
 refine ok1_call sel hc ho hle ⟨h1, h2, ?_⟩
 cases hl : Nat.beq sel.length H0.length with
 | false => rw [hl] at h3; exact h3.elim
 | true =>
  rw [hl] at h3
  simp only at h3 ⊢
  cases hd : dupOk sel 0 sel H0 with
  | false => rw [hd] at h3; exact h3.elim
  | true =>
   rw [hd] at h3
   simp only at h3 ⊢
   cases hw : cWp (sel ++ newSel L (H1.length - H0.length)) H0 H1r with
   | none => rw [hw] at h3; exact h3.elim
   | some W =>
    rw [hw] at h3
    rw [cW_renHs _ _ _ _ _ hp hw]
    simp only [hr]
    exact h3
end Go.Sh
namespace Go.Sh
section
variable {P : Program} {ρ : Ren} {H : Heap} {w : World}
theorem zeroCells_one (v : Value) (n : Nat) : (Builtin.zeroCells #[v] n).toList = List.replicate n v := by
 apply List.ext_getElem?
 intro j
 unfold Builtin.zeroCells
 by_cases h : j < n
 ·
  simp [h, Nat.mod_one]
 ·
  simp [h]
theorem clear_ok {o : Oper} {x : Operand} {t el id k n : Nat} {full : Bool} {b : SB} {z : SV} {rb : RB} {e : Operand → Value} (ho : o.op = .call { callee := .builtin .clear, args := #[x], argTypes := #[t] })
  (hT : P.underlying t = some (.slice el)) (hz : pzero P el = some z) (hza : z.atom = true) (hx : Rel ρ (.sl id k n 1 full) (e x)) (hid : H id = some b) (hr : ρ id = some rb) (hb : BRel ρ w rb b) (hown : b.own = true) (hin : k + n ≤ b.cells.length)
  (h0 : 0 < b.cells.length) :
  ∃ w', (execOp e o).run P w = .ok (.value (.tuple #[])) w' ∧ Chg ρ H w [(id, some (b.with (sput b.cells k (.agg (List.replicate n z)))))] ρ w' := by
 obtain ⟨zv, hzv, hzr, _⟩ := run_zero (w := w) hz
 have hrel : Rel ρ (.agg (List.replicate n z)) (.agg ⟨List.replicate n zv⟩) := by
  simp only [Rel]
  refine ⟨_, rfl, ?_, Rels.replicate (hzr ρ) n⟩
  simp only [atoms, List.all_eq_true]
  exact fun y hy => by rw [(List.mem_replicate.1 hy).2]; exact hza
 obtain ⟨p1, p2, p3⟩ := hb.put (k := k) hown hrel (by simp) (by simpa [SV.cells] using hin) h0
 simp only [Rel] at hx
 obtain ⟨rb', a, cap, hr', he, hnc, hfull, hdis⟩ := hx
 rw [hr] at hr'; cases hr'
 have hzc : zv.cells = #[zv] := (hzr ρ).cells hza
 have hclear : ∀ w', (match a with | some a => if n = 0 then Result.ok () w else (storeCells a (List.replicate n zv)).run P w | none => Result.ok () w) = .ok () w' → (execOp e o).run P w = .ok (.value (.tuple #[])) w' := fun w' hst => by
  simp only [execOp, ho, resolve, invoke, builtin, Sem.run_bind, Sem.run_pure, Result.andThen_ok, List.map_toArray, List.map_cons, List.map_nil, Builtin.clear_, List.getElem?_toArray, List.getElem?_cons_zero, run_und hT, he]
  cases a with
  | none => simp only at hst; cases hst; rfl
  | some a =>
   cases n with
   | zero => simp only [if_true] at hst; cases hst; rfl
   | succ n =>
    simp only [Nat.add_one_ne_zero, if_false] at hst
    simp only [Sem.run_bind, hzv, Result.andThen_ok, hzc, zeroCells_one, hst, Sem.run_pure]
 by_cases hz0 : n = 0
 ·
  subst hz0
  refine ⟨w, hclear w ?_, ?_⟩
  ·
   cases a <;> rfl
  ·
   have : World.putCells w rb.blk (rb.off + k) (Value.cells (.agg ⟨List.replicate 0 zv⟩)).toList = w := putCells_nil w _ _
   rw [this] at p1 p2
   exact Chg.put hid hr hown p3 p1 p2
 ·
  obtain ⟨hv, ha2, hcapb⟩ := hdis.resolve_left (by omega)
  obtain ⟨⟨ca, ty, fz, hca, _, hrl, hzz, hsz⟩, _⟩ := hb.cellsAt h0
  rw [hown] at hzz
  have hst := run_puts (P := P) (o := rb.off + k) (List.replicate n zv) 0 hca (hzz rfl) (by have := hrl.length; simp at this ⊢; omega) (fun v hv => by rw [(List.mem_replicate.1 hv).2]; exact (hzr ρ).oneCell hza)
  exact ⟨_, hclear _ (by rw [ha2]; simp only [hz0, if_false]; exact hst), Chg.put hid hr hown p3 p1 p2⟩
end
theorem lt_clear {P : Program} {H : Heap} {o : Oper} {R : Env} {x : Operand} {t el n id k : Nat} {full : Bool} {b : SB} {z : SV} (ho : o.op = .call { callee := .builtin .clear, args := #[x], argTypes := #[t] })
  (hT : P.underlying t = some (.slice el)) (hz : pzero P el = some z) (hza : z.atom = true) (hx : evO R x = some (.sl id k n 1 full)) (hid : H id = some b) (hown : b.own = true) (hin : k + n ≤ b.cells.length) (h0 : 0 < b.cells.length) :
  LT P o R H [id] [(id, some (b.with (sput b.cells k (.agg (List.replicate n z)))))] (some (.tup [])) := by
 refine LT.of_run (by simp [ho]) fun e w ρ h1 h2 _ hfresh => ?_
 have hx2 := h1 x (by simp [ho, Op.operands, Call.operands]) _ hx
 obtain ⟨rb, hr, hbr⟩ := h2 id (by simp) _ hid
 obtain ⟨w', a1, a2⟩ := clear_ok (w := w) (H := H) ho hT hz hza hx2 hid hr hbr hown hin h0
 exact ⟨_, w', ρ, a1, a2, .inl ⟨_, rfl, fun u hu => by cases hu; simp only [Rel]; exact ⟨[], rfl, by simp only [Rels]⟩⟩⟩
theorem ok1_clear {P : Program} {o : Oper} {R : RL} {H : HL} {L : Nat} {k : K1} {x : Operand} {t : Nat} (el id off n e : Nat) (full : Bool) (l : List SV) (z : SV) (ho : o.op = .call { callee := .builtin .clear, args := #[x], argTypes := #[t] })
  (hT : P.underlying t = some (.slice el)) (hz : pzero P el = some z) (hza : z.atom = true) (hx : ev R x = some (.sl id off n 1 full)) (hid : hk H id = some (.row e l)) (hin : off + n ≤ l.length) (h0 : 0 < l.length) (hl : H.length ≤ L)
  (h : k (some (.tup [])) [(id, some (.row e (sput l off (.agg (List.replicate n z)))))] [id] L) : Ok1 P o R H L k :=
 ok1_put (hk_lt hl hid) (by simp) (lt_clear ho hT hz hza (ev_some hx) (hk_some hid) rfl hin h0) h
end Go.Sh
namespace Go.Sh
theorem Weak.short {A : Nat} {R : RL} {H : HL} {L : Nat} (q k : Nat) {t : Nat} {l : List SV} (hq : hk H q = some (.row t l)) (hL : Nat.ble H.length L = true) : Weak A R H L R (hupd H [(q, some (.row t (l.take k)))]) L := by
 intro N B ρ a w hs hl
 have hq0 := hq
 rw [hk_eq] at hq
 have hg2 : ∀ id, hg (hupd H [(q, some (.row t (l.take k)))]) id = if id = q then some (.row t (l.take k)) else hg H id := fun id => by
  rw [hg_hupd]
  by_cases h : id = q
  ·
   subst h; simp [updW]
  ·
   have : (id == q) = false := by simpa using h
   simp [updW, List.lookup_cons, this, h]
 have hf : ∀ rb kk o, foot rb (.row t (l.take k)) kk o ↔ foot rb (.row t l) kk o := fun rb kk o => Iff.rfl
 have hown : ∀ kk o, Owned ρ (hg (hupd H [(q, some (.row t (l.take k)))])) kk o → Owned ρ (hg H) kk o := by
  rintro kk o ⟨id, b, rb, h1, h2, h3, h4⟩
  rw [hg2] at h1
  by_cases h : id = q
  ·
   rw [if_pos h] at h1; cases h1; subst h; exact ⟨id, _, rb, hq, h2, rfl, (hf _ _ _).1 h4⟩
  ·
   rw [if_neg h] at h1; exact ⟨id, b, rb, h1, h2, h3, h4⟩
 refine ⟨ρ, ⟨hs.size, hs.regs, ?_, ?_, hs.fresh, hs.dfr⟩, ?_, ⟨fun id _ rb h => h, Fr.refl _ _, fun kk o h => .inl (hown kk o h)⟩⟩
 ·
  intro id b hb
  rw [hg2] at hb
  by_cases h : id = q
  ·
   rw [if_pos h] at hb; cases hb; subst h
   obtain ⟨rb, h1, h2⟩ := hs.heap id _ hq
   refine ⟨rb, h1, ?_⟩
   rcases h2 with ⟨g1, g2⟩ | ⟨g0, c, fz, g1, g2, g3, g4, g5, g6⟩
   ·
    exact .inl ⟨g1, by rw [g2]; simp⟩
   ·
    refine .inr ⟨g0, c, fz, g1, g2, g3, ?_, ?_, ?_⟩
    ·
     unfold atoms at g4 ⊢
     rw [List.all_eq_true] at g4 ⊢
     exact fun x hx => g4 x (List.mem_of_mem_take hx)
    ·
     have := g5.take k
     rw [List.take_take] at this
     rw [List.length_take]; exact this
    ·
     rw [List.length_take]; omega
  ·
   rw [if_neg h] at hb; exact hs.heap id b hb
 ·
  intro i j bi bj ri rj hne hi hj hri hrj hb kk o ⟨hfi, hfj⟩
  rw [hg2] at hi hj
  by_cases h1 : i = q
  ·
   rw [if_pos h1] at hi; cases hi
   rw [if_neg (fun e => hne (by rw [h1, e]))] at hj
   subst h1
   exact hs.sep i j _ bj ri rj hne hq hj hri hrj rfl kk o ⟨(hf _ _ _).1 hfi, hfj⟩
  ·
   rw [if_neg h1] at hi
   by_cases h2 : j = q
   ·
    rw [if_pos h2] at hj; cases hj
    subst h2
    exact hs.sep i j bi _ ri rj hne hi hq hri hrj hb kk o ⟨hfi, (hf _ _ _).1 hfj⟩
   ·
    rw [if_neg h2] at hj
    exact hs.sep i j bi bj ri rj hne hi hj hri hrj hb kk o ⟨hfi, hfj⟩
 ·
  have := hk_lt hl hq0
  exact hupd_le (Nat.le_of_ble_eq_true hL) (fun id ob hm => by simp at hm; omega)
theorem lt_clearC {P : Program} {H : Heap} {o : Oper} {R : Env} {x : Operand} {t el n c id k : Nat} {b : SB} {z : SV} (ho : o.op = .call { callee := .builtin .clear, args := #[x], argTypes := #[t] })
  (hT : P.underlying t = some (.slice el)) (hz : pzero P el = some z) (hza : z.atom = true) (hx : evO R x = some (.slc id k n c 1)) (hid : H id = some b) (hown : b.own = true) (hin : k + n ≤ b.cells.length) (h0 : 0 < b.cells.length) :
  LT P o R H [id] [(id, some (b.with (sput b.cells k (.agg (List.replicate n z)))))] (some (.tup [])) := by
 refine LT.of_run (by simp [ho]) fun e w ρ h1 h2 _ hfresh => ?_
 have hx2 := h1 x (by simp [ho, Op.operands, Call.operands]) _ hx
 obtain ⟨rb, hr, hbr⟩ := h2 id (by simp) _ hid
 obtain ⟨w', a1, a2⟩ := clear_ok (w := w) (H := H) ho hT hz hza hx2.slc_sl hid hr hbr hown hin h0
 exact ⟨_, w', ρ, a1, a2, .inl ⟨_, rfl, fun u hu => by cases hu; simp only [Rel]; exact ⟨[], rfl, by simp only [Rels]⟩⟩⟩
theorem ok1_clearC {P : Program} {o : Oper} {R : RL} {H : HL} {L : Nat} {k : K1} {x : Operand} {t : Nat} (el id off n c e : Nat) (l : List SV) (z : SV) (ho : o.op = .call { callee := .builtin .clear, args := #[x], argTypes := #[t] })
  (hT : P.underlying t = some (.slice el)) (hz : pzero P el = some z) (hza : z.atom = true) (hx : ev R x = some (.slc id off n c 1)) (hid : hk H id = some (.row e l)) (hin : off + n ≤ l.length) (h0 : 0 < l.length) (hl : H.length ≤ L)
  (h : k (some (.tup [])) [(id, some (.row e (sput l off (.agg (List.replicate n z)))))] [id] L) : Ok1 P o R H L k :=
 ok1_put (hk_lt hl hid) (by simp) (lt_clearC ho hT hz hza (ev_some hx) (hk_some hid) rfl hin h0) h
end Go.Sh
namespace Go.Sh
theorem range_named {P : Program} {N A : Nat} {g : Operand} {ps : List Nat} {as_ bd : Code} {Q : Exit → RL → HL → Nat → Prop} {R : RL} {H : HL} {L : Nat} {gf : Nat} {caps : List SV} {fn : Func} {c : Code}
  (hg0 : ev R g = some (.fn gf caps)) (hle : Nat.ble H.length L = true) (hA : Nat.ble A L = true) (hf : P.funcs[gf]? = some fn) (hb : fn.body = some c) (hnm : (fn.name == "runtime.NumGoroutine") = false) (hres : fn.results = #[]) (hnt : Nat.ble (caps.length + 1) fn.ntmps = true)
  (hwalk : ∀ a b, a = as_ → b = bd → SWp P (· = none) fn.ntmps (L + 1) c (rangeQ L R Q) (regs 0 (.yld L :: caps)) (hput H L (some (.obj (.loop R N ps a b)))) (L + 1)) :
  SWp P (· = none) N A (.rangeFunc g ⟨ps⟩ as_ bd) Q R H L := range_rule hg0 hle hA hf hb hnm hres hnt (hwalk _ _ rfl rfl)
end Go.Sh
namespace Go.Sh
open Go.Proofs
set_option maxHeartbeats 4000000
theorem wpB (n : Nat) (h : n < 4611686018427387904) : w64 ((n : Int) + 1) = ((n + 1 : Nat) : Int) := by simp only [w64_eq]; omega
theorem takeAll {l : List SV} {n : Nat} (h : n = l.length) : List.take (0 * 1) (List.drop 0 ([] : List SV)) ++ List.take (n * 1) (List.drop 0 l) = l := by simp [h]
theorem delL {α : Type} (l : List α) (i : Nat) (f : α → SV) (z : SV) (h : i < l.length) :
  (sput (sput (l.map f) (0 + i * 1) (.agg (List.take ((l.length - (i + 1)) * 1) (List.drop (0 + (i + 1) * 1) (l.map f))))) (0 + (i + (l.length - (i + 1))) * 1) (.agg (List.replicate (l.length - (i + (l.length - (i + 1)))) z))).take (l.length - 1) = (l.eraseIdx i).map f := by
 have e1 : List.take ((l.length - (i + 1)) * 1) (List.drop (0 + (i + 1) * 1) (l.map f)) = (l.drop (i + 1)).map f := by
  rw [Nat.mul_one, Nat.mul_one, Nat.zero_add, List.take_of_length_le (by simp), List.map_drop]
 rw [e1, List.eraseIdx_eq_take_drop_succ, List.map_append]
 simp only [sput, SV.cells, Nat.mul_one, Nat.zero_add]
 have hA : (List.take i (l.map f)).length = i := by simp; omega
 have hB : (List.map f (l.drop (i + 1))).length = l.length - (i + 1) := by simp
 rw [List.append_assoc (List.take (i + (l.length - (i + 1))) _), List.take_append_of_le_length (by simp; omega), List.take_take, show min (l.length - 1) (i + (l.length - (i + 1))) = l.length - 1 by omega, List.take_append_of_le_length (by rw [List.length_append, hA, hB]; omega), List.take_of_length_le (by rw [List.length_append, hA, hB]; omega), List.map_take]
theorem f77 (l : List _) (hn : 0 < l.length) (hl : l.length < 1000000) (f : Bool) : SCall Try.prog 77 [.sl 0 0 l.length 1 f] [some (.ro (l.map SV.i))] (.sl 1 0 l.length 1 false) [some (.ro (l.map SV.i)), some (.row 3 (l.map SV.i))] := by
 have hap := takeAll (l := l.map SV.i) (n := l.length) (by simp)
 refine scall_of ttOk (by kernel_rfl : Try.prog.funcs[77]? = some Try.f77) rfl rfl rfl ?_
 try simp only [List.length_cons, List.length_nil, Nat.zero_add, Nat.reduceAdd]
 refine sw_ok ttOk mixed (by kernel_rfl) ?_
 conv => whnf
 repeat (first | (refine brF rfl ?_; conv => whnf) | (refine Exists.intro _ (And.intro rfl ?_); conv => whnf) | (refine And.intro ⟨by first | omega | decide | fail, by first | omega | fail⟩ ?_; conv => whnf) | fail)
 refine And.intro (by exact ⟨Nat.le_of_ble_eq_true rfl, by show 0 + l.length * 1 ≤ (l.map SV.i).length; simp, by show (0 + l.length) * 8 ≤ _; omega⟩) ?_
 conv => whnf
 repeat (fail)
 refine ⟨[0, 2], ?_, rfl, rfl, ?_, rfl⟩
 ·
  (repeat' (fail)) <;> first | exact wk_sl rfl (by first | rfl | fail) (by first | omega | fail) | fail
 ·
  (repeat' (first | exact trivial | exact ren_eq (by simp) hap.symm | refine And.intro ?_ ?_ | fail)) <;> first | rfl | exact ren_eq (by first | (simp; done) | fail) (by first | rfl | fail) | fail
theorem f79 (l : List _) (f : Bool) : SCall Try.prog 79 [.sl 0 0 l.length 1 f] [some (.row 3 (l.map SV.i))] (.sl 0 0 l.length 1 false) [some (.row 3 (l.map SV.i))] := by
 refine scall_of ttOk (by kernel_rfl : Try.prog.funcs[79]? = some Try.f79) rfl rfl rfl ?_
 try simp only [List.length_cons, List.length_nil, Nat.zero_add, Nat.reduceAdd]
 refine swxs_ok (J := [1]) ttOk mixed (by kernel_rfl) ?_
 conv => whnf
 repeat (fail)
 refine swp_sops rfl ?_
 refine sops_pre (pre := [_, _, _, _, _, _]) ttOk (by kernel_rfl) ?_
 conv => whnf
 repeat (first | (refine Exists.intro _ (And.intro rfl ?_); conv => whnf) | (refine And.intro (by first | omega | fail) ?_; conv => whnf) | fail)
 refine sops_forget 8 rfl ?_
 refine sops_end ttOk (by kernel_rfl) ?_
 conv => whnf
 repeat (fail)
 refine ⟨[0], ?_, rfl, rfl, ?_, rfl⟩
 ·
  (repeat' (fail)) <;> first | rfl | fail
 ·
  (repeat' (first | exact trivial | refine And.intro ?_ ?_ | fail)) <;> first | rfl | exact ren_eq (by first | (simp; done) | fail) (by first | rfl | fail) | fail
theorem f76 (l : List _) (i : Nat) (hi : i < l.length) (hl : l.length < 1000000) (f : Bool) : SCall Try.prog 76 [.sl 0 0 l.length 1 f, .i (i : Int), .i ((i + 1 : Nat) : Int)] [some (.row 3 (l.map SV.i))] (.sl 0 0 (l.length - 1) 1 false) [some (.row 3 ((l.eraseIdx i).map SV.i))] := by
 have e1 : ((i : Int) == ((i + 1 : Nat) : Int)) = false := by rw [beq_eq_false_iff_ne]; omega
 have hdl := delL l i SV.i (.i 0) hi
 refine scall_of ttOk (by kernel_rfl : Try.prog.funcs[76]? = some Try.f76) rfl rfl rfl ?_
 try simp only [List.length_cons, List.length_nil, Nat.zero_add, Nat.reduceAdd]
 refine swxs_ok (J := [5, 7]) ttOk mixed (by kernel_rfl) ?_
 conv => whnf
 repeat (first | (refine Exists.intro _ (And.intro (evb_i (m := i) rfl (by first | rfl | fail)) ?_); conv => whnf) | (refine Exists.intro _ (And.intro (evb_i (m := i + 1) rfl (by first | rfl | fail)) ?_); conv => whnf) | (refine gdF e1 ?_; conv => whnf) | (refine Exists.intro _ (And.intro rfl ?_); conv => whnf) | (refine And.intro (by first | omega | fail) ?_; conv => whnf) | fail)
 refine SWp.weak (Weak.room 0 rfl) ?_
 refine sw_ok ttOk mixed (by kernel_rfl) ?_
 conv => whnf
 repeat (first | (refine Exists.intro _ (And.intro (evb_i (m := i) rfl (by first | rfl | fail)) ?_); conv => whnf) | (refine Exists.intro _ (And.intro (evb_i (m := i + 1) rfl (by first | rfl | fail)) ?_); conv => whnf) | (refine Exists.intro _ (And.intro rfl ?_); conv => whnf) | (refine And.intro (by first | omega | (simp; omega) | fail) ?_; conv => whnf) | (refine And.intro (by kernel_rfl) ?_; conv => whnf) | fail)
 refine ok1_clearC (t := 46) 3 0 _ _ _ 3 _ (.i 0) rfl (by kernel_rfl : Try.prog.underlying 46 = some (.slice 3)) (by kernel_rfl) rfl rfl rfl (by simp [sput]; omega) (by simp [sput]; omega) (Nat.le_of_ble_eq_true rfl) ?_
 conv => whnf
 repeat (fail)
 refine SWp.weak ((Weak.short 0 (l.length - 1) rfl rfl).trans (Weak.unroom 0 rfl)) ?_
 refine sw_ok ttOk mixed (by kernel_rfl) ?_
 conv => whnf
 repeat (fail)
 simp only [Int.toNat_natCast, Nat.sub_zero, Nat.zero_mul, Nat.add_zero]
 refine ⟨[0], ?_, rfl, rfl, ?_, rfl⟩
 ·
  (repeat' (fail)) <;> first | exact wk_sl rfl (by first | rfl | fail) (by first | omega | fail) | fail
 ·
  (repeat' (first | exact trivial | exact ren_eq (by simp) hdl.symm | refine And.intro ?_ ?_ | fail)) <;> first | rfl | fail
theorem f73 (l : List _) (hn : 0 < l.length) (hl : l.length < 1000000) (f : Bool) : SCall Try.prog 73 [.sl 0 0 l.length 1 f] [some (.ro (l.map SV.u32))] (.sl 1 0 l.length 1 false) [some (.ro (l.map SV.u32)), some (.row 49 (l.map SV.u32))] := by
 have hap := takeAll (l := l.map SV.u32) (n := l.length) (by simp)
 refine scall_of ttOk (by kernel_rfl : Try.prog.funcs[73]? = some Try.f73) rfl rfl rfl ?_
 try simp only [List.length_cons, List.length_nil, Nat.zero_add, Nat.reduceAdd]
 refine sw_ok ttOk mixed (by kernel_rfl) ?_
 conv => whnf
 repeat (first | (refine brF rfl ?_; conv => whnf) | (refine Exists.intro _ (And.intro rfl ?_); conv => whnf) | (refine And.intro ⟨by first | omega | decide | fail, by first | omega | fail⟩ ?_; conv => whnf) | (refine And.intro ⟨by first | omega | fail, by first | (simp; done) | fail, by first | (show _ * 4 ≤ _; omega) | fail⟩ ?_; conv => whnf) | fail)
 refine ⟨[0, 2], ?_, rfl, rfl, ?_, rfl⟩
 ·
  (repeat' (fail)) <;> first | exact wk_sl rfl (by first | rfl | fail) (by first | omega | fail) | fail
 ·
  (repeat' (first | exact trivial | exact ren_eq (by simp) hap.symm | refine And.intro ?_ ?_ | fail)) <;> first | rfl | exact ren_eq (by first | (simp; done) | fail) (by first | rfl | fail) | fail
theorem f70 (l : List _) (f : Bool) : SCall Try.prog 70 [.sl 0 0 l.length 1 f] [some (.row 49 (l.map SV.u32))] (.sl 0 0 l.length 1 false) [some (.row 49 (l.map SV.u32))] := by
 refine scall_of ttOk (by kernel_rfl : Try.prog.funcs[70]? = some Try.f70) rfl rfl rfl ?_
 try simp only [List.length_cons, List.length_nil, Nat.zero_add, Nat.reduceAdd]
 refine swxs_ok (J := [1]) ttOk mixed (by kernel_rfl) ?_
 conv => whnf
 repeat (fail)
 refine swp_sops rfl ?_
 refine sops_pre (pre := [_, _, _, _, _, _]) ttOk (by kernel_rfl) ?_
 conv => whnf
 repeat (first | (refine Exists.intro _ (And.intro rfl ?_); conv => whnf) | (refine And.intro (by first | omega | fail) ?_; conv => whnf) | fail)
 refine sops_forget 8 rfl ?_
 refine sops_end ttOk (by kernel_rfl) ?_
 conv => whnf
 repeat (fail)
 refine ⟨[0], ?_, rfl, rfl, ?_, rfl⟩
 ·
  (repeat' (fail)) <;> first | rfl | fail
 ·
  (repeat' (first | exact trivial | refine And.intro ?_ ?_ | fail)) <;> first | rfl | exact ren_eq (by first | (simp; done) | fail) (by first | rfl | fail) | fail
theorem f72 (l : List _) (i : Nat) (hi : i < l.length) (hl : l.length < 1000000) (f : Bool) : SCall Try.prog 72 [.sl 0 0 l.length 1 f, .i (i : Int), .i ((i + 1 : Nat) : Int)] [some (.row 49 (l.map SV.u32))] (.sl 0 0 (l.length - 1) 1 false) [some (.row 49 ((l.eraseIdx i).map SV.u32))] := by
 have e1 : ((i : Int) == ((i + 1 : Nat) : Int)) = false := by rw [beq_eq_false_iff_ne]; omega
 have hdl := delL l i SV.u32 (.u32 0) hi
 refine scall_of ttOk (by kernel_rfl : Try.prog.funcs[72]? = some Try.f72) rfl rfl rfl ?_
 try simp only [List.length_cons, List.length_nil, Nat.zero_add, Nat.reduceAdd]
 refine swxs_ok (J := [5, 7]) ttOk mixed (by kernel_rfl) ?_
 conv => whnf
 repeat (first | (refine Exists.intro _ (And.intro (evb_i (m := i) rfl (by first | rfl | fail)) ?_); conv => whnf) | (refine Exists.intro _ (And.intro (evb_i (m := i + 1) rfl (by first | rfl | fail)) ?_); conv => whnf) | (refine gdF e1 ?_; conv => whnf) | (refine Exists.intro _ (And.intro rfl ?_); conv => whnf) | (refine And.intro (by first | omega | fail) ?_; conv => whnf) | fail)
 refine SWp.weak (Weak.room 0 rfl) ?_
 refine sw_ok ttOk mixed (by kernel_rfl) ?_
 conv => whnf
 repeat (first | (refine Exists.intro _ (And.intro (evb_i (m := i) rfl (by first | rfl | fail)) ?_); conv => whnf) | (refine Exists.intro _ (And.intro (evb_i (m := i + 1) rfl (by first | rfl | fail)) ?_); conv => whnf) | (refine Exists.intro _ (And.intro rfl ?_); conv => whnf) | (refine And.intro (by first | omega | (simp; omega) | fail) ?_; conv => whnf) | (refine And.intro (by kernel_rfl) ?_; conv => whnf) | fail)
 refine ok1_clearC (t := 45) 49 0 _ _ _ 49 _ (.u32 0) rfl (by kernel_rfl : Try.prog.underlying 45 = some (.slice 49)) (by kernel_rfl) rfl rfl rfl (by simp [sput]; omega) (by simp [sput]; omega) (Nat.le_of_ble_eq_true rfl) ?_
 conv => whnf
 repeat (fail)
 refine SWp.weak ((Weak.short 0 (l.length - 1) rfl rfl).trans (Weak.unroom 0 rfl)) ?_
 refine sw_ok ttOk mixed (by kernel_rfl) ?_
 conv => whnf
 repeat (fail)
 simp only [Int.toNat_natCast, Nat.sub_zero, Nat.zero_mul, Nat.add_zero]
 refine ⟨[0], ?_, rfl, rfl, ?_, rfl⟩
 ·
  (repeat' (fail)) <;> first | exact wk_sl rfl (by first | rfl | fail) (by first | omega | fail) | fail
 ·
  (repeat' (first | exact trivial | exact ren_eq (by simp) hdl.symm | refine And.intro ?_ ?_ | fail)) <;> first | rfl | fail
end Go.Sh
namespace Go.Sh
open Go.Proofs
set_option maxHeartbeats 4000000
theorem bputN {n m most k : Nat} (hn : n < 1000000) (hm : m < 1000000) (ho : most < 9223372036854775808) (hk : k = min m (most - n)) :
  (if (if w64 ((most : Int) - (n : Int)) < (m : Int) then w64 ((most : Int) - (n : Int)) else (m : Int)) > 0 then (if w64 ((most : Int) - (n : Int)) < (m : Int) then w64 ((most : Int) - (n : Int)) else (m : Int)) else 0) = (k : Int) := by
 have e : w64 ((most : Int) - (n : Int)) = (most : Int) - (n : Int) := by simp only [w64_eq]; omega
 rw [e]
 split <;> split at * <;> omega
theorem appB {α : Type} {f : α → SV} {l x : List α} {n k : Nat} (hn : n = l.length) : List.take (n * 1) (List.drop 0 (l.map f)) ++ List.take (k * 1) (List.drop (0 + 0 * 1) (x.map f)) = (l ++ x.take k).map f := by
 subst hn; simp
theorem f35 (m : Int) : SCall Try.prog 35 [.i m] [] (.p 0 0) [some (.box [.slnil, .i (if 0 > m then 0 else m)])] := by
 refine scall_of ttOk (by kernel_rfl : Try.prog.funcs[35]? = some Try.f35) rfl rfl rfl ?_
 try simp only [List.length_cons, List.length_nil, Nat.zero_add, Nat.reduceAdd]
 refine sw_ok ttOk mixed (by kernel_rfl) ?_
 conv => whnf
 repeat (first | (refine Exists.intro _ (And.intro rfl ?_); conv => whnf) | fail)
 refine ⟨[0], ?_, rfl, rfl, ?_, rfl⟩
 ·
  (repeat' (fail)) <;> first | rfl | fail
 ·
  (repeat' (first | exact trivial | refine And.intro ?_ ?_ | (refine wk_cons ?_ ?_))) <;> first | rfl | fail
theorem f39 (l : List _) (n most : Nat) (hn : n = l.length) (f : Bool) : SCall Try.prog 39 [.p 0 0] [some (.ro [.sl 1 0 n 1 f, .i (most : Int)]), some (.ro (l.map SV.i))] (.i (n : Int)) [some (.ro [.sl 1 0 n 1 f, .i (most : Int)]), some (.ro (l.map SV.i))] := by
 refine scall_of ttOk (by kernel_rfl : Try.prog.funcs[39]? = some Try.f39) rfl rfl rfl ?_
 try simp only [List.length_cons, List.length_nil, Nat.zero_add, Nat.reduceAdd]
 refine sw_ok ttOk mixed (by kernel_rfl) ?_
 conv => whnf
 repeat (first | (refine brF rfl ?_; conv => whnf) | (refine Exists.intro _ (And.intro rfl ?_); conv => whnf) | (refine And.intro (by kernel_rfl) ?_; conv => whnf) | fail)
 refine ⟨[0, 1], ?_, rfl, rfl, ?_, rfl⟩
 ·
  (repeat' (fail)) <;> first | rfl | fail
 ·
  (repeat' (first | exact trivial | refine And.intro ?_ ?_ | (refine wk_cons ?_ ?_))) <;> first | rfl | exact ren_eq (by first | (simp; done) | fail) (by first | rfl | fail) | fail
theorem f75_y (l : List _) (n most k : Nat) (hn : n = l.length) (hk : k < n) (f : Bool) : SCall Try.prog 75 [.p 0 0, .i (k : Int)] [some (.ro [.sl 1 0 n 1 f, .i (most : Int)]), some (.ro (l.map SV.i))] (.i 0) [some (.ro [.sl 1 0 n 1 f, .i (most : Int)]), some (.ro (l.map SV.i))] := by
 have e1 : decide ((k : Int) < 0) = false := by simp
 have e2 : decide ((k : Int) ≥ (n : Int)) = false := by simp; omega
 refine scall_of ttOk (by kernel_rfl : Try.prog.funcs[75]? = some Try.f75) rfl rfl rfl ?_
 try simp only [List.length_cons, List.length_nil, Nat.zero_add, Nat.reduceAdd]
 refine sw_ok ttOk mixed (by kernel_rfl) ?_
 conv => whnf
 repeat (first | (refine brF rfl ?_; conv => whnf) | (refine gdT rfl ?_; conv => whnf) | (refine pkF e1 ?_; conv => whnf) | (refine gdF e2 ?_; conv => whnf) | (refine And.intro (by kernel_rfl) ?_; conv => whnf) | fail)
 refine ⟨[0, 1], ?_, rfl, rfl, ?_, rfl⟩
 ·
  (repeat' (fail)) <;> first | rfl | fail
 ·
  (repeat' (first | exact trivial | refine And.intro ?_ ?_ | (refine wk_cons ?_ ?_))) <;> first | rfl | exact ren_eq (by first | (simp; done) | fail) (by first | rfl | fail) | fail
theorem f75_n (l : List _) (n most : Nat) (k : Int) (hn : n = l.length) (hk : k < 0 ∨ (n : Int) ≤ k) (f : Bool) : SCall Try.prog 75 [.p 0 0, .i k] [some (.ro [.sl 1 0 n 1 f, .i (most : Int)]), some (.ro (l.map SV.i))] (.i 4) [some (.ro [.sl 1 0 n 1 f, .i (most : Int)]), some (.ro (l.map SV.i))] := by
 by_cases h0 : k < 0
 ·
  have e1 : decide (k < 0) = true := by simpa using h0
  refine scall_of ttOk (by kernel_rfl : Try.prog.funcs[75]? = some Try.f75) rfl rfl rfl ?_
  try simp only [List.length_cons, List.length_nil, Nat.zero_add, Nat.reduceAdd]
  refine sw_ok ttOk mixed (by kernel_rfl) ?_
  conv => whnf
  repeat (first | (refine brT rfl ?_; conv => whnf) | (refine brF rfl ?_; conv => whnf) | (refine gdF e1 ?_; conv => whnf) | (refine pkT e1 ?_; conv => whnf) | (refine And.intro (by kernel_rfl) ?_; conv => whnf) | fail)
  refine ⟨[0, 1], ?_, rfl, rfl, ?_, rfl⟩
  ·
   (repeat' (fail)) <;> first | rfl | fail
  ·
   (repeat' (first | exact trivial | refine And.intro ?_ ?_ | (refine wk_cons ?_ ?_))) <;> first | rfl | exact ren_eq (by first | (simp; done) | fail) (by first | rfl | fail) | fail
 ·
  have e1 : decide (k < 0) = false := by simpa using h0
  have e2 : decide (k ≥ (n : Int)) = true := by simp; omega
  refine scall_of ttOk (by kernel_rfl : Try.prog.funcs[75]? = some Try.f75) rfl rfl rfl ?_
  try simp only [List.length_cons, List.length_nil, Nat.zero_add, Nat.reduceAdd]
  refine sw_ok ttOk mixed (by kernel_rfl) ?_
  conv => whnf
  repeat (first | (refine brF rfl ?_; conv => whnf) | (refine gdT e1 ?_; conv => whnf) | (refine pkF e1 ?_; conv => whnf) | (refine gdT e2 ?_; conv => whnf) | (refine Exists.intro _ (And.intro rfl ?_); conv => whnf) | (refine And.intro (by kernel_rfl) ?_; conv => whnf) | fail)
  refine ⟨[0, 1], ?_, rfl, rfl, ?_, rfl⟩
  ·
   (repeat' (fail)) <;> first | rfl | fail
  ·
   (repeat' (first | exact trivial | refine And.intro ?_ ?_ | (refine wk_cons ?_ ?_))) <;> first | rfl | exact ren_eq (by first | (simp; done) | fail) (by first | rfl | fail) | fail
theorem f75_z (k : Int) : SCall Try.prog 75 [.pnil, .i k] [] (.i 1) [] := by
 refine scall_of ttOk (by kernel_rfl : Try.prog.funcs[75]? = some Try.f75) rfl rfl rfl ?_
 try simp only [List.length_cons, List.length_nil, Nat.zero_add, Nat.reduceAdd]
 refine sw_ok ttOk mixed (by kernel_rfl) ?_
 conv => whnf
 repeat (first | (refine brT rfl ?_; conv => whnf) | (refine And.intro (by kernel_rfl) ?_; conv => whnf) | fail)
 refine ⟨[], ?_, rfl, rfl, ?_, rfl⟩
 ·
  (repeat' (fail)) <;> first | rfl | fail
 ·
  (repeat' (first | exact trivial | fail)) <;> fail
theorem f38 (l x : List _) (n m most k : Nat) (hn : n = l.length) (hm : m = x.length) (h1 : n < 1000000) (h2 : m < 1000000) (ho : most < 9223372036854775808) (hk : k = min m (most - n)) (f fx : Bool) : SCall Try.prog 38 [.p 0 0, .sl 2 0 m 1 fx] [some (.box [.sl 1 0 n 1 f, .i (most : Int)]), some (.row 3 (l.map SV.i)), some (.ro (x.map SV.i))] (.i (k : Int)) [some (.box [.sl 3 0 (n + k) 1 false, .i (most : Int)]), none, some (.ro (x.map SV.i)), some (.row 3 ((l ++ x.take k).map SV.i))] := by
 have hkk := bputN h1 h2 ho hk
 have q := f79 l f
 rw [← hn] at q
 have hap := appB (f := SV.i) (x := x) (k := k) hn
 have hk2 : k ≤ m := by omega
 have hll : (l.map SV.i).length = n := by simp [hn]
 have hxl : (x.map SV.i).length = m := by simp [hm]
 refine scall_of ttOk (by kernel_rfl : Try.prog.funcs[38]? = some Try.f38) rfl rfl rfl ?_
 try simp only [List.length_cons, List.length_nil, Nat.zero_add, Nat.reduceAdd]
 refine sw_ok ttOk mixed (by kernel_rfl) ?_
 conv => whnf
 repeat (first | (refine brF rfl ?_; conv => whnf) | (refine Exists.intro _ (And.intro rfl ?_); conv => whnf) | (refine And.intro (by kernel_rfl) ?_; conv => whnf) | fail)
 refine ok1_callF [1] [true] false (q) rfl rfl ⟨⟨rfl, by first | rfl | fail⟩, by (repeat' (first | exact trivial | refine And.intro ?_ ?_)) <;> first | rfl | exact ren_eq (by first | (simp; done) | fail) (by first | rfl | fail) | fail, by first | simp [plainHf, plainB], by first | rfl | fail, ?_⟩
 conv => whnf
 repeat (first | (refine Exists.intro _ (And.intro (idx_i (m := k) (by first | rfl | omega | fail)) ?_); conv => whnf) | (refine Exists.intro _ (And.intro rfl ?_); conv => whnf) | (refine And.intro (by first | omega | fail) ?_; conv => whnf) | fail)
 refine And.intro (by exact ⟨by omega, by show 0 + 0 * 1 + (k - 0) * 1 ≤ (x.map SV.i).length; omega, by show (n + (k - 0)) * 8 ≤ _; omega⟩) ?_
 conv => whnf
 repeat (first | (refine Exists.intro _ (And.intro rfl ?_); conv => whnf) | (refine And.intro ⟨rfl, Nat.le_of_ble_eq_true rfl⟩ ?_; conv => whnf) | (refine And.intro (by kernel_rfl) ?_; conv => whnf) | fail)
 refine ⟨[0, 1, 2, 3], ?_, rfl, rfl, ?_, rfl⟩
 ·
  (repeat' (fail)) <;> first | exact wk_i (by first | omega | fail) | fail
 ·
  (repeat' (first | exact trivial | exact ren_eq (plainL_i _) hap.symm | refine And.intro ?_ ?_ | (refine wk_cons ?_ ?_))) <;> first | rfl | exact ren_eq (by first | (simp; done) | fail) (by first | rfl | fail) | fail
theorem f36_n (l : List _) (n most : Nat) (k : Int) (hn : n = l.length) (hk : k < 0 ∨ (n : Int) ≤ k) (f : Bool) : SCall Try.prog 36 [.p 0 0, .i k] [some (.ro [.sl 1 0 n 1 f, .i (most : Int)]), some (.ro (l.map SV.i))] (.tup [.i 0, .i 4]) [some (.ro [.sl 1 0 n 1 f, .i (most : Int)]), some (.ro (l.map SV.i))] := by
 have q := f75_n l n most k hn hk f
 refine scall_of ttOk (by kernel_rfl : Try.prog.funcs[36]? = some Try.f36) rfl rfl rfl ?_
 try simp only [List.length_cons, List.length_nil, Nat.zero_add, Nat.reduceAdd]
 refine sw_ok ttOk mixed (by kernel_rfl) ?_
 conv => whnf
 repeat (fail)
 refine ok1_callF [0, 1] [false, true] true (q) rfl rfl ⟨⟨rfl, by first | rfl | fail⟩, by (repeat' (first | exact trivial | refine And.intro ?_ ?_)) <;> first | rfl | exact ren_eq (by first | (simp; done) | fail) (by first | rfl | fail) | fail, by first | simp [plainHf, plainB], by first | rfl | fail, ?_⟩
 conv => whnf
 repeat (first | (refine brT rfl ?_; conv => whnf) | fail)
 refine ⟨[0, 1], ?_, rfl, rfl, ?_, rfl⟩
 ·
  (repeat' (first | (refine wk_tup ?_) | (refine wk_cons ?_ ?_))) <;> first | rfl | fail
 ·
  (repeat' (first | exact trivial | refine And.intro ?_ ?_ | (refine wk_cons ?_ ?_))) <;> first | rfl | exact ren_eq (by first | (simp; done) | fail) (by first | rfl | fail) | fail
theorem f36_z (k : Int) : SCall Try.prog 36 [.pnil, .i k] [] (.tup [.i 0, .i 1]) [] := by
 refine scall_of ttOk (by kernel_rfl : Try.prog.funcs[36]? = some Try.f36) rfl rfl rfl ?_
 try simp only [List.length_cons, List.length_nil, Nat.zero_add, Nat.reduceAdd]
 refine sw_ok ttOk mixed (by kernel_rfl) ?_
 conv => whnf
 repeat (fail)
 refine ok1_callF [] [] true ((f75_z k)) rfl rfl ⟨⟨rfl, by first | rfl | fail⟩, trivial, by first | rfl | fail, by first | rfl | fail, ?_⟩
 conv => whnf
 repeat (first | (refine brT rfl ?_; conv => whnf) | fail)
 refine ⟨[], ?_, rfl, rfl, ?_, rfl⟩
 ·
  (repeat' (first | (refine wk_tup ?_) | (refine wk_cons ?_ ?_))) <;> first | rfl | fail
 ·
  (repeat' (first | exact trivial | fail)) <;> fail
theorem f36_y (l : List _) (n most k : Nat) (hn : n = l.length) (hk : k < n) (h1 : n < 1000000) (f : Bool) : SCall Try.prog 36 [.p 0 0, .i (k : Int)] [some (.box [.sl 1 0 n 1 f, .i (most : Int)]), some (.row 3 (l.map SV.i))] (.tup [.i (l.getD k 0), .i 0]) [some (.box [.sl 2 0 (n - 1) 1 false, .i (most : Int)]), none, some (.row 3 ((l.eraseIdx k).map SV.i))] := by
 have q := f75_y l n most k hn hk f
 have q1 := f77 l (by omega) (by omega) f
 have q2 := f76 l k (by omega) (by omega) false
 rw [← wpB k (by omega), ← hn] at q2
 rw [← hn] at q1
 have hll : (l.map SV.i).length = n := by simp [hn]
 refine scall_of ttOk (by kernel_rfl : Try.prog.funcs[36]? = some Try.f36) rfl rfl rfl ?_
 try simp only [List.length_cons, List.length_nil, Nat.zero_add, Nat.reduceAdd]
 refine sw_ok ttOk mixed (by kernel_rfl) ?_
 conv => whnf
 repeat (fail)
 refine ok1_callF [0, 1] [false, true] true (q) rfl rfl ⟨⟨rfl, by first | rfl | fail⟩, by (repeat' (first | exact trivial | refine And.intro ?_ ?_)) <;> first | rfl | exact ren_eq (by first | (simp; done) | fail) (by first | rfl | fail) | fail, by first | simp [plainHf, plainB], by first | rfl | fail, ?_⟩
 conv => whnf
 repeat (first | (refine brF rfl ?_; conv => whnf) | (refine Exists.intro _ (And.intro (sload_i (i := k) (by first | rfl | omega | fail) (by first | omega | fail)) ?_); conv => whnf) | (refine Exists.intro _ (And.intro (idx_i (m := k) (by first | rfl | fail)) ?_); conv => whnf) | (refine Exists.intro _ (And.intro rfl ?_); conv => whnf) | (refine And.intro (by first | omega | fail) ?_; conv => whnf) | fail)
 refine ok1_callF [1] [true, true] false (q1) rfl rfl ⟨⟨rfl, by first | rfl | fail⟩, by (repeat' (first | exact trivial | refine And.intro ?_ ?_)) <;> first | exact ren_eq (by first | (simp; done) | fail) (by first | rfl | fail) | fail, by first | simp [plainHf, plainB], by first | rfl | fail, ?_⟩
 conv => whnf
 repeat (fail)
 refine ok1_callF [2] [true] false (q2) rfl rfl ⟨⟨rfl, by first | rfl | fail⟩, by (repeat' (first | exact trivial | refine And.intro ?_ ?_)) <;> first | rfl | exact ren_eq (by first | (simp; done) | fail) (by first | rfl | fail) | fail, by first | simp [plainHf, plainB], by first | rfl | fail, ?_⟩
 conv => whnf
 repeat (first | (refine Exists.intro _ (And.intro rfl ?_); conv => whnf) | (refine And.intro ⟨rfl, Nat.le_of_ble_eq_true rfl⟩ ?_; conv => whnf) | fail)
 refine ⟨[0, 1, 2], ?_, rfl, rfl, ?_, rfl⟩
 ·
  (repeat' (first | (refine wk_tup ?_) | (refine wk_cons ?_ ?_))) <;> first | rfl | fail
 ·
  (repeat' (first | exact trivial | refine And.intro ?_ ?_ | (refine wk_cons ?_ ?_))) <;> first | rfl | exact ren_eq (by first | (simp; done) | fail) (by first | rfl | fail) | fail
theorem f40_n (l : List _) (n most : Nat) (k : Int) (hn : n = l.length) (hk : k < 0 ∨ (n : Int) ≤ k) (f : Bool) : SCall Try.prog 40 [.p 0 0, .i k] [some (.ro [.sl 1 0 n 1 f, .i (most : Int)]), some (.ro (l.map SV.i))] (.i 4) [some (.ro [.sl 1 0 n 1 f, .i (most : Int)]), some (.ro (l.map SV.i))] := by
 have q := f75_n l n most k hn hk f
 refine scall_of ttOk (by kernel_rfl : Try.prog.funcs[40]? = some Try.f40) rfl rfl rfl ?_
 try simp only [List.length_cons, List.length_nil, Nat.zero_add, Nat.reduceAdd]
 refine sw_ok ttOk mixed (by kernel_rfl) ?_
 conv => whnf
 repeat (fail)
 refine ok1_callF [0, 1] [false, true] true (q) rfl rfl ⟨⟨rfl, by first | rfl | fail⟩, by (repeat' (first | exact trivial | refine And.intro ?_ ?_)) <;> first | rfl | exact ren_eq (by first | (simp; done) | fail) (by first | rfl | fail) | fail, by first | simp [plainHf, plainB], by first | rfl | fail, ?_⟩
 conv => whnf
 repeat (first | (refine brT rfl ?_; conv => whnf) | fail)
 refine ⟨[0, 1], ?_, rfl, rfl, ?_, rfl⟩
 ·
  (repeat' (fail)) <;> first | rfl | fail
 ·
  (repeat' (first | exact trivial | refine And.intro ?_ ?_ | (refine wk_cons ?_ ?_))) <;> first | rfl | exact ren_eq (by first | (simp; done) | fail) (by first | rfl | fail) | fail
theorem f40_z (k : Int) : SCall Try.prog 40 [.pnil, .i k] [] (.i 1) [] := by
 refine scall_of ttOk (by kernel_rfl : Try.prog.funcs[40]? = some Try.f40) rfl rfl rfl ?_
 try simp only [List.length_cons, List.length_nil, Nat.zero_add, Nat.reduceAdd]
 refine sw_ok ttOk mixed (by kernel_rfl) ?_
 conv => whnf
 repeat (fail)
 refine ok1_callF [] [] true ((f75_z k)) rfl rfl ⟨⟨rfl, by first | rfl | fail⟩, trivial, by first | rfl | fail, by first | rfl | fail, ?_⟩
 conv => whnf
 repeat (first | (refine brT rfl ?_; conv => whnf) | fail)
 refine ⟨[], ?_, rfl, rfl, ?_, rfl⟩
 ·
  (repeat' (fail)) <;> first | rfl | fail
 ·
  (repeat' (first | exact trivial | fail)) <;> fail
theorem f40_y (l : List _) (n most k : Nat) (hn : n = l.length) (hk : k < n) (h1 : n < 1000000) (ho : most < 9223372036854775808) (hm : n < most) (f : Bool) : SCall Try.prog 40 [.p 0 0, .i (k : Int)] [some (.box [.sl 1 0 n 1 f, .i (most : Int)]), some (.row 3 (l.map SV.i))] (.i 0) [some (.box [.sl 2 0 (n + 1) 1 false, .i (most : Int)]), none, some (.row 3 ((l ++ [l.getD k 0]).map SV.i))] := by
 have q := f75_y l n most k hn hk f
 have q2 := f38 l [l.getD k 0] n 1 most 1 hn rfl h1 (by decide) ho (by omega) f true
 have hll : (l.map SV.i).length = n := by simp [hn]
 refine scall_of ttOk (by kernel_rfl : Try.prog.funcs[40]? = some Try.f40) rfl rfl rfl ?_
 try simp only [List.length_cons, List.length_nil, Nat.zero_add, Nat.reduceAdd]
 refine sw_ok ttOk mixed (by kernel_rfl) ?_
 conv => whnf
 repeat (fail)
 refine ok1_callF [0, 1] [false, true] true (q) rfl rfl ⟨⟨rfl, by first | rfl | fail⟩, by (repeat' (first | exact trivial | refine And.intro ?_ ?_)) <;> first | rfl | exact ren_eq (by first | (simp; done) | fail) (by first | rfl | fail) | fail, by first | simp [plainHf, plainB], by first | rfl | fail, ?_⟩
 conv => whnf
 repeat (first | (refine brF rfl ?_; conv => whnf) | (refine Exists.intro _ (And.intro (sload_i (i := k) (by first | rfl | omega | fail) (by first | omega | fail)) ?_); conv => whnf) | (refine Exists.intro _ (And.intro (idx_i (m := k) (by first | rfl | fail)) ?_); conv => whnf) | (refine Exists.intro _ (And.intro rfl ?_); conv => whnf) | (refine And.intro (by first | omega | fail) ?_; conv => whnf) | fail)
 refine ok1_callF [0, 1, 2] [false, true, true, true] true (q2) rfl rfl ⟨⟨rfl, by first | rfl | fail⟩, by (repeat' (first | exact trivial | refine And.intro ?_ ?_)) <;> first | rfl | exact ren_eq (by first | (simp; done) | fail) (by first | rfl | fail) | fail, by first | simp [plainHf, plainB], by first | rfl | fail, ?_⟩
 conv => whnf
 repeat (first | (refine brF rfl ?_; conv => whnf) | fail)
 refine ⟨[0, 1, 3], ?_, rfl, rfl, ?_, rfl⟩
 ·
  (repeat' (fail)) <;> first | rfl | fail
 ·
  (repeat' (first | exact trivial | refine And.intro ?_ ?_ | (refine wk_cons ?_ ?_))) <;> first | rfl | exact ren_eq (by first | (simp; done) | fail) (by first | rfl | fail) | fail
theorem f40_f (l : List _) (n most k : Nat) (hn : n = l.length) (hk : k < n) (h1 : n < 1000000) (ho : most < 9223372036854775808) (hm : most ≤ n) (f : Bool) : SCall Try.prog 40 [.p 0 0, .i (k : Int)] [some (.box [.sl 1 0 n 1 f, .i (most : Int)]), some (.row 3 (l.map SV.i))] (.i 7) [some (.box [.sl 2 0 n 1 false, .i (most : Int)]), none, some (.row 3 (l.map SV.i))] := by
 have q := f75_y l n most k hn hk f
 have q2 := f38 l [l.getD k 0] n 1 most 0 hn rfl h1 (by decide) ho (by omega) f true
 rw [List.take_zero, List.append_nil, Nat.add_zero] at q2
 have hll : (l.map SV.i).length = n := by simp [hn]
 refine scall_of ttOk (by kernel_rfl : Try.prog.funcs[40]? = some Try.f40) rfl rfl rfl ?_
 try simp only [List.length_cons, List.length_nil, Nat.zero_add, Nat.reduceAdd]
 refine sw_ok ttOk mixed (by kernel_rfl) ?_
 conv => whnf
 repeat (fail)
 refine ok1_callF [0, 1] [false, true] true (q) rfl rfl ⟨⟨rfl, by first | rfl | fail⟩, by (repeat' (first | exact trivial | refine And.intro ?_ ?_)) <;> first | rfl | exact ren_eq (by first | (simp; done) | fail) (by first | rfl | fail) | fail, by first | simp [plainHf, plainB], by first | rfl | fail, ?_⟩
 conv => whnf
 repeat (first | (refine brF rfl ?_; conv => whnf) | (refine Exists.intro _ (And.intro (sload_i (i := k) (by first | rfl | omega | fail) (by first | omega | fail)) ?_); conv => whnf) | (refine Exists.intro _ (And.intro (idx_i (m := k) (by first | rfl | fail)) ?_); conv => whnf) | (refine Exists.intro _ (And.intro rfl ?_); conv => whnf) | (refine And.intro (by first | omega | fail) ?_; conv => whnf) | fail)
 refine ok1_callF [0, 1, 2] [false, true, true, true] true (q2) rfl rfl ⟨⟨rfl, by first | rfl | fail⟩, by (repeat' (first | exact trivial | refine And.intro ?_ ?_)) <;> first | rfl | exact ren_eq (by first | (simp; done) | fail) (by first | rfl | fail) | fail, by first | simp [plainHf, plainB], by first | rfl | fail, ?_⟩
 conv => whnf
 repeat (first | (refine brT rfl ?_; conv => whnf) | fail)
 refine ⟨[0, 1, 3], ?_, rfl, rfl, ?_, rfl⟩
 ·
  (repeat' (fail)) <;> first | rfl | fail
 ·
  (repeat' (first | exact trivial | refine And.intro ?_ ?_ | (refine wk_cons ?_ ?_))) <;> first | rfl | exact ren_eq (by first | (simp; done) | fail) (by first | rfl | fail) | fail
theorem f24 (m : Int) : SCall Try.prog 24 [.i m] [] (.p 0 0) [some (.box [.slnil, .i (if 0 > m then 0 else m)])] := by
 refine scall_of ttOk (by kernel_rfl : Try.prog.funcs[24]? = some Try.f24) rfl rfl rfl ?_
 try simp only [List.length_cons, List.length_nil, Nat.zero_add, Nat.reduceAdd]
 refine sw_ok ttOk mixed (by kernel_rfl) ?_
 conv => whnf
 repeat (first | (refine Exists.intro _ (And.intro rfl ?_); conv => whnf) | fail)
 refine ⟨[0], ?_, rfl, rfl, ?_, rfl⟩
 ·
  (repeat' (fail)) <;> first | rfl | fail
 ·
  (repeat' (first | exact trivial | refine And.intro ?_ ?_ | (refine wk_cons ?_ ?_))) <;> first | rfl | fail
theorem f26 (l : List _) (n most : Nat) (hn : n = l.length) (f : Bool) : SCall Try.prog 26 [.p 0 0] [some (.ro [.sl 1 0 n 1 f, .i (most : Int)]), some (.ro (l.map SV.u32))] (.i (n : Int)) [some (.ro [.sl 1 0 n 1 f, .i (most : Int)]), some (.ro (l.map SV.u32))] := by
 refine scall_of ttOk (by kernel_rfl : Try.prog.funcs[26]? = some Try.f26) rfl rfl rfl ?_
 try simp only [List.length_cons, List.length_nil, Nat.zero_add, Nat.reduceAdd]
 refine sw_ok ttOk mixed (by kernel_rfl) ?_
 conv => whnf
 repeat (first | (refine brF rfl ?_; conv => whnf) | (refine Exists.intro _ (And.intro rfl ?_); conv => whnf) | (refine And.intro (by kernel_rfl) ?_; conv => whnf) | fail)
 refine ⟨[0, 1], ?_, rfl, rfl, ?_, rfl⟩
 ·
  (repeat' (fail)) <;> first | rfl | fail
 ·
  (repeat' (first | exact trivial | refine And.intro ?_ ?_ | (refine wk_cons ?_ ?_))) <;> first | rfl | exact ren_eq (by first | (simp; done) | fail) (by first | rfl | fail) | fail
theorem f71_y (l : List _) (n most k : Nat) (hn : n = l.length) (hk : k < n) (f : Bool) : SCall Try.prog 71 [.p 0 0, .i (k : Int)] [some (.ro [.sl 1 0 n 1 f, .i (most : Int)]), some (.ro (l.map SV.u32))] (.i 0) [some (.ro [.sl 1 0 n 1 f, .i (most : Int)]), some (.ro (l.map SV.u32))] := by
 have e1 : decide ((k : Int) < 0) = false := by simp
 have e2 : decide ((k : Int) ≥ (n : Int)) = false := by simp; omega
 refine scall_of ttOk (by kernel_rfl : Try.prog.funcs[71]? = some Try.f71) rfl rfl rfl ?_
 try simp only [List.length_cons, List.length_nil, Nat.zero_add, Nat.reduceAdd]
 refine sw_ok ttOk mixed (by kernel_rfl) ?_
 conv => whnf
 repeat (first | (refine brF rfl ?_; conv => whnf) | (refine gdT rfl ?_; conv => whnf) | (refine pkF e1 ?_; conv => whnf) | (refine gdF e2 ?_; conv => whnf) | (refine And.intro (by kernel_rfl) ?_; conv => whnf) | fail)
 refine ⟨[0, 1], ?_, rfl, rfl, ?_, rfl⟩
 ·
  (repeat' (fail)) <;> first | rfl | fail
 ·
  (repeat' (first | exact trivial | refine And.intro ?_ ?_ | (refine wk_cons ?_ ?_))) <;> first | rfl | exact ren_eq (by first | (simp; done) | fail) (by first | rfl | fail) | fail
theorem f71_n (l : List _) (n most : Nat) (k : Int) (hn : n = l.length) (hk : k < 0 ∨ (n : Int) ≤ k) (f : Bool) : SCall Try.prog 71 [.p 0 0, .i k] [some (.ro [.sl 1 0 n 1 f, .i (most : Int)]), some (.ro (l.map SV.u32))] (.i 4) [some (.ro [.sl 1 0 n 1 f, .i (most : Int)]), some (.ro (l.map SV.u32))] := by
 by_cases h0 : k < 0
 ·
  have e1 : decide (k < 0) = true := by simpa using h0
  refine scall_of ttOk (by kernel_rfl : Try.prog.funcs[71]? = some Try.f71) rfl rfl rfl ?_
  try simp only [List.length_cons, List.length_nil, Nat.zero_add, Nat.reduceAdd]
  refine sw_ok ttOk mixed (by kernel_rfl) ?_
  conv => whnf
  repeat (first | (refine brT rfl ?_; conv => whnf) | (refine brF rfl ?_; conv => whnf) | (refine gdF e1 ?_; conv => whnf) | (refine pkT e1 ?_; conv => whnf) | (refine And.intro (by kernel_rfl) ?_; conv => whnf) | fail)
  refine ⟨[0, 1], ?_, rfl, rfl, ?_, rfl⟩
  ·
   (repeat' (fail)) <;> first | rfl | fail
  ·
   (repeat' (first | exact trivial | refine And.intro ?_ ?_ | (refine wk_cons ?_ ?_))) <;> first | rfl | exact ren_eq (by first | (simp; done) | fail) (by first | rfl | fail) | fail
 ·
  have e1 : decide (k < 0) = false := by simpa using h0
  have e2 : decide (k ≥ (n : Int)) = true := by simp; omega
  refine scall_of ttOk (by kernel_rfl : Try.prog.funcs[71]? = some Try.f71) rfl rfl rfl ?_
  try simp only [List.length_cons, List.length_nil, Nat.zero_add, Nat.reduceAdd]
  refine sw_ok ttOk mixed (by kernel_rfl) ?_
  conv => whnf
  repeat (first | (refine brF rfl ?_; conv => whnf) | (refine gdT e1 ?_; conv => whnf) | (refine pkF e1 ?_; conv => whnf) | (refine gdT e2 ?_; conv => whnf) | (refine Exists.intro _ (And.intro rfl ?_); conv => whnf) | (refine And.intro (by kernel_rfl) ?_; conv => whnf) | fail)
  refine ⟨[0, 1], ?_, rfl, rfl, ?_, rfl⟩
  ·
   (repeat' (fail)) <;> first | rfl | fail
  ·
   (repeat' (first | exact trivial | refine And.intro ?_ ?_ | (refine wk_cons ?_ ?_))) <;> first | rfl | exact ren_eq (by first | (simp; done) | fail) (by first | rfl | fail) | fail
theorem f71_z (k : Int) : SCall Try.prog 71 [.pnil, .i k] [] (.i 1) [] := by
 refine scall_of ttOk (by kernel_rfl : Try.prog.funcs[71]? = some Try.f71) rfl rfl rfl ?_
 try simp only [List.length_cons, List.length_nil, Nat.zero_add, Nat.reduceAdd]
 refine sw_ok ttOk mixed (by kernel_rfl) ?_
 conv => whnf
 repeat (first | (refine brT rfl ?_; conv => whnf) | (refine And.intro (by kernel_rfl) ?_; conv => whnf) | fail)
 refine ⟨[], ?_, rfl, rfl, ?_, rfl⟩
 ·
  (repeat' (fail)) <;> first | rfl | fail
 ·
  (repeat' (first | exact trivial | fail)) <;> fail
theorem f25 (l x : List _) (n m most k : Nat) (hn : n = l.length) (hm : m = x.length) (h1 : n < 1000000) (h2 : m < 1000000) (ho : most < 9223372036854775808) (hk : k = min m (most - n)) (f fx : Bool) : SCall Try.prog 25 [.p 0 0, .sl 2 0 m 1 fx] [some (.box [.sl 1 0 n 1 f, .i (most : Int)]), some (.row 49 (l.map SV.u32)), some (.ro (x.map SV.u32))] (.i (k : Int)) [some (.box [.sl 3 0 (n + k) 1 false, .i (most : Int)]), none, some (.ro (x.map SV.u32)), some (.row 49 ((l ++ x.take k).map SV.u32))] := by
 have hkk := bputN h1 h2 ho hk
 have q := f70 l f
 rw [← hn] at q
 have hap := appB (f := SV.u32) (x := x) (k := k) hn
 have hk2 : k ≤ m := by omega
 have hll : (l.map SV.u32).length = n := by simp [hn]
 have hxl : (x.map SV.u32).length = m := by simp [hm]
 refine scall_of ttOk (by kernel_rfl : Try.prog.funcs[25]? = some Try.f25) rfl rfl rfl ?_
 try simp only [List.length_cons, List.length_nil, Nat.zero_add, Nat.reduceAdd]
 refine sw_ok ttOk mixed (by kernel_rfl) ?_
 conv => whnf
 repeat (first | (refine brF rfl ?_; conv => whnf) | (refine Exists.intro _ (And.intro rfl ?_); conv => whnf) | (refine And.intro (by kernel_rfl) ?_; conv => whnf) | fail)
 refine ok1_callF [1] [true] false (q) rfl rfl ⟨⟨rfl, by first | rfl | fail⟩, by (repeat' (first | exact trivial | refine And.intro ?_ ?_)) <;> first | rfl | exact ren_eq (by first | (simp; done) | fail) (by first | rfl | fail) | fail, by first | simp [plainHf, plainB], by first | rfl | fail, ?_⟩
 conv => whnf
 repeat (first | (refine Exists.intro _ (And.intro (idx_i (m := k) (by first | rfl | omega | fail)) ?_); conv => whnf) | (refine Exists.intro _ (And.intro rfl ?_); conv => whnf) | (refine And.intro (by first | omega | fail) ?_; conv => whnf) | (refine And.intro ⟨rfl, Nat.le_of_ble_eq_true rfl⟩ ?_; conv => whnf) | (refine And.intro (by kernel_rfl) ?_; conv => whnf) | (refine And.intro ⟨by first | omega | fail, by first | (simp [hll, hxl]; omega) | fail, by first | (show _ * 4 ≤ _; omega) | fail⟩ ?_; conv => whnf) | fail)
 refine ⟨[0, 1, 2, 3], ?_, rfl, rfl, ?_, rfl⟩
 ·
  (repeat' (fail)) <;> first | exact wk_i (by first | omega | fail) | fail
 ·
  (repeat' (first | exact trivial | exact ren_eq (plainL_u32 _) hap.symm | refine And.intro ?_ ?_ | (refine wk_cons ?_ ?_))) <;> first | rfl | exact ren_eq (by first | (simp; done) | fail) (by first | rfl | fail) | fail
theorem f27_n (l : List _) (n most : Nat) (k : Int) (hn : n = l.length) (hk : k < 0 ∨ (n : Int) ≤ k) (f : Bool) : SCall Try.prog 27 [.p 0 0, .i k] [some (.ro [.sl 1 0 n 1 f, .i (most : Int)]), some (.ro (l.map SV.u32))] (.tup [.u32 0, .i 4]) [some (.ro [.sl 1 0 n 1 f, .i (most : Int)]), some (.ro (l.map SV.u32))] := by
 have q := f71_n l n most k hn hk f
 refine scall_of ttOk (by kernel_rfl : Try.prog.funcs[27]? = some Try.f27) rfl rfl rfl ?_
 try simp only [List.length_cons, List.length_nil, Nat.zero_add, Nat.reduceAdd]
 refine sw_ok ttOk mixed (by kernel_rfl) ?_
 conv => whnf
 repeat (fail)
 refine ok1_callF [0, 1] [false, true] true (q) rfl rfl ⟨⟨rfl, by first | rfl | fail⟩, by (repeat' (first | exact trivial | refine And.intro ?_ ?_)) <;> first | rfl | exact ren_eq (by first | (simp; done) | fail) (by first | rfl | fail) | fail, by first | simp [plainHf, plainB], by first | rfl | fail, ?_⟩
 conv => whnf
 repeat (first | (refine brT rfl ?_; conv => whnf) | fail)
 refine ⟨[0, 1], ?_, rfl, rfl, ?_, rfl⟩
 ·
  (repeat' (first | (refine wk_tup ?_) | (refine wk_cons ?_ ?_))) <;> first | rfl | fail
 ·
  (repeat' (first | exact trivial | refine And.intro ?_ ?_ | (refine wk_cons ?_ ?_))) <;> first | rfl | exact ren_eq (by first | (simp; done) | fail) (by first | rfl | fail) | fail
theorem f27_z (k : Int) : SCall Try.prog 27 [.pnil, .i k] [] (.tup [.u32 0, .i 1]) [] := by
 refine scall_of ttOk (by kernel_rfl : Try.prog.funcs[27]? = some Try.f27) rfl rfl rfl ?_
 try simp only [List.length_cons, List.length_nil, Nat.zero_add, Nat.reduceAdd]
 refine sw_ok ttOk mixed (by kernel_rfl) ?_
 conv => whnf
 repeat (fail)
 refine ok1_callF [] [] true ((f71_z k)) rfl rfl ⟨⟨rfl, by first | rfl | fail⟩, trivial, by first | rfl | fail, by first | rfl | fail, ?_⟩
 conv => whnf
 repeat (first | (refine brT rfl ?_; conv => whnf) | fail)
 refine ⟨[], ?_, rfl, rfl, ?_, rfl⟩
 ·
  (repeat' (first | (refine wk_tup ?_) | (refine wk_cons ?_ ?_))) <;> first | rfl | fail
 ·
  (repeat' (first | exact trivial | fail)) <;> fail
theorem f27_y (l : List _) (n most k : Nat) (hn : n = l.length) (hk : k < n) (h1 : n < 1000000) (f : Bool) : SCall Try.prog 27 [.p 0 0, .i (k : Int)] [some (.box [.sl 1 0 n 1 f, .i (most : Int)]), some (.row 49 (l.map SV.u32))] (.tup [.u32 (l.getD k 0), .i 0]) [some (.box [.sl 2 0 (n - 1) 1 false, .i (most : Int)]), none, some (.row 49 ((l.eraseIdx k).map SV.u32))] := by
 have q := f71_y l n most k hn hk f
 have q1 := f73 l (by omega) (by omega) f
 have q2 := f72 l k (by omega) (by omega) false
 rw [← wpB k (by omega), ← hn] at q2
 rw [← hn] at q1
 have hll : (l.map SV.u32).length = n := by simp [hn]
 refine scall_of ttOk (by kernel_rfl : Try.prog.funcs[27]? = some Try.f27) rfl rfl rfl ?_
 try simp only [List.length_cons, List.length_nil, Nat.zero_add, Nat.reduceAdd]
 refine sw_ok ttOk mixed (by kernel_rfl) ?_
 conv => whnf
 repeat (fail)
 refine ok1_callF [0, 1] [false, true] true (q) rfl rfl ⟨⟨rfl, by first | rfl | fail⟩, by (repeat' (first | exact trivial | refine And.intro ?_ ?_)) <;> first | rfl | exact ren_eq (by first | (simp; done) | fail) (by first | rfl | fail) | fail, by first | simp [plainHf, plainB], by first | rfl | fail, ?_⟩
 conv => whnf
 repeat (first | (refine brF rfl ?_; conv => whnf) | (refine Exists.intro _ (And.intro (sload_u32 (i := k) (by first | rfl | omega | fail) (by first | omega | fail)) ?_); conv => whnf) | (refine Exists.intro _ (And.intro (idx_i (m := k) (by first | rfl | fail)) ?_); conv => whnf) | (refine Exists.intro _ (And.intro rfl ?_); conv => whnf) | (refine And.intro (by first | omega | fail) ?_; conv => whnf) | fail)
 refine ok1_callF [1] [true, true] false (q1) rfl rfl ⟨⟨rfl, by first | rfl | fail⟩, by (repeat' (first | exact trivial | refine And.intro ?_ ?_)) <;> first | exact ren_eq (by first | (simp; done) | fail) (by first | rfl | fail) | fail, by first | simp [plainHf, plainB], by first | rfl | fail, ?_⟩
 conv => whnf
 repeat (fail)
 refine ok1_callF [2] [true] false (q2) rfl rfl ⟨⟨rfl, by first | rfl | fail⟩, by (repeat' (first | exact trivial | refine And.intro ?_ ?_)) <;> first | rfl | exact ren_eq (by first | (simp; done) | fail) (by first | rfl | fail) | fail, by first | simp [plainHf, plainB], by first | rfl | fail, ?_⟩
 conv => whnf
 repeat (first | (refine Exists.intro _ (And.intro rfl ?_); conv => whnf) | (refine And.intro ⟨rfl, Nat.le_of_ble_eq_true rfl⟩ ?_; conv => whnf) | fail)
 refine ⟨[0, 1, 2], ?_, rfl, rfl, ?_, rfl⟩
 ·
  (repeat' (first | (refine wk_tup ?_) | (refine wk_cons ?_ ?_))) <;> first | rfl | fail
 ·
  (repeat' (first | exact trivial | refine And.intro ?_ ?_ | (refine wk_cons ?_ ?_))) <;> first | rfl | exact ren_eq (by first | (simp; done) | fail) (by first | rfl | fail) | fail
theorem f31_n (l : List _) (n most : Nat) (k : Int) (hn : n = l.length) (hk : k < 0 ∨ (n : Int) ≤ k) (f : Bool) : SCall Try.prog 31 [.p 0 0, .i k] [some (.ro [.sl 1 0 n 1 f, .i (most : Int)]), some (.ro (l.map SV.u32))] (.i 4) [some (.ro [.sl 1 0 n 1 f, .i (most : Int)]), some (.ro (l.map SV.u32))] := by
 have q := f71_n l n most k hn hk f
 refine scall_of ttOk (by kernel_rfl : Try.prog.funcs[31]? = some Try.f31) rfl rfl rfl ?_
 try simp only [List.length_cons, List.length_nil, Nat.zero_add, Nat.reduceAdd]
 refine sw_ok ttOk mixed (by kernel_rfl) ?_
 conv => whnf
 repeat (fail)
 refine ok1_callF [0, 1] [false, true] true (q) rfl rfl ⟨⟨rfl, by first | rfl | fail⟩, by (repeat' (first | exact trivial | refine And.intro ?_ ?_)) <;> first | rfl | exact ren_eq (by first | (simp; done) | fail) (by first | rfl | fail) | fail, by first | simp [plainHf, plainB], by first | rfl | fail, ?_⟩
 conv => whnf
 repeat (first | (refine brT rfl ?_; conv => whnf) | fail)
 refine ⟨[0, 1], ?_, rfl, rfl, ?_, rfl⟩
 ·
  (repeat' (fail)) <;> first | rfl | fail
 ·
  (repeat' (first | exact trivial | refine And.intro ?_ ?_ | (refine wk_cons ?_ ?_))) <;> first | rfl | exact ren_eq (by first | (simp; done) | fail) (by first | rfl | fail) | fail
theorem f31_z (k : Int) : SCall Try.prog 31 [.pnil, .i k] [] (.i 1) [] := by
 refine scall_of ttOk (by kernel_rfl : Try.prog.funcs[31]? = some Try.f31) rfl rfl rfl ?_
 try simp only [List.length_cons, List.length_nil, Nat.zero_add, Nat.reduceAdd]
 refine sw_ok ttOk mixed (by kernel_rfl) ?_
 conv => whnf
 repeat (fail)
 refine ok1_callF [] [] true ((f71_z k)) rfl rfl ⟨⟨rfl, by first | rfl | fail⟩, trivial, by first | rfl | fail, by first | rfl | fail, ?_⟩
 conv => whnf
 repeat (first | (refine brT rfl ?_; conv => whnf) | fail)
 refine ⟨[], ?_, rfl, rfl, ?_, rfl⟩
 ·
  (repeat' (fail)) <;> first | rfl | fail
 ·
  (repeat' (first | exact trivial | fail)) <;> fail
theorem f31_y (l : List _) (n most k : Nat) (hn : n = l.length) (hk : k < n) (h1 : n < 1000000) (ho : most < 9223372036854775808) (hm : n < most) (f : Bool) : SCall Try.prog 31 [.p 0 0, .i (k : Int)] [some (.box [.sl 1 0 n 1 f, .i (most : Int)]), some (.row 49 (l.map SV.u32))] (.i 0) [some (.box [.sl 2 0 (n + 1) 1 false, .i (most : Int)]), none, some (.row 49 ((l ++ [l.getD k 0]).map SV.u32))] := by
 have q := f71_y l n most k hn hk f
 have q2 := f25 l [l.getD k 0] n 1 most 1 hn rfl h1 (by decide) ho (by omega) f true
 have hll : (l.map SV.u32).length = n := by simp [hn]
 refine scall_of ttOk (by kernel_rfl : Try.prog.funcs[31]? = some Try.f31) rfl rfl rfl ?_
 try simp only [List.length_cons, List.length_nil, Nat.zero_add, Nat.reduceAdd]
 refine sw_ok ttOk mixed (by kernel_rfl) ?_
 conv => whnf
 repeat (fail)
 refine ok1_callF [0, 1] [false, true] true (q) rfl rfl ⟨⟨rfl, by first | rfl | fail⟩, by (repeat' (first | exact trivial | refine And.intro ?_ ?_)) <;> first | rfl | exact ren_eq (by first | (simp; done) | fail) (by first | rfl | fail) | fail, by first | simp [plainHf, plainB], by first | rfl | fail, ?_⟩
 conv => whnf
 repeat (first | (refine brF rfl ?_; conv => whnf) | (refine Exists.intro _ (And.intro (sload_u32 (i := k) (by first | rfl | omega | fail) (by first | omega | fail)) ?_); conv => whnf) | (refine Exists.intro _ (And.intro (idx_i (m := k) (by first | rfl | fail)) ?_); conv => whnf) | (refine Exists.intro _ (And.intro rfl ?_); conv => whnf) | (refine And.intro (by first | omega | fail) ?_; conv => whnf) | fail)
 refine ok1_callF [0, 1, 2] [false, true, true, true] true (q2) rfl rfl ⟨⟨rfl, by first | rfl | fail⟩, by (repeat' (first | exact trivial | refine And.intro ?_ ?_)) <;> first | rfl | exact ren_eq (by first | (simp; done) | fail) (by first | rfl | fail) | fail, by first | simp [plainHf, plainB], by first | rfl | fail, ?_⟩
 conv => whnf
 repeat (first | (refine brF rfl ?_; conv => whnf) | fail)
 refine ⟨[0, 1, 3], ?_, rfl, rfl, ?_, rfl⟩
 ·
  (repeat' (fail)) <;> first | rfl | fail
 ·
  (repeat' (first | exact trivial | refine And.intro ?_ ?_ | (refine wk_cons ?_ ?_))) <;> first | rfl | exact ren_eq (by first | (simp; done) | fail) (by first | rfl | fail) | fail
theorem f31_f (l : List _) (n most k : Nat) (hn : n = l.length) (hk : k < n) (h1 : n < 1000000) (ho : most < 9223372036854775808) (hm : most ≤ n) (f : Bool) : SCall Try.prog 31 [.p 0 0, .i (k : Int)] [some (.box [.sl 1 0 n 1 f, .i (most : Int)]), some (.row 49 (l.map SV.u32))] (.i 7) [some (.box [.sl 2 0 n 1 false, .i (most : Int)]), none, some (.row 49 (l.map SV.u32))] := by
 have q := f71_y l n most k hn hk f
 have q2 := f25 l [l.getD k 0] n 1 most 0 hn rfl h1 (by decide) ho (by omega) f true
 rw [List.take_zero, List.append_nil, Nat.add_zero] at q2
 have hll : (l.map SV.u32).length = n := by simp [hn]
 refine scall_of ttOk (by kernel_rfl : Try.prog.funcs[31]? = some Try.f31) rfl rfl rfl ?_
 try simp only [List.length_cons, List.length_nil, Nat.zero_add, Nat.reduceAdd]
 refine sw_ok ttOk mixed (by kernel_rfl) ?_
 conv => whnf
 repeat (fail)
 refine ok1_callF [0, 1] [false, true] true (q) rfl rfl ⟨⟨rfl, by first | rfl | fail⟩, by (repeat' (first | exact trivial | refine And.intro ?_ ?_)) <;> first | rfl | exact ren_eq (by first | (simp; done) | fail) (by first | rfl | fail) | fail, by first | simp [plainHf, plainB], by first | rfl | fail, ?_⟩
 conv => whnf
 repeat (first | (refine brF rfl ?_; conv => whnf) | (refine Exists.intro _ (And.intro (sload_u32 (i := k) (by first | rfl | omega | fail) (by first | omega | fail)) ?_); conv => whnf) | (refine Exists.intro _ (And.intro (idx_i (m := k) (by first | rfl | fail)) ?_); conv => whnf) | (refine Exists.intro _ (And.intro rfl ?_); conv => whnf) | (refine And.intro (by first | omega | fail) ?_; conv => whnf) | fail)
 refine ok1_callF [0, 1, 2] [false, true, true, true] true (q2) rfl rfl ⟨⟨rfl, by first | rfl | fail⟩, by (repeat' (first | exact trivial | refine And.intro ?_ ?_)) <;> first | rfl | exact ren_eq (by first | (simp; done) | fail) (by first | rfl | fail) | fail, by first | simp [plainHf, plainB], by first | rfl | fail, ?_⟩
 conv => whnf
 repeat (first | (refine brT rfl ?_; conv => whnf) | fail)
 refine ⟨[0, 1, 3], ?_, rfl, rfl, ?_, rfl⟩
 ·
  (repeat' (fail)) <;> first | rfl | fail
 ·
  (repeat' (first | exact trivial | refine And.intro ?_ ?_ | (refine wk_cons ?_ ?_))) <;> first | rfl | exact ren_eq (by first | (simp; done) | fail) (by first | rfl | fail) | fail
end Go.Sh
