/- Merged for a claim: Sh17, Sh21, Sh19, Sh22, E1, E2, E3, E4a, E4, E5, E6, Sh23, E9a, E9, E10. -/
import Derived.Test.YtaknbogocnkmnaaFt2
set_option linter.unusedSimpArgs false
set_option linter.unusedVariables false
namespace Go.Sh
def plainV : SV → Bool
 | .i _ => true
 | .u8 _ => true
 | .u16 _ => true
 | .u32 _ => true
 | .u64 _ => true
 | .b _ => true
 | .s _ => true
 | .pnil => true
 | .slnil => true
 | .fnil => true
 | .mnil => true
 | .lit _ => true
 | _ => false
def plainL (l : List SV) : Bool := l.all plainV
theorem renV_plain (sel : List Nat) {x : SV} (h : plainV x = true) : renV sel x = some x := by cases x <;> first | rfl | cases h
theorem renL_plain (sel : List Nat) : ∀ {l : List SV}, plainL l = true → renL sel l = some l
 | [], _ => rfl
 | x :: l, h => by
  simp only [plainL, List.all_cons, Bool.and_eq_true] at h
  simp only [renL, renV_plain sel h.1, renL_plain sel (l := l) h.2]
@[simp] theorem plainL_u8 (l : List UInt8) : plainL (l.map .u8) = true := by simp [plainL, plainV]
@[simp] theorem plainL_u64 (l : List UInt64) : plainL (l.map .u64) = true := by simp [plainL, plainV]
@[simp] theorem plainL_u32 (l : List UInt32) : plainL (l.map .u32) = true := by simp [plainL, plainV]
@[simp] theorem plainL_i (l : List Int) : plainL (l.map .i) = true := by simp [plainL, plainV]
@[simp] theorem plainL_app (a b : List SV) : plainL (a ++ b) = (plainL a && plainL b) := by simp [plainL]
@[simp] theorem plainL_cons (a : SV) (b : List SV) : plainL (a :: b) = (plainV a && plainL b) := by simp [plainL]
@[simp] theorem plainL_nil : plainL [] = true := rfl
@[simp] theorem plainV_u8 (x : UInt8) : plainV (.u8 x) = true := rfl
@[simp] theorem plainV_u32 (x : UInt32) : plainV (.u32 x) = true := rfl
@[simp] theorem plainV_u64 (x : UInt64) : plainV (.u64 x) = true := rfl
@[simp] theorem plainV_i (x : Int) : plainV (.i x) = true := rfl
@[simp] theorem plainV_b (x : Bool) : plainV (.b x) = true := rfl
theorem ren_eq {sel : List Nat} {l l' : List SV} (hp : plainL l = true) (h : l = l') : renL sel l = some l' := by rw [renL_plain sel hp, h]
theorem idx_i {n : Int} {m : Nat} (h : n = (m : Int)) : idxOf (.i n) = some m := by
 subst h; simp [idxOf]
theorem take_all {α : Type} {l : List α} {n : Nat} (h : n = l.length) : l.take n = l := by subst h; simp
@[simp] theorem take_map_len {α : Type} (f : α → SV) (l : List α) : (l.map f).take l.length = l.map f := take_all (by simp)
@[simp] theorem cells_row (t : Nat) (l : List SV) : (SB.row t l).cells = l := rfl
@[simp] theorem cells_box (l : List SV) : (SB.box l).cells = l := rfl
@[simp] theorem cells_ro (l : List SV) : (SB.ro l).cells = l := rfl
@[simp] theorem cells_u8 (x : UInt8) : (SV.u8 x).cells = [.u8 x] := rfl
@[simp] theorem cells_u32 (x : UInt32) : (SV.u32 x).cells = [.u32 x] := rfl
@[simp] theorem cells_u64 (x : UInt64) : (SV.u64 x).cells = [.u64 x] := rfl
@[simp] theorem cells_i (x : Int) : (SV.i x).cells = [.i x] := rfl
@[simp] theorem cells_s (x : List UInt8) : (SV.s x).cells = [.s x] := rfl
@[simp] theorem cells_agg (x : List SV) : (SV.agg x).cells = x := rfl
@[simp] theorem reps_u8 (n : Nat) (x : SV) : reps n [x] = List.replicate n x := rfl
@[simp] theorem sput_u8 (l : List SV) (k : Nat) (x : UInt8) : sput l k (.u8 x) = l.set k (.u8 x) := rfl
@[simp] theorem sput_u32 (l : List SV) (k : Nat) (x : UInt32) : sput l k (.u32 x) = l.set k (.u32 x) := rfl
@[simp] theorem sput_u64 (l : List SV) (k : Nat) (x : UInt64) : sput l k (.u64 x) = l.set k (.u64 x) := rfl
@[simp] theorem sput_i (l : List SV) (k : Nat) (x : Int) : sput l k (.i x) = l.set k (.i x) := rfl
/-! ### A call whose blocks hold plain cells -/
def plainB : SB → Bool
 | .row _ l => plainL l
 | .box l => plainL l
 | .ro l => plainL l
 | .obj _ => false
 | .ext _ => true
@[simp] theorem plainB_row (t : Nat) (l : List SV) : plainB (.row t l) = plainL l := rfl
@[simp] theorem plainB_box (l : List SV) : plainB (.box l) = plainL l := rfl
@[simp] theorem plainB_ro (l : List SV) : plainB (.ro l) = plainL l := rfl
def plainH : HL → Bool
 | [] => true
 | none :: H => plainH H
 | some b :: H => plainB b && plainH H
def cWp : List Nat → HL → HL → Option Upd
 | s :: ss, some b0 :: H0, ob :: H1 => match cWp ss H0 H1 with
  | some W => match b0.own with
   | false => some W
   | true => match ob with
    | none => some ((s, none) :: W)
    | some b => match b.own with
     | true => some ((s, some b) :: W)
     | false => none
  | none => none
 | s :: ss, [], ob :: H1 => match cWp ss [] H1 with
  | some W => match ob with
   | none => some ((s, none) :: W)
   | some b => match b.own with
    | true => some ((s, some b) :: W)
    | false => none
  | none => none
 | [], [], [] => some []
 | _, _, _ => none
theorem renB_plain (sel : List Nat) {b : SB} (h : plainB b = true) : renB sel b = some b := by
 cases b <;> simp only [plainB, Bool.false_eq_true] at h <;> first | rfl | simp only [renB, renL_plain sel h]
theorem cWp_eq (sel : List Nat) : ∀ (ss : List Nat) (H0 H1 : HL), plainH H1 = true → cW sel ss H0 H1 = cWp ss H0 H1
 | s :: ss, some b0 :: H0, none :: H1, h => by
  simp only [plainH] at h
  simp only [cW, cWp, cWp_eq sel ss H0 H1 h]
  cases cWp ss H0 H1 <;> first | rfl | (cases b0.own <;> rfl)
 | s :: ss, some b0 :: H0, some b :: H1, h => by
  simp only [plainH, Bool.and_eq_true] at h
  simp only [cW, cWp, cWp_eq sel ss H0 H1 h.2, renB_plain sel h.1]
  cases cWp ss H0 H1 <;> first | rfl | (cases b0.own <;> first | rfl | (cases b.own <;> rfl))
 | s :: ss, [], none :: H1, h => by
  simp only [plainH] at h
  simp only [cW, cWp, cWp_eq sel ss [] H1 h]
  cases cWp ss [] H1 <;> rfl
 | s :: ss, [], some b :: H1, h => by
  simp only [plainH, Bool.and_eq_true] at h
  simp only [cW, cWp, cWp_eq sel ss [] H1 h.2, renB_plain sel h.1]
  cases cWp ss [] H1 <;> first | rfl | (cases b.own <;> rfl)
 | [], [], [], _ => rfl
 | [], [], _ :: _, _ => by simp [cW, cWp]
 | [], _ :: _, _, _ => by simp [cW, cWp]
 | _ :: _, [], [], _ => by simp [cW, cWp]
 | _ :: _, none :: _, _, _ => by simp [cW, cWp]
 | _ :: _, some _ :: _, [], _ => by simp [cW, cWp]
def sopCallP (R : RL) (H : HL) (L : Nat) (x : Operand) (args : List Operand) (f : Nat) (sel : List Nat) (args0 : List SV) (H0 : HL) (ret : SV) (H1 : HL) (k : K1) : Prop :=
 (match ev R x with
  | some (.fn g caps) => match evs R args with
   | some zs => g = f ∧ renL sel args0 = some (zs ++ caps)
   | none => False
  | _ => False) ∧ okH sel H sel H0 ∧ plainH H1 = true ∧
 match Nat.beq sel.length H0.length with
 | true => match dupOk sel 0 sel H0 with
  | true => match cWp (sel ++ newSel L (H1.length - H0.length)) H0 H1 with
   | some W => match renV (sel ++ newSel L (H1.length - H0.length)) ret with
    | some z => k (some z) W sel (L + (H1.length - H0.length))
    | none => False
   | none => False
  | false => False
 | false => False
theorem ok1_callP {P : Program} {o : Oper} {R : RL} {H : HL} {L : Nat} {k : K1} {x : Operand} {args : Array Operand} {tys : Array TypeId} {f : Nat} {args0 : List SV} {H0 H1 : HL} {ret : SV} (sel : List Nat)
  (hc : SCall P f args0 H0 ret H1) (ho : o.op = .call ⟨.value x, args, tys⟩) (hle : Nat.ble H.length L = true) (h : sopCallP R H L x args.toList f sel args0 H0 ret H1 k) : Ok1 P o R H L k := by
 obtain ⟨h1, h2, hp, h3⟩ := h
 refine ok1_call sel hc ho hle ⟨h1, h2, ?_⟩
 rw [cWp_eq _ _ _ _ hp]
 exact h3
/-! ### Calls of which some blocks hold plain cells (told by flags), others are renamed by reckoning -/
def plainHf : List Bool → HL → Bool
 | true :: fs, some b :: H => plainB b && plainHf fs H
 | _ :: fs, _ :: H => plainHf fs H
 | _, _ => true
def renBf (f : Bool) (sel : List Nat) (b : SB) : Option SB := match f with | true => some b | false => renB sel b
def cWf (sel : List Nat) : List Bool → List Nat → HL → HL → Option Upd
 | f :: fs, s :: ss, some b0 :: H0, ob :: H1 => match cWf sel fs ss H0 H1 with
  | some W => match b0.own with
   | false => some W
   | true => match ob with
    | none => some ((s, none) :: W)
    | some b => match b.own with
     | true => match renBf f sel b with | some b' => some ((s, some b') :: W) | none => none
     | false => none
  | none => none
 | f :: fs, s :: ss, [], ob :: H1 => match cWf sel fs ss [] H1 with
  | some W => match ob with
   | none => some ((s, none) :: W)
   | some b => match b.own with
    | true => match renBf f sel b with | some b' => some ((s, some b') :: W) | none => none
    | false => none
  | none => none
 | _, [], [], [] => some []
 | _, _, _, _ => none
theorem renBf_eq {f : Bool} {sel : List Nat} {b b' : SB} (hp : f = true → plainB b = true) (h : renBf f sel b = some b') : renB sel b = some b' := by
 cases f with
 | false => exact h
 | true => rw [renB_plain sel (hp rfl)]; exact h
theorem cWf_eq (sel : List Nat) : ∀ (fs : List Bool) (ss : List Nat) (H0 H1 : HL) (W : Upd), plainHf fs H1 = true → cWf sel fs ss H0 H1 = some W → cW sel ss H0 H1 = some W
 | f :: fs, s :: ss, some b0 :: H0, ob :: H1, W, hp, h => by
  have hp1 : plainHf fs H1 = true := by
   cases f <;> cases ob <;> simp only [plainHf, Bool.and_eq_true] at hp <;> first | exact hp | exact hp.2
  simp only [cWf] at h
  split at h
  ·
   rename_i W' hW
   have ih := cWf_eq sel fs ss H0 H1 W' hp1 hW
   simp only [cW, ih]
   split at h
   ·
    rename_i hown; simp only [hown]; exact h
   ·
    rename_i hown
    simp only [hown]
    split at h
    ·
     exact h
    ·
     rename_i b
     split at h
     ·
      rename_i hbo
      simp only [hbo]
      split at h
      ·
       rename_i b' hb'
       rw [renBf_eq (fun e => by subst e; simp only [plainHf, Bool.and_eq_true] at hp; exact hp.1) hb']
       exact h
      ·
       cases h
     ·
      cases h
  ·
   cases h
 | f :: fs, s :: ss, [], ob :: H1, W, hp, h => by
  have hp1 : plainHf fs H1 = true := by
   cases f <;> cases ob <;> simp only [plainHf, Bool.and_eq_true] at hp <;> first | exact hp | exact hp.2
  simp only [cWf] at h
  split at h
  ·
   rename_i W' hW
   have ih := cWf_eq sel fs ss [] H1 W' hp1 hW
   simp only [cW, ih]
   split at h
   ·
    exact h
   ·
    rename_i b
    split at h
    ·
     rename_i hbo
     simp only [hbo]
     split at h
     ·
      rename_i b' hb'
      rw [renBf_eq (fun e => by subst e; simp only [plainHf, Bool.and_eq_true] at hp; exact hp.1) hb']
      exact h
     ·
      cases h
    ·
     cases h
  ·
   cases h
 | [], [], [], [], W, _, h => by simp only [cWf, Option.some.injEq] at h; subst h; rfl
 | _ :: _, [], [], [], W, _, h => by simp only [cWf, Option.some.injEq] at h; subst h; rfl
 | [], [], [], _ :: _, W, _, h => by simp [cWf] at h
 | _ :: _, [], [], _ :: _, W, _, h => by simp [cWf] at h
 | [], [], _ :: _, _, W, _, h => by simp [cWf] at h
 | _ :: _, [], _ :: _, _, W, _, h => by simp [cWf] at h
 | [], _ :: _, _, _, W, _, h => by simp [cWf] at h
 | _ :: _, _ :: _, [], [], W, _, h => by simp [cWf] at h
 | _ :: _, _ :: _, none :: _, _, W, _, h => by simp [cWf] at h
 | _ :: _, _ :: _, some _ :: _, [], W, _, h => by simp [cWf] at h
def plainW : SV → Bool
 | .agg l => plainL l
 | x => plainV x
def plainT : List SV → Bool
 | [] => true
 | x :: xs => plainW x && plainT xs
def plainR : SV → Bool
 | .tup l => plainT l
 | x => plainW x
theorem renV_plainW (sel : List Nat) {x : SV} (h : plainW x = true) : renV sel x = some x := by
 cases x <;> first | exact renV_plain sel h | (simp only [plainW] at h; simp only [renV, renL_plain sel h])
theorem renL_plainT (sel : List Nat) : ∀ {l : List SV}, plainT l = true → renL sel l = some l
 | [], _ => rfl
 | x :: l, h => by
  simp only [plainT, Bool.and_eq_true] at h
  simp only [renL, renV_plainW sel h.1, renL_plainT sel (l := l) h.2]
theorem renV_plainR (sel : List Nat) {x : SV} (h : plainR x = true) : renV sel x = some x := by
 cases x <;> first | exact renV_plainW sel h | (simp only [plainR] at h; simp only [renV, renL_plainT sel h])
def renVf (f : Bool) (sel : List Nat) (x : SV) : Option SV := match f with | true => some x | false => renV sel x
def plainRf (f : Bool) (x : SV) : Bool := match f with | true => plainR x | false => true
def sopCallF (fl : List Bool) (rf : Bool) (R : RL) (H : HL) (L : Nat) (x : Operand) (args : List Operand) (f : Nat) (sel : List Nat) (args0 : List SV) (H0 : HL) (ret : SV) (H1 : HL) (k : K1) : Prop :=
 (match ev R x with
  | some (.fn g caps) => match evs R args with
   | some zs => g = f ∧ renL sel args0 = some (zs ++ caps)
   | none => False
  | _ => False) ∧ okH sel H sel H0 ∧ plainHf fl H1 = true ∧ plainRf rf ret = true ∧
 match Nat.beq sel.length H0.length with
 | true => match dupOk sel 0 sel H0 with
  | true => match cWf (sel ++ newSel L (H1.length - H0.length)) fl (sel ++ newSel L (H1.length - H0.length)) H0 H1 with
   | some W => match renVf rf (sel ++ newSel L (H1.length - H0.length)) ret with
    | some z => k (some z) W sel (L + (H1.length - H0.length))
    | none => False
   | none => False
  | false => False
 | false => False
theorem ok1_callF {P : Program} {o : Oper} {R : RL} {H : HL} {L : Nat} {k : K1} {x : Operand} {args : Array Operand} {tys : Array TypeId} {f : Nat} {args0 : List SV} {H0 H1 : HL} {ret : SV} (sel : List Nat) (fl : List Bool) (rf : Bool)
  (hc : SCall P f args0 H0 ret H1) (ho : o.op = .call ⟨.value x, args, tys⟩) (hle : Nat.ble H.length L = true) (h : sopCallF fl rf R H L x args.toList f sel args0 H0 ret H1 k) : Ok1 P o R H L k := by
 obtain ⟨h1, h2, hp, hr, h3⟩ := h
 refine ok1_call sel hc ho hle ⟨h1, h2, ?_⟩
 cases hl : Nat.beq sel.length H0.length with
 | false => rw [hl] at h3; exact h3.elim
 | true =>
  rw [hl] at h3
  simp only at h3 ⊢
  cases hd : dupOk sel 0 sel H0 with
  | false => rw [hd] at h3; exact h3.elim
  | true =>
   rw [hd] at h3
   simp only at h3 ⊢
   cases hw : cWf (sel ++ newSel L (H1.length - H0.length)) fl (sel ++ newSel L (H1.length - H0.length)) H0 H1 with
   | none => rw [hw] at h3; exact h3.elim
   | some W =>
    rw [hw] at h3
    rw [cWf_eq _ _ _ _ _ _ hp hw]
    cases rf with
    | false => exact h3
    | true =>
     simp only [plainRf] at hr
     simp only [renV_plainR _ hr]
     exact h3
end Go.Sh
namespace Go.Sh
def noObj : HL → Bool
 | [] => true
 | none :: H => noObj H
 | some (.obj _) :: _ => false
 | some _ :: H => noObj H
theorem noObj_get : ∀ {H : HL} {id : Nat} {y : OB}, noObj H = true → hg H id ≠ some (.obj y)
 | [], id, y, _, h => by simp [hg] at h
 | none :: H, 0, y, _, h => by simp [hg] at h
 | none :: H, id + 1, y, hn, h => noObj_get (H := H) (id := id) hn (by simpa [hg] using h)
 | some (.obj _) :: H, id, y, hn, h => by simp [noObj] at hn
 | some (.row _ _) :: H, 0, y, hn, h => by simp [hg] at h
 | some (.box _) :: H, 0, y, hn, h => by simp [hg] at h
 | some (.ro _) :: H, 0, y, hn, h => by simp [hg] at h
 | some (.ext _) :: H, 0, y, hn, h => by simp [hg] at h
 | some (.row _ _) :: H, id + 1, y, hn, h => noObj_get (H := H) (id := id) hn (by simpa [hg] using h)
 | some (.box _) :: H, id + 1, y, hn, h => noObj_get (H := H) (id := id) hn (by simpa [hg] using h)
 | some (.ro _) :: H, id + 1, y, hn, h => noObj_get (H := H) (id := id) hn (by simpa [hg] using h)
 | some (.ext _) :: H, id + 1, y, hn, h => noObj_get (H := H) (id := id) hn (by simpa [hg] using h)
theorem foot_cells {ρ : Ren} {w : World} {rb : RB} {b : SB} {k o : Nat} (hb : BRel ρ w rb b) (hn : ∀ y, b ≠ .obj y) (hf : foot rb b k o) : ∃ x, w.heap[k]? = some x ∧ mutK x ≠ 1 := by
 cases b with
 | obj y => exact absurd rfl (hn y)
 | ext y => exact YRel.foot_mut hb hf
 | ro l =>
  rcases hb with rfl | ⟨⟨c, t, fz, hh, _⟩, _⟩
  ·
   have := hf.2; simp at this; omega
  ·
   rw [hf.1]; exact ⟨_, hh, by simp [mutK]⟩
 | box l => obtain ⟨⟨c, t, fz, hh, _⟩, _⟩ := hb; rw [hf.1]; exact ⟨_, hh, by simp [mutK]⟩
 | row t l =>
  rcases hb with ⟨hv, _⟩ | ⟨_, c, fz, hh, _⟩
  ·
   rw [hf.1] at hv; cases hv
  ·
   rw [hf.2.1]; exact ⟨_, hh, by simp [mutK]⟩
def zipR : List Nat → List SV → RL → RL
 | p :: ps, x :: xs, R => zipR ps xs ((p, x) :: R)
 | _, _, R => R
theorem relR_set {ρ : Ren} {R : RL} {tmps : Array Value} {p : Nat} {x : SV} {v : Value} (h : RelR ρ R tmps) (hx : Rel ρ x v) (hp : p < tmps.size) : RelR ρ ((p, x) :: R) (tmps.setIfInBounds p v) := by
 intro t u hu
 simp only [List.lookup_cons] at hu
 cases htp : (t == p) with
 | true =>
  rw [htp] at hu
  have : t = p := by simpa using htp
  subst this
  cases hu
  rw [Array.getD_eq_getD_getElem?, Array.getElem?_setIfInBounds_self_of_lt hp]
  exact hx
 | false =>
  rw [htp] at hu
  have hne : p ≠ t := fun e => by subst e; simp at htp
  have := h t u hu
  rw [Array.getD_eq_getD_getElem?] at this ⊢
  rw [Array.getElem?_setIfInBounds_ne hne]; exact this
theorem relR_zip {ρ : Ren} : ∀ {ps : List Nat} {xs : List SV} {vs : List Value} {R : RL} {tmps : Array Value}, RelR ρ R tmps → Rels ρ xs vs → (∀ p ∈ ps, p < tmps.size) → ps.length = xs.length →
  RelR ρ (zipR ps xs R) ((ps.zip vs).foldl (fun t (q : Nat × Value) => t.setIfInBounds q.1 q.2) tmps) ∧ ((ps.zip vs).foldl (fun t (q : Nat × Value) => t.setIfInBounds q.1 q.2) tmps).size = tmps.size
 | [], xs, vs, R, tmps, h, _, _, hl => by
  have : xs = [] := List.eq_nil_of_length_eq_zero (by simpa using hl.symm)
  subst this
  exact ⟨h, rfl⟩
 | p :: ps, [], vs, R, tmps, h, _, _, hl => by simp at hl
 | p :: ps, x :: xs, vs, R, tmps, h, hv, hp, hl => by
  simp only [Rels] at hv
  obtain ⟨v, vs', rfl, h1, h2⟩ := hv
  have := relR_zip (ps := ps) (relR_set h h1 (hp p (List.mem_cons_self ..))) h2 (fun q hq => by simpa using hp q (List.mem_cons_of_mem _ hq)) (by simpa using hl)
  exact ⟨this.1, by rw [show ((p :: ps).zip (v :: vs')).foldl (fun t (q : Nat × Value) => t.setIfInBounds q.1 q.2) tmps = (ps.zip vs').foldl (fun t (q : Nat × Value) => t.setIfInBounds q.1 q.2) (tmps.setIfInBounds p v) from rfl, this.2]; simp⟩
structure SYield (P : Program) (args0 : List SV) (H0 : HL) (ret : SV) (H1 : HL) : Prop where
 call : ∀ (r : Option Nat) n ρ w vs rb, Rels ρ args0 vs → HRel ρ (hg H0) w → Sep ρ (hg H0) → (∀ id, H0.length ≤ id → ρ id = none) → ρ 0 = some rb →
  ∃ f tmps as_ bd, (Instr.yield rb.blk ⟨vs⟩).run P w = .ok (.round rb.blk f tmps as_ bd) w ∧ RoundIn (Fw r) n P rb.blk f tmps as_ bd w (CallR ρ H0 w ret H1)
theorem lt_yield {P : Program} {o : Oper} {R : Env} {H : HL} {L : Nat} {x : Operand} {args : Array Operand} {tys : Array TypeId} {id : Nat} {zs args0 : List SV} {ss : List Nat} {H0 H1 : HL} {ret z : SV} {W : Upd} (hl : H.length ≤ L)
  (ho : o.op = .call ⟨.value x, args, tys⟩) (hx : evO R x = some (.yld id)) (hargs : args.toList.map (evO R) = zs.map some) (hc : SYield P args0 H0 ret H1) (hren : renL (id :: ss) args0 = some zs)
  (hlen : (id :: ss).length = H0.length) (hok : okH (id :: ss) H (id :: ss) H0) (hd : dupOk (id :: ss) 0 (id :: ss) H0 = true) (hW : cW (id :: ss ++ newSel L (H1.length - H0.length)) (id :: ss ++ newSel L (H1.length - H0.length)) H0 H1 = some W)
  (hz : renV (id :: ss ++ newSel L (H1.length - H0.length)) ret = some z) : LT P o R (hg H) (id :: ss) W (some z) := by
 refine lt_of_callR hl hlen hok hd hW hz ?_
 intro r n a w ρ next Q hR hH0 hsep0 hfr0 hk
 have hv := eval_callee ho hx hR
 simp only [Rel] at hv
 obtain ⟨rb, hrb, he⟩ := hv
 have hzs := eval_args ho hargs hR
 have hrels : Rels (pullR (id :: ss) ρ) args0 (args.toList.map a.eval) := (rels_ren args0 hren).2 hzs
 obtain ⟨f, tmps, as_, bd, hy, hround⟩ := hc.call r (n - 1) (pullR (id :: ss) ρ) w _ rb hrels hH0 hsep0 hfr0 (by simpa [pullR] using hrb)
 have hrun : (execOp a.eval o).run P w = .ok (.round rb.blk f tmps as_ bd) w := by
  unfold execOp
  simp only [ho, resolve, he, Deferred.ofValue, Sem.run_bind, Sem.run_pure, Result.andThen, invoke]
  rw [show (#[] ++ args.map a.eval) = (⟨args.toList.map a.eval⟩ : Array Value) from Array.toList_inj.1 (by simp)]
  exact hy
 refine ⟨fun _ _ => trivial, ?_⟩
 rw [Oper.semAt_eq _ _ _ (by intro c; rw [ho]; simp), hrun]
 refine ⟨fun h => (by cases h), ?_⟩
 refine hround.mono ?_
 intro e w' hr'
 cases e with
 | panicked c => exact hr'.elim
 | outgrown => exact hr'.elim
 | returned v => exact hk v w' hr'
/-! ### A round, out of its code's walk -/
structure finH (A : Nat) (H : HL) (H1 : HL) : Prop where
 ex : ∃ sel, Nat.beq sel.length H1.length = true ∧ idOk sel A = true ∧ okH sel H sel H1 ∧ dupOk sel 0 sel H1 = true
def jumpOf : Exit → Option Code
 | .ret => some .ret
 | .exit i => some (.exit i)
 | _ => none
def obEnd (R : RL) (N : Nat) (ps : List Nat) (as_ bd : Code) (ex : Exit) : OB := match jumpOf ex with | some c => .pend c | none => .loop R N ps as_ bd
def retEnd (ex : Exit) : SV := .b (jumpOf ex).isNone
theorem Fr.putLoop {S : Nat → Nat → Prop} {w : World} {l : Nat} {r r' : Loop} (h : w.heap[l]? = some (.loop r)) (hS : ∃ o, S l o) : Fr S w (w.putObj l (.loop r')) := by
 refine ⟨rfl, rfl, rfl, by simp [World.putObj], fun k o ho => ?_⟩
 by_cases hk : l = k
 ·
  subst hk
  rw [h] at ho; cases ho
  have hlt := (Array.getElem?_eq_some_iff.1 h).1
  simp only [World.putObj]
  rw [Array.getElem?_setIfInBounds_self_of_lt hlt]
  exact .inr ⟨hS, by simp [mutK], _, rfl, rfl⟩
 ·
  simp only [World.putObj]
  rw [Array.getElem?_setIfInBounds_ne hk, ho]
  exact FrO.refl _ _
theorem putLoop_cells {w : World} {l k : Nat} {r r' : Loop} (h : w.heap[l]? = some (.loop r)) {c : Array Value} {t : TypeId} {fz : Nat × Nat} (hc : w.heap[k]? = some (.cells c t fz)) : (w.putObj l (.loop r')).heap[k]? = some (.cells c t fz) := by
 have hne : l ≠ k := fun e => by subst e; rw [h] at hc; cases hc
 simp only [World.putObj]; rw [Array.getElem?_setIfInBounds_ne hne]; exact hc
theorem putLoop_dfr {w : World} {l k : Nat} {r r' : Loop} (h : w.heap[l]? = some (.loop r)) {x : Option (List Deferred)} (hc : w.heap[k]? = some (.deferred x)) : (w.putObj l (.loop r')).heap[k]? = some (.deferred x) := by
 have hne : l ≠ k := fun e => by subst e; rw [h] at hc; cases hc
 simp only [World.putObj]; rw [Array.getElem?_setIfInBounds_ne hne]; exact hc
theorem putLoop_self {w : World} {l : Nat} {r r' : Loop} (h : w.heap[l]? = some (.loop r)) : (w.putObj l (.loop r')).heap[l]? = some (.loop r') := by
 simp only [World.putObj]; rw [Array.getElem?_setIfInBounds_self_of_lt (Array.getElem?_eq_some_iff.1 h).1]
theorem putLoop_mut {w : World} {l k : Nat} {r r' : Loop} {x : Obj} (h : w.heap[l]? = some (.loop r)) (hx : 2 ≤ mutK x) (hc : w.heap[k]? = some x) : (w.putObj l (.loop r')).heap[k]? = some x := by
 have hne : l ≠ k := fun e => by subst e; rw [h] at hc; cases hc; simp [mutK] at hx
 simp only [World.putObj]; rw [Array.getElem?_setIfInBounds_ne hne]; exact hc
theorem BRel.putLoop {ρ : Ren} {w : World} {l : Nat} {r r' : Loop} {rb : RB} {b : SB} (h : w.heap[l]? = some (.loop r)) (hn : ∀ y, b ≠ .obj y) (hb : BRel ρ w rb b) : BRel ρ (w.putObj l (.loop r')) rb b := by
 cases b with
 | obj y => exact absurd rfl (hn y)
 | ext y =>
  cases y with
  | fam l => exact fun e he => ⟨(hb e he).1, (hb e he).2.imp id fun ⟨⟨c, t, fz, hh, q⟩, h2⟩ => ⟨⟨c, t, fz, putLoop_cells h hh, q⟩, h2⟩⟩
  | lit o => exact ⟨hb.1, putLoop_mut h hb.1 hb.2⟩
 | ro l => exact hb.imp id fun ⟨⟨c, t, fz, hh, q⟩, h2⟩ => ⟨⟨c, t, fz, putLoop_cells h hh, q⟩, h2⟩
 | box l => obtain ⟨⟨c, t, fz, hh, q⟩, h2⟩ := hb; exact ⟨⟨c, t, fz, putLoop_cells h hh, q⟩, h2⟩
 | row t l => exact hb.imp id fun ⟨hv, c, fz, hh, q⟩ => ⟨hv, c, fz, putLoop_cells h hh, q⟩
theorem Sim.putLoop {N B L : Nat} {ρ : Ren} {R : Env} {H : HL} {a : Act} {w : World} {l : Nat} {r r' : Loop} (h : w.heap[l]? = some (.loop r)) (hn : noObj H = true) (hs : Sim N B L ρ R (hg H) a w) : Sim N B L ρ R (hg H) a (w.putObj l (.loop r')) :=
 ⟨hs.size, hs.regs, fun id b hb => let ⟨rb, h1, h2⟩ := hs.heap id b hb; ⟨rb, h1, h2.putLoop h (fun y e => noObj_get hn (by rw [← e]; exact hb))⟩, hs.sep, hs.fresh,
  ⟨hs.dfr.1, fun d hd => let ⟨k, e, hB, hk⟩ := hs.dfr.2.1 d hd; ⟨k, e, hB, putLoop_dfr h hk⟩, by simpa [World.putObj] using hs.dfr.2.2⟩⟩
theorem hg_cons_succ (x : Option SB) (H : HL) (id : Nat) : hg (x :: H) (id + 1) = hg H id := by simp [hg]
theorem hg_cons_zero (x : Option SB) (H : HL) : hg (x :: H) 0 = x := by cases x <;> simp [hg]
theorem syield_of {P : Program} {R0 : RL} {N : Nat} {ps : List Nat} {as_ bd : Code} {args0 : List SV} {H0t H1t : HL} {ex : Exit} (hex : ex = .normal ∨ ex = .ret ∨ ∃ i, ex = .exit i)
  (hno1 : noObj H1t = true) (hps : ps.length = args0.length) (hpN : ps.all (fun p => Nat.blt p N) = true)
  (hwalk : SWp P (fun _ => True) N (H0t.length + 1) as_ (fun e R H L => e = .normal ∧ noObj H = true ∧ hg H 0 = none ∧ SWp P (fun _ => True) N (H0t.length + 1) bd (fun e _ H _ => e = ex ∧ hg H 0 = none ∧ noObj H = true ∧ finH (H0t.length + 1) H (none :: H1t)) R H L)
   (zipR ps args0 R0) (none :: H0t) (H0t.length + 1)) :
  SYield P args0 (some (.obj (.loop R0 N ps as_ bd)) :: H0t) (retEnd ex) (some (.obj (obEnd R0 N ps as_ bd ex)) :: H1t) := by
 refine ⟨fun rr n ρ w vs rb hvs hh hsep hfr hrb => ?_⟩
 obtain ⟨rb', hrb', hO⟩ := hh 0 _ (hg_cons_zero _ _)
 rw [hrb] at hrb'; cases hrb'
 obtain ⟨r, hl, hst, hpd, hrp, hra, hrbd, hsz, hrel⟩ := hO
 obtain ⟨l, hlb⟩ : ∃ l, l = rb.blk := ⟨_, rfl⟩
 rw [← hlb] at hl ⊢
 have hvl := hvs.length
 have hargsz : (⟨vs⟩ : Array Value).size = r.params.size := by rw [hrp]; simp; omega
 have hy := run_yield (P := P) hl hargsz
 refine ⟨_, _, _, _, hy, ?_⟩
 rw [hra, hrbd]
 -- the heap without the loop
 have hh1 : HRel ρ (hg (none :: H0t)) w := fun id b hb => by
  cases id with
  | zero => rw [hg_cons_zero] at hb; cases hb
  | succ id => rw [hg_cons_succ] at hb; exact hh (id + 1) b (by rw [hg_cons_succ]; exact hb)
 have sub : ∀ id b, hg (none :: H0t) id = some b → hg (some (.obj (.loop R0 N ps as_ bd)) :: H0t) id = some b ∧ id ≠ 0 := fun id b hb => by
  cases id with
  | zero => rw [hg_cons_zero] at hb; cases hb
  | succ id => rw [hg_cons_succ] at hb; exact ⟨by rw [hg_cons_succ]; exact hb, by omega⟩
 have hsep1 : Sep ρ (hg (none :: H0t)) := fun i j bi bj ri rj hne hi hj hri hrj hown => hsep i j bi bj ri rj hne (sub i bi hi).1 (sub j bj hj).1 hri hrj hown
 have hl0 : ∀ o, ¬ Owned ρ (hg (none :: H0t)) l o := by
  rintro o ⟨id, b, rb2, h1, h2, h3, h4⟩
  obtain ⟨g1, g2⟩ := sub id b h1
  exact hsep 0 id _ b rb rb2 (by omega) (hg_cons_zero _ _) g1 hrb h2 rfl l o ⟨hlb, h4⟩
 have hown0 : ∀ k o, Owned ρ (hg (none :: H0t)) k o → Owned ρ (hg (some (.obj (.loop R0 N ps as_ bd)) :: H0t)) k o := by
  rintro k o ⟨id, b, rb2, h1, h2, h3, h4⟩
  exact ⟨id, b, rb2, (sub id b h1).1, h2, h3, h4⟩
 have hownl : Owned ρ (hg (some (.obj (.loop R0 N ps as_ bd)) :: H0t)) l 0 := ⟨0, _, rb, hg_cons_zero _ _, hrb, rfl, hlb⟩
 have hlt : l < w.heap.size := (Array.getElem?_eq_some_iff.1 hl).1
 obtain ⟨hz1, hz2⟩ := relR_zip (ps := ps) (vs := vs) hrel hvs (fun p hp => by
  have := List.all_eq_true.1 hpN p hp
  rw [hsz]; simpa [Nat.blt_eq] using this) hps
 have htm : (r.params.zip ⟨vs⟩).foldl (fun tmps (q : Nat × Value) => tmps.setIfInBounds q.1 q.2) r.tmps = ((ps.zip vs).foldl (fun t (q : Nat × Value) => t.setIfInBounds q.1 q.2) r.tmps) := by
  rw [hrp, ← Array.foldl_toList]; simp
 have hsim : Sim N w.heap.size (H0t.length + 1) ρ (rg (zipR ps args0 R0)) (hg (none :: H0t)) { tmps := ((ps.zip vs).foldl (fun t (q : Nat × Value) => t.setIfInBounds q.1 q.2) r.tmps), defers := [] } w :=
  ⟨by rw [hz2, hsz], fun t v hv => hz1 t v hv, hh1, hsep1, fun id hid => hfr id (by simpa using hid), ⟨List.Pairwise.nil, fun d hd => by simp at hd, Nat.le_refl _⟩⟩
 refine roundIn_of_wpIn trivial ?_
 have e0 : (r.params.zip ⟨vs⟩).foldl (fun tmps x => match x with | (t, a) => tmps.setIfInBounds t a) r.tmps = ((ps.zip vs).foldl (fun t (q : Nat × Value) => t.setIfInBounds q.1 q.2) r.tmps) := htm
 rw [e0]
 refine wpIn_mono (hwalk.run (some l) n w.heap.size ρ _ w trivial hsim (by simp)) ?_
 rintro e a1 w1 ⟨R1, H1, L1, ρ1, ⟨rfl, hno2, hz0, hbody⟩, hl1, hs1, he1⟩
 have hl1' : w1.heap[l]? = some (.loop r) := (he1.fr.blk l _ hl).same (fun o => hl0 o)
 refine ⟨_, run_beginRound hl1' hst, ?_⟩
 obtain ⟨w2, hw2⟩ : ∃ w2, w2 = w1.putObj l (.loop { r with state := .busy }) := ⟨_, rfl⟩
 rw [← hw2]
 have hs2 : Sim N w.heap.size L1 ρ1 (rg R1) (hg H1) a1 w2 := by rw [hw2]; exact hs1.putLoop hl1' hno2
 have hl2 : w2.heap[l]? = some (.loop { r with state := .busy }) := by rw [hw2]; exact putLoop_self hl1'
 refine wpIn_mono (hbody.run (some l) n w.heap.size ρ1 a1 w2 trivial hs2 hl1) ?_
 rintro e a3 w3 ⟨R3, H3, L3, ρ3, ⟨rfl, hz3, hno3, hfin⟩, hl3, hs3, he3⟩
 have hl1n : ∀ o, ¬ Owned ρ1 (hg H1) l o := fun o ho => by
  rcases he1.own l o ho with h | h
  ·
   exact hl0 o h
  ·
   omega
 have hl3' : w3.heap[l]? = some (.loop { r with state := .busy }) := (he3.fr.blk l _ hl2).same hl1n
 obtain ⟨sel, f1, f2, f3, f4⟩ := hfin.ex
 have f1' : sel.length = H1t.length + 1 := by simpa using beqE f1
 have hsel := sel_sim (R0 := []) (L0 := H1t.length + 1) sel f1' f2 trivial f3 f4 hs3
 obtain ⟨k1, k2⟩ := hsel
 -- what the end of the round hands back
 have fin : ∀ jump : Option Code, jump = jumpOf e → ∃ w4, (Instr.endRound l jump).run P w3 = .ok (.bool jump.isNone) w4 ∧ CallR ρ (some (.obj (.loop R0 N ps as_ bd)) :: H0t) w (retEnd e) (some (.obj (obEnd R0 N ps as_ bd e)) :: H1t) (.returned (.bool jump.isNone)) w4 := by
  intro jump hj
  refine ⟨_, run_endRound jump hl3', ?_⟩
  obtain ⟨r4, hr4⟩ : ∃ r4 : Loop, r4 = { r with state := if jump.isNone then .ready else .done, pending := jump } := ⟨_, rfl⟩
  have er4 : ({ ({ r with state := .busy } : Loop) with state := if jump.isNone then .ready else .done, pending := jump } : Loop) = r4 := by rw [hr4]
  rw [er4]
  obtain ⟨w4, hw4⟩ : ∃ w4, w4 = w3.putObj l (.loop r4) := ⟨_, rfl⟩
  rw [← hw4]
  have hl4 : w4.heap[l]? = some (.loop r4) := by rw [hw4]; exact putLoop_self hl3'
  have hext : ∀ id rb2, ρ id = some rb2 → pullR sel ρ3 id = some rb2 := fun id rb2 hid => by
   have hlt2 : id < H0t.length + 1 := by
    by_cases h : id < H0t.length + 1
    ·
     exact h
    ·
     rw [hfr id (by simp; omega)] at hid; cases hid
   exact k2.ext id hlt2 rb2 (he3.ext id hlt2 rb2 (he1.ext id hlt2 rb2 hid))
  have hk0 : noObj (none :: H1t) = true := hno1
  have hheap4 : HRel (pullR sel ρ3) (hg (none :: H1t)) w4 := by
   rw [hw4]
   intro id b hb
   obtain ⟨rb2, g1, g2⟩ := k1.heap id b hb
   exact ⟨rb2, g1, g2.putLoop hl3' (fun y ey => noObj_get hk0 (by rw [← ey]; exact hb))⟩
  have sub1 : ∀ id b, id ≠ 0 → hg (some (.obj (obEnd R0 N ps as_ bd e)) :: H1t) id = some b → hg (none :: H1t) id = some b := fun id b hne hb => by
   cases id with
   | zero => exact absurd rfl hne
   | succ id => rw [hg_cons_succ] at hb ⊢; exact hb
  have hfoot : ∀ id b rb2 o, id ≠ 0 → hg (some (.obj (obEnd R0 N ps as_ bd e)) :: H1t) id = some b → pullR sel ρ3 id = some rb2 → ¬ foot rb2 b l o := by
   intro id b rb2 o hne hb hr hf
   have hb2 := sub1 id b hne hb
   obtain ⟨rb3, g1, g2⟩ := hheap4 id b hb2
   rw [hr] at g1; cases g1
   obtain ⟨x, hc, hx⟩ := foot_cells g2 (fun y ey => noObj_get hk0 (by rw [← ey]; exact hb2)) hf
   rw [hl4] at hc; cases hc; exact hx rfl
  have hfr : Fr (Owned ρ (hg (some (.obj (.loop R0 N ps as_ bd)) :: H0t))) w w4 := by
   have a1 : Fr (Owned ρ (hg (some (.obj (.loop R0 N ps as_ bd)) :: H0t))) w w1 := he1.fr.mono (fun k o _ h => hown0 k o h)
   have a2 : Fr (Owned ρ (hg (some (.obj (.loop R0 N ps as_ bd)) :: H0t))) w w2 := by
    rw [hw2]; exact a1.trans (Fr.putLoop hl1' ⟨0, hownl⟩) (fun _ _ _ h => h)
   have a3 : Fr (Owned ρ (hg (some (.obj (.loop R0 N ps as_ bd)) :: H0t))) w w3 := a2.trans he3.fr (fun k o hk h => by
    rcases he1.own k o h with h | h
    ·
     exact hown0 k o h
    ·
     omega)
   rw [hw4]; exact a3.trans (Fr.putLoop hl3' ⟨0, hownl⟩) (fun _ _ _ h => h)
  have hb0 : ORel (pullR sel ρ3) w4 l (obEnd R0 N ps as_ bd e) := by
   unfold obEnd
   rw [← hj]
   cases jump with
   | none =>
    have : r4 = r := by rw [hr4]; cases r; simp only at hst hpd; subst hst; subst hpd; rfl
    rw [this] at hl4
    exact ⟨r, hl4, hst, hpd, hrp, hra, hrbd, hsz, fun t v hv => (hrel t v hv).ext (fun id rb2 h => hext id rb2 h)⟩
   | some c => exact ⟨r4, hl4, by rw [hr4]; rfl, by rw [hr4]⟩
  refine ⟨pullR sel ρ3, ?_, ?_, ?_, ?_, ?_⟩
  ·
   simp only [retEnd, Rel, hj]
  ·
   intro id b hb
   by_cases h0 : id = 0
   ·
    subst h0
    rw [hg_cons_zero] at hb; cases hb
    exact ⟨rb, hext 0 rb hrb, by rw [hlb] at hb0; exact hb0⟩
   ·
    exact hheap4 id b (sub1 id b h0 hb)
  ·
   intro i j bi bj ri rj hne hi hj' hri hrj hown k o ⟨hfi, hfj⟩
   by_cases h0 : i = 0
   ·
    subst h0
    rw [hg_cons_zero] at hi; cases hi
    rw [hext 0 rb hrb] at hri; cases hri
    have hkl : k = l := by rw [hlb]; exact hfi
    subst hkl
    exact hfoot j bj rj o (fun e => hne e.symm) hj' hrj hfj
   ·
    by_cases h1 : j = 0
    ·
     subst h1
     rw [hg_cons_zero] at hj'; cases hj'
     rw [hext 0 rb hrb] at hrj; cases hrj
     have hkl : k = l := by rw [hlb]; exact hfj
     subst hkl
     exact hfoot i bi ri o h0 hi hri hfi
    ·
     exact k1.sep i j bi bj ri rj hne (sub1 i bi h0 hi) (sub1 j bj h1 hj') hri hrj hown k o ⟨hfi, hfj⟩
  ·
   intro id hid; exact k1.fresh id (by simpa using hid)
  ·
   refine ⟨fun id _ rb2 h => hext id rb2 h, hfr, ?_⟩
   rintro k o ⟨id, b, rb2, h1, h2, h3, h4⟩
   by_cases h0 : id = 0
   ·
    subst h0
    rw [hg_cons_zero] at h1; cases h1
    rw [hext 0 rb hrb] at h2; cases h2
    have hkl : k = l := by rw [hlb]; exact h4
    subst hkl
    exact .inl ⟨0, _, rb, hg_cons_zero _ _, hrb, rfl, hlb⟩
   ·
    rcases k2.own k o ⟨id, b, rb2, sub1 id b h0 h1, h2, h3, h4⟩ with h | h
    ·
     rcases he3.own k o h with h | h
     ·
      rcases he1.own k o h with h | h
      ·
       exact .inl (hown0 k o h)
      ·
       exact .inr h
     ·
      right
      have : w2.heap.size = w1.heap.size := by rw [hw2]; simp [World.putObj]
      have := he1.fr.size
      omega
    ·
     right
     have h1 := he1.fr.size
     have h2 : w2.heap.size = w1.heap.size := by rw [hw2]; simp [World.putObj]
     have h3 := he3.fr.size
     omega
 rcases hex with rfl | rfl | ⟨i, rfl⟩
 ·
  obtain ⟨w4, g1, g2⟩ := fin none rfl
  exact ⟨_, w4, g1, g2⟩
 ·
  obtain ⟨w4, g1, g2⟩ := fin (some .ret) rfl
  exact ⟨_, w4, g1, g2⟩
 ·
  obtain ⟨w4, g1, g2⟩ := fin (some (.exit i)) rfl
  exact ⟨_, w4, g1, g2⟩
/-! ### The statement -/
theorem hg_hput (H : HL) (id : Nat) (ob : Option SB) (i : Nat) : hg (hput H id ob) i = if i = id then ob else hg H i := by
 have h := congrFun (hg_hupd H [(id, ob)]) i
 have e : hput H id ob = hupd H [(id, ob)] := by rw [hput_eq]; rfl
 rw [e, h]
 by_cases hi : i = id
 ·
  subst hi; simp [updW]
 ·
  have : (i == id) = false := by simpa using hi
  simp [updW, List.lookup_cons, this, hi]
theorem hput_le {H : HL} {id L : Nat} {ob : Option SB} (h : H.length ≤ L) (hi : id < L) : (hput H id ob).length ≤ L := by
 have e : hput H id ob = hupd H [(id, ob)] := by rw [hput_eq]; rfl
 rw [e]
 exact hupd_le h (fun i o hm => by simp only [List.mem_singleton, Prod.mk.injEq] at hm; rw [hm.1]; exact hi)
def rangeK (L0 : Nat) (R : RL) (Q : Exit → RL → HL → Nat → Prop) (H : HL) (L : Nat) : Prop :=
 match hk H L0 with
 | some (.obj (.loop _ _ _ _ _)) => Q .normal R (hput H L0 none) L
 | some (.obj (.pend .ret)) => Q .ret R (hput H L0 none) L
 | some (.obj (.pend (.exit i))) => Q (.exit i) R (hput H L0 none) L
 | _ => False
def rangeQ (L0 : Nat) (R : RL) (Q : Exit → RL → HL → Nat → Prop) : Exit → RL → HL → Nat → Prop
 | .normal, _, H, L => rangeK L0 R Q H L
 | .ret, _, H, L => rangeK L0 R Q H L
 | _, _, _, _ => False
theorem leaves_void {P : Program} {fn : Func} (hr : fn.results = #[]) (tmps : Array Value) (w : World) : ∃ v, (results fn tmps).run P w = .ok v w := by
 refine ⟨.tuple #[], ?_⟩
 unfold results
 rw [hr]
 simp
theorem range_rule {P : Program} {N A : Nat} {g : Operand} {ps : List Nat} {as_ bd : Code} {Q : Exit → RL → HL → Nat → Prop} {R : RL} {H : HL} {L : Nat} {gf : Nat} {caps : List SV} {fn : Func} {c : Code}
  (hg0 : ev R g = some (.fn gf caps)) (hle : Nat.ble H.length L = true) (hA : Nat.ble A L = true) (hf : P.funcs[gf]? = some fn) (hb : fn.body = some c) (hnm : (fn.name == "runtime.NumGoroutine") = false) (hres : fn.results = #[]) (hnt : Nat.ble (caps.length + 1) fn.ntmps = true)
  (hwalk : SWp P (· = none) fn.ntmps (L + 1) c (rangeQ L R Q) (regs 0 (.yld L :: caps)) (hput H L (some (.obj (.loop R N ps as_ bd)))) (L + 1)) :
  SWp P (· = none) N A (.rangeFunc g ⟨ps⟩ as_ bd) Q R H L := by
 refine ⟨fun r n B ρ a w hM hs hl => ?_⟩
 subst hM
 have hHL := Nat.le_of_ble_eq_true hle
 have hgv : Rel ρ (.fn gf caps) (a.eval g) := by
  cases g with
  | tmp t => exact hs.regs t _ (by rw [rg, ← lk_eq]; exact hg0)
  | const u => exact (ofVal_rel hg0).1
  | func f => simp only [ev, Option.some.injEq] at hg0; cases hg0; simp only [Rel]; exact ⟨[], rfl, Rels.nil_iff.2 rfl⟩
  | global g => cases hg0
 simp only [Rel] at hgv
 obtain ⟨cs, hge, hcaps⟩ := hgv
 refine wpIn_rangeFunc ?_
 intro fid _
 obtain ⟨r0, hr0⟩ : ∃ r0 : Loop, r0 = { state := .ready, pending := none, fn := fid, tmps := a.tmps, params := ⟨ps⟩, assign := as_, body := bd, defers := w.heap.size } := ⟨_, rfl⟩
 obtain ⟨w1, hw1⟩ : ∃ w1, w1 = (w.alloc (.deferred (some []))).alloc (.loop r0) := ⟨_, rfl⟩
 have hL1 : w1.heap[w.heap.size + 1]? = some (.loop r0) := by
  rw [hw1]; have := World.alloc_heap_new (w.alloc (.deferred (some []))) (.loop r0); rwa [World.size_alloc] at this
 have hD1 : w1.heap[w.heap.size]? = some (.deferred (some [])) := by
  rw [hw1]; exact (RowKit.Below.heap_alloc _ _ _ (by simp)).trans (World.alloc_heap_new w _)
 have hfr1 : ∀ S, Fr S w w1 := fun S => by
  rw [hw1]; exact (Fr.alloc S w _).trans (Fr.alloc S _ _) (fun _ _ _ h => h)
 have hsz1 : w1.heap.size = w.heap.size + 2 := by rw [hw1]; simp
 have hfok : FnOk P gf := ⟨fn, hf, by rw [hb]; rfl, hnm⟩
 refine ⟨w.heap.size + 1, [{ target := .collected w.heap.size, args := #[] }], w1, { target := .fn (.func gf) ⟨cs⟩, args := #[.func (.yield (w.heap.size + 1)) #[] #[]] }, w1, gf,
  #[.func (.yield (w.heap.size + 1)) #[] #[]] ++ ⟨cs⟩, w1, ?_, ?_, fun _ _ => trivial, ?_, fun h => (by cases h), ?_⟩
 ·
  rw [hw1, hr0]; exact run_enterLoop_outer _ _ _ _ _
 ·
  simp only [resolve, hge]
  simp [go_sem]
 ·
  simp only [invoke, run_callFunc hfok]
 ·
  -- the iterator
  obtain ⟨ρ1, hρ1⟩ : ∃ ρ1 : Ren, ρ1 = setR ρ L ⟨w.heap.size + 1, 0, 0, false⟩ := ⟨_, rfl⟩
  have hρL : ρ1 L = some ⟨w.heap.size + 1, 0, 0, false⟩ := by rw [hρ1]; simp [setR]
  have hρne : ∀ id, id ≠ L → ρ1 id = ρ id := fun id h => by rw [hρ1]; simp [setR, h]
  have hfresh := hs.fresh
  have hext : Ext ρ ρ1 := fun id rb h => by
   have : id ≠ L := fun e => by subst e; rw [hfresh id (Nat.le_refl _)] at h; cases h
   rw [hρne id this]; exact h
  have hgp : ∀ id, hg (hput H L (some (.obj (.loop R N ps as_ bd)))) id = if id = L then some (.obj (.loop R N ps as_ bd)) else hg H id := fun id => by
   rw [hg_hput]
  have hlowH : ∀ id b, hg H id = some b → id ≠ L := fun id b h e => by
   subst e
   have := hk_lt hHL (by rw [hk_eq]; exact h)
   omega
  have hheap1 : HRel ρ1 (hg (hput H L (some (.obj (.loop R N ps as_ bd))))) w1 := by
   intro id b hb2
   rw [hgp] at hb2
   by_cases h : id = L
   ·
    rw [if_pos h] at hb2; cases hb2; subst h
    exact ⟨_, hρL, r0, hL1, by rw [hr0], by rw [hr0], by rw [hr0], by rw [hr0], by rw [hr0], by rw [hr0]; exact hs.size, fun t v hv => by
     have := hs.regs t v hv
     rw [hr0]; exact this.ext hext⟩
   ·
    rw [if_neg h] at hb2
    obtain ⟨rb, g1, g2⟩ := hs.heap id b hb2
    exact ⟨rb, hext _ _ g1, (g2.frame (hfr1 (fun _ _ => False)) (fun _ _ _ h => h)).ext hext⟩
  have hsep1 : Sep ρ1 (hg (hput H L (some (.obj (.loop R N ps as_ bd))))) := by
   intro i j bi bj ri rj hne hi hj hri hrj hown k o ⟨hfi, hfj⟩
   rw [hgp] at hi hj
   have low : ∀ id b rb, id ≠ L → hg H id = some b → ρ1 id = some rb → foot rb b k o → k < w.heap.size := fun id b rb hid hb2 hr hf => by
    rw [hρne id hid] at hr
    obtain ⟨rb2, g1, g2⟩ := hs.heap id b hb2
    rw [hr] at g1; cases g1
    exact g2.foot_lt hf
   by_cases h1 : i = L
   ·
    rw [if_pos h1] at hi; cases hi
    by_cases h2 : j = L
    ·
     exact hne (h1.trans h2.symm)
    ·
     rw [if_neg h2] at hj
     have := low j bj rj h2 hj hrj hfj
     subst h1; rw [hρL] at hri; cases hri
     have : k = w.heap.size + 1 := hfi
     omega
   ·
    rw [if_neg h1] at hi
    by_cases h2 : j = L
    ·
     rw [if_pos h2] at hj; cases hj
     have := low i bi ri h1 hi hri hfi
     subst h2; rw [hρL] at hrj; cases hrj
     have : k = w.heap.size + 1 := hfj
     omega
    ·
     rw [if_neg h2] at hj
     rw [hρne i h1] at hri
     rw [hρne j h2] at hrj
     exact hs.sep i j bi bj ri rj hne hi hj hri hrj hown k o ⟨hfi, hfj⟩
  have hvs : Rels ρ1 (.yld L :: caps) (.func (.yield (w.heap.size + 1)) #[] #[] :: cs) :=
   Rels.cons (by simp only [Rel]; exact ⟨_, hρL, rfl⟩) (Rels.ext hext caps hcaps)
  have hargsz : (#[.func (.yield (w.heap.size + 1)) #[] #[]] ++ ⟨cs⟩ : Array Value) = ⟨.func (.yield (w.heap.size + 1)) #[] #[] :: cs⟩ := by simp
  rw [hargsz]
  have hcl := hcaps.length
  have hnt' := Nat.le_of_ble_eq_true hnt
  have hsim : Sim fn.ntmps w1.heap.size (L + 1) ρ1 (rg (regs 0 (.yld L :: caps))) (hg (hput H L (some (.obj (.loop R N ps as_ bd)))))
    { tmps := (⟨.func (.yield (w.heap.size + 1)) #[] #[] :: cs⟩ : Array Value) ++ Array.replicate (fn.ntmps - (⟨.func (.yield (w.heap.size + 1)) #[] #[] :: cs⟩ : Array Value).size) undef, defers := [] } w1 := by
   refine ⟨by simp; omega, ?_, hheap1, hsep1, fun id hid => ?_, ⟨List.Pairwise.nil, fun d hd => by simp at hd, Nat.le_refl _⟩⟩
   ·
    intro t v hv
    obtain ⟨_, h2⟩ := regs_get hv
    obtain ⟨u, hu, hr⟩ := hvs.get h2
    simp only [Nat.sub_zero] at hu
    have htl : t < (Value.func (Fn.yield (w.heap.size + 1)) #[] #[] :: cs).length := (List.getElem?_eq_some_iff.1 hu).1
    rw [Array.getD_eq_getD_getElem?, Array.getElem?_append_left (by simpa using htl)]
    simp only [List.getElem?_toArray, hu]
    exact hr
   ·
    rw [hρne id (by omega)]; exact hfresh id (by omega)
  refine callsIn_of_wp_marks hf hb trivial ?_ rfl
  have hlen1 : (hput H L (some (.obj (.loop R N ps as_ bd)))).length ≤ L + 1 := hput_le (by omega) (by omega)
  refine wpIn_mono (hwalk.run none (n - 1) w1.heap.size ρ1 _ w1 rfl hsim hlen1) ?_
  rintro e a' w2 ⟨R2, H2, L2, ρ2, hq, hl2, hs2, he2⟩
  have main : rangeK L R Q H2 L2 → LeavesInM (Fw none) (n - 1) P fn a'.tmps (rangePost (Fw none) n P (w.heap.size + 1) (fun e a' w' => ∃ R' H' L' ρ', Q e R' H' L' ∧ H'.length ≤ L' ∧ Sim N B L' ρ' (rg R') (hg H') a' w' ∧ EvA A ρ (hg H) w ρ' (hg H') w')
    { a with defers := [{ target := .collected w.heap.size, args := #[] }] ++ a.defers }) a'.defers .returning w2 := by
   intro hq
   refine leaves_marks a'.defers w2 hs2.dfr (fun w3 hm => ?_)
   obtain ⟨v, hv⟩ := leaves_void (P := P) hres a'.tmps w3
   refine ⟨v, hv, ?_⟩
   have hAL := Nat.le_of_ble_eq_true hA
   have hρ2L : ρ2 L = some ⟨w.heap.size + 1, 0, 0, false⟩ := he2.ext L (by omega) _ hρL
   -- the record, behind the iterator
   have hrec : ∃ y, hg H2 L = some (.obj y) := by
    unfold rangeK at hq
    rw [hk_eq] at hq
    cases hh : hg H2 L with
    | none => rw [hh] at hq; exact hq.elim
    | some b => cases b with
     | obj y => exact ⟨y, rfl⟩
     | _ => rw [hh] at hq; exact hq.elim
   obtain ⟨y, hy⟩ := hrec
   obtain ⟨rb, hrb, hO⟩ := hs2.heap L _ hy
   rw [hρ2L] at hrb; cases hrb
   have hloop : ∃ r3 : Loop, w3.heap[w.heap.size + 1]? = some (.loop r3) ∧ r3.state ≠ .busy ∧ r3.pending = (match y with | .loop _ _ _ _ _ => none | .pend c => some c) := by
    cases y with
    | loop R3 N3 ps3 a3 b3 => obtain ⟨r3, g1, g2, g3, _⟩ := hO; exact ⟨r3, hm.loops _ _ g1, by rw [g2]; simp, g3⟩
    | pend c3 => obtain ⟨r3, g1, g2, g3⟩ := hO; exact ⟨r3, hm.loops _ _ g1, by rw [g2]; simp, g3⟩
   obtain ⟨r3, hr3, hnb, hpd⟩ := hloop
   obtain ⟨w4, hw4⟩ : ∃ w4, w4 = w3.putObj (w.heap.size + 1) (.loop { r3 with state := .exhausted }) := ⟨_, rfl⟩
   have hend := run_endLoop (P := P) hr3 hnb
   rw [← hw4] at hend
   -- the heap without the record
   have hgp2 : ∀ id, hg (hput H2 L none) id = if id = L then none else hg H2 id := fun id => by rw [hg_hput]
   have sub : ∀ id b, hg (hput H2 L none) id = some b → id ≠ L ∧ hg H2 id = some b := fun id b h => by
    rw [hgp2] at h
    by_cases e : id = L
    ·
     rw [if_pos e] at h; cases h
    ·
     rw [if_neg e] at h; exact ⟨e, h⟩
   have hobj : ∀ id y2, hg (hput H2 L none) id = some (.obj y2) → ∃ rb, ρ2 id = some rb ∧ rb.blk ≠ w.heap.size + 1 := fun id y2 h => by
    obtain ⟨hne, h2⟩ := sub id _ h
    obtain ⟨rb, g1, g2⟩ := hs2.heap id _ h2
    refine ⟨rb, g1, fun e => ?_⟩
    exact hs2.sep L id _ _ _ rb (fun e => hne e.symm) hy h2 hρ2L g1 rfl (w.heap.size + 1) 0 ⟨rfl, e.symm⟩
   have hheap4 : HRel ρ2 (hg (hput H2 L none)) w4 := by
    intro id b hb2
    obtain ⟨hne, h2⟩ := sub id b hb2
    obtain ⟨rb, g1, g2⟩ := hs2.heap id b h2
    refine ⟨rb, g1, ?_⟩
    rw [hw4]
    have g3 := g2.marks hm
    cases b with
    | obj y2 =>
     obtain ⟨rb3, q1, q2⟩ := hobj id y2 hb2
     rw [g1] at q1; cases q1
     have keep : (w3.putObj (w.heap.size + 1) (.loop { r3 with state := .exhausted })).heap[rb.blk]? = w3.heap[rb.blk]? := World.putObj_heap_other q2
     cases y2 with
     | loop R3 N3 ps3 a3 b3 => obtain ⟨r5, k1, k2⟩ := g3; exact ⟨r5, by rw [keep]; exact k1, k2⟩
     | pend c3 => obtain ⟨r5, k1, k2⟩ := g3; exact ⟨r5, by rw [keep]; exact k1, k2⟩
    | row t l => exact g3.putLoop hr3 (fun _ e => by cases e)
    | box l => exact g3.putLoop hr3 (fun _ e => by cases e)
    | ro l => exact g3.putLoop hr3 (fun _ e => by cases e)
    | ext y => exact g3.putLoop hr3 (fun _ e => by cases e)
   have hfr4 : Fr (Owned ρ (hg H)) w w4 := by
    have a2 : Fr (Owned ρ (hg H)) w w2 := (hfr1 _).trans he2.fr (fun k o hk h => by
     obtain ⟨id, b, rb, g1, g2, g3, g4⟩ := h
     rw [hgp] at g1
     by_cases e : id = L
     ·
      rw [if_pos e] at g1; cases g1
      subst e; rw [hρL] at g2; cases g2
      have : k = w.heap.size + 1 := g4
      omega
     ·
      rw [if_neg e] at g1
      rw [hρne id e] at g2
      exact ⟨id, b, rb, g1, g2, g3, g4⟩)
    have a3 : Fr (Owned ρ (hg H)) w w3 := by
     refine ⟨hm.os.trans a2.os, hm.tape.trans a2.tape, hm.output.trans a2.output, by rw [hm.size]; exact a2.size, fun k o ho => ?_⟩
     have hk : k < w.heap.size := (Array.getElem?_eq_some_iff.1 ho).1
     rw [hm.low k (by omega)]
     exact a2.blk k o ho
    refine ⟨by rw [hw4]; exact a3.os, by rw [hw4]; exact a3.tape, by rw [hw4]; exact a3.output, by rw [hw4]; simpa [World.putObj] using a3.size, fun k o ho => ?_⟩
    have hk : k < w.heap.size := (Array.getElem?_eq_some_iff.1 ho).1
    rw [hw4, World.putObj_heap_other (by omega)]
    exact a3.blk k o ho
   have hD4 : w4.heap[w.heap.size]? = some (.deferred (some [])) := by
    have d2 : w2.heap[w.heap.size]? = some (.deferred (some [])) := (he2.fr.blk _ _ hD1).fixed rfl (fun _ _ _ h => by cases h)
    have d3 : w3.heap[w.heap.size]? = some (.deferred (some [])) := by rw [hm.low _ (by omega)]; exact d2
    rw [hw4]; exact putLoop_dfr hr3 d3
   have hown4 : ∀ k o, Owned ρ2 (hg (hput H2 L none)) k o → Owned ρ (hg H) k o ∨ w.heap.size ≤ k := by
    rintro k o ⟨id, b, rb, g1, g2, g3, g4⟩
    obtain ⟨hne, h2⟩ := sub id b g1
    rcases he2.own k o ⟨id, b, rb, h2, g2, g3, g4⟩ with h | h
    ·
     obtain ⟨id2, b2, rb2, q1, q2, q3, q4⟩ := h
     rw [hgp] at q1
     by_cases e : id2 = L
     ·
      rw [if_pos e] at q1; cases q1
      subst e; rw [hρL] at q2; cases q2
      have : k = w.heap.size + 1 := q4
      exact .inr (by omega)
     ·
      rw [if_neg e] at q1
      rw [hρne id2 e] at q2
      exact .inl ⟨id2, b2, rb2, q1, q2, q3, q4⟩
    ·
     exact .inr (by omega)
   have hextA : ∀ id rb, ρ id = some rb → ρ2 id = some rb := fun id rb h => by
    have hid : id < L := by
     by_cases e : id < L
     ·
      exact e
     ·
      rw [hfresh id (by omega)] at h; cases h
    exact he2.ext id (by omega) rb (hext id rb h)
   have hsim4 : Sim N B L2 ρ2 (rg R) (hg (hput H2 L none)) { a with defers := [{ target := .collected w.heap.size, args := #[] }] ++ a.defers } w4 := by
    refine ⟨hs.size, fun t v hv => (hs.regs t v hv).ext (fun id rb h => hextA id rb h), hheap4, fun i j bi bj ri rj hne hi hj hri hrj hown => hs2.sep i j bi bj ri rj hne (sub i bi hi).2 (sub j bj hj).2 hri hrj hown, hs2.fresh, ?_⟩
    have hd0 : DfrOk B a.defers w4 := hs.dfr.fr hfr4
    refine ⟨?_, fun d hd => ?_, hd0.2.2⟩
    ·
     simp only [List.singleton_append, List.map_cons, List.pairwise_cons]
     refine ⟨fun t ht k hk => ?_, hd0.1⟩
     cases hk
     intro e
     obtain ⟨d, hd, rfl⟩ := List.mem_map.1 ht
     obtain ⟨q, e2, _, hq2⟩ := hs.dfr.2.1 d hd
     rw [e2] at e
     simp only [Target.collected.injEq] at e
     subst e
     have := (Array.getElem?_eq_some_iff.1 hq2).1
     omega
    ·
     rcases List.mem_append.1 hd with h | h
     ·
      simp only [List.mem_singleton] at h
      subst h
      exact ⟨w.heap.size, rfl, hs.dfr.2.2, hD4⟩
     ·
      exact hd0.2.1 d h
   have hev4 : EvA A ρ (hg H) w ρ2 (hg (hput H2 L none)) w4 := ⟨fun id _ rb h => hextA id rb h, hfr4, hown4⟩
   have hlen4 : (hput H2 L none).length ≤ L2 := hput_le hl2 (by have := hk_lt hl2 (by rw [hk_eq]; exact hy); omega)
   refine ⟨r3.pending, w4, hend, ?_⟩
   rw [hpd]
   unfold rangeK at hq
   rw [hk_eq, hy] at hq
   cases y with
   | loop R3 N3 ps3 a3 b3 => exact ⟨R, _, L2, ρ2, hq, hlen4, hsim4, hev4⟩
   | pend c3 =>
    cases c3 with
    | ret => exact wpIn_ret ⟨R, _, L2, ρ2, hq, hlen4, hsim4, hev4⟩
    | exit i => exact wpIn_exit ⟨R, _, L2, ρ2, hq, hlen4, hsim4, hev4⟩
    | _ => exact hq.elim
  cases e with
  | normal => exact main hq
  | ret => exact main hq
  | _ => exact hq.elim
end Go.Sh
namespace Go.Sh
theorem sload_map {α : Type} (f : α → SV) (d : α) {l : List α} {k i : Nat} (hk : k = i) (h : i < l.length) : sload false 1 (l.map f) k = some (f (l.getD i d)) := by
 subst hk
 simp [sload, h]
theorem sload_u8 {l : List UInt8} {k i : Nat} (hk : k = i) (h : i < l.length) : sload false 1 (l.map .u8) k = some (.u8 (l.getD i 0)) := sload_map _ _ hk h
theorem sload_u32 {l : List UInt32} {k i : Nat} (hk : k = i) (h : i < l.length) : sload false 1 (l.map .u32) k = some (.u32 (l.getD i 0)) := sload_map _ _ hk h
theorem sload_u64 {l : List UInt64} {k i : Nat} (hk : k = i) (h : i < l.length) : sload false 1 (l.map .u64) k = some (.u64 (l.getD i 0)) := sload_map _ _ hk h
theorem sload_i {l : List Int} {k i : Nat} (hk : k = i) (h : i < l.length) : sload false 1 (l.map .i) k = some (.i (l.getD i 0)) := sload_map _ _ hk h
theorem sload_all {l : List SV} {k sz : Nat} (hk : k = 0) (h : l.length = sz) : sload true sz l k = some (.agg l) := by
 subst hk; subst h
 simp only [sload, if_true]
 rw [if_pos (by omega), List.drop_zero, List.take_of_length_le (Nat.le_refl _)]
theorem sload_sub {α : Type} (f : α → SV) {l : List α} {k i sz : Nat} (hk : k = i) (h : i + sz ≤ l.length) : sload true sz (l.map f) k = some (.agg (((l.drop i).take sz).map f)) := by
 subst hk
 simp only [sload, if_true]
 rw [if_pos (by simpa using h), ← List.map_drop, ← List.map_take]
@[simp] theorem sput_agg_whole {l m : List SV} (h : m.length = l.length) : sput l 0 (.agg m) = m := by
 simp [sput, h]
theorem sput_all {l m : List SV} {k : Nat} (hk : k = 0) (h : m.length = l.length) : sput l k (.agg m) = m := by subst hk; exact sput_agg_whole h
theorem sput_m8 {l : List UInt8} {k i : Nat} {x : UInt8} (hk : k = i) : sput (l.map .u8) k (.u8 x) = (l.set i x).map .u8 := by subst hk; simp [sput, List.map_set]
theorem sput_mi {l : List Int} {k i : Nat} {x : Int} (hk : k = i) : sput (l.map .i) k (.i x) = (l.set i x).map .i := by subst hk; simp [sput, List.map_set]
theorem sput_m32 {l : List UInt32} {k i : Nat} {x : UInt32} (hk : k = i) : sput (l.map .u32) k (.u32 x) = (l.set i x).map .u32 := by subst hk; simp [sput, List.map_set]
theorem sput_m64 {l : List UInt64} {k i : Nat} {x : UInt64} (hk : k = i) : sput (l.map .u64) k (.u64 x) = (l.set i x).map .u64 := by subst hk; simp [sput, List.map_set]
theorem sload_pre8 {l : List UInt8} {r : List SV} {k i : Nat} (hk : k = i) (h : i < l.length) : sload false 1 (l.map .u8 ++ r) k = some (.u8 (l.getD i 0)) := by
 subst hk
 simp [sload, List.getElem?_append_left, h]
theorem sload_end {l : List SV} {x : SV} {k : Nat} (hk : k = l.length) : sload false 1 (l ++ [x]) k = some x := by
 subst hk; simp [sload]
theorem sput_end {l : List SV} {x y : SV} {k : Nat} (hk : k = l.length) (hy : y.atom = true) : sput (l ++ [x]) k y = l ++ [y] := by
 subst hk
 cases y <;> first | (simp [SV.atom] at hy; done) | simp [sput]
theorem bytesOf_cut {l r : List UInt8} {o n : Nat} (h : (l.drop o).take n = r) : bytesOf (((l.map SV.u8).drop o).take n) = some r := by
 subst h; rw [← List.map_drop, ← List.map_take, bytesOf_map]
theorem bytesOf_all {l : List UInt8} : bytesOf (((l.map SV.u8).drop 0).take l.length) = some l := by
 rw [List.drop_zero, take_map_len, bytesOf_map]
theorem set_map {α : Type} (f : α → SV) (l : List α) (k : Nat) (x : α) : (l.map f).set k (f x) = (l.set k x).map f := by simp [List.map_set]
theorem plainL_rep (n : Nat) {x : SV} (h : plainV x = true) : plainL (List.replicate n x) = true := by
 simp only [plainL, List.all_eq_true]; intro y hy; rw [List.eq_of_mem_replicate hy]; exact h
theorem ren_z8 {sel : List Nat} {n : Nat} {x : UInt8} : renL sel ((List.replicate n x).map .u8) = some (List.replicate n (.u8 x)) := by rw [List.map_replicate]; exact renL_plain sel (plainL_rep n rfl)
theorem ren_zi {sel : List Nat} {n : Nat} {x : Int} : renL sel ((List.replicate n x).map .i) = some (List.replicate n (.i x)) := by rw [List.map_replicate]; exact renL_plain sel (plainL_rep n rfl)
theorem ren_z32 {sel : List Nat} {n : Nat} {x : UInt32} : renL sel ((List.replicate n x).map .u32) = some (List.replicate n (.u32 x)) := by rw [List.map_replicate]; exact renL_plain sel (plainL_rep n rfl)
theorem ren_z64 {sel : List Nat} {n : Nat} {x : UInt64} : renL sel ((List.replicate n x).map .u64) = some (List.replicate n (.u64 x)) := by rw [List.map_replicate]; exact renL_plain sel (plainL_rep n rfl)
theorem ren_app {sel : List Nat} {a b c : List SV} (ha : plainL a = true) (h : renL sel b = some c) : renL sel (a ++ b) = some (a ++ c) := by
 induction a with
 | nil => exact h
 | cons x a ih =>
  simp only [plainL_cons, Bool.and_eq_true] at ha
  simp only [List.cons_append, renL, renV_plain sel ha.1, ih ha.2]
theorem ren_app2 {sel : List Nat} {a a' b c : List SV} (ha : plainL a = true) (e : a = a') (h : renL sel b = some c) : renL sel (a ++ b) = some (a' ++ c) := by subst e; exact ren_app ha h
/-! ### What stands in a register, as it is to stand -/
theorem wk_i {sel : List Nat} {n m : Int} (h : n = m) : renV sel (.i n) = some (.i m) := by subst h; rfl
theorem wk_u8 {sel : List Nat} {n m : UInt8} (h : n = m) : renV sel (.u8 n) = some (.u8 m) := by subst h; rfl
theorem wk_u32 {sel : List Nat} {n m : UInt32} (h : n = m) : renV sel (.u32 n) = some (.u32 m) := by subst h; rfl
theorem wk_u64 {sel : List Nat} {n m : UInt64} (h : n = m) : renV sel (.u64 n) = some (.u64 m) := by subst h; rfl
theorem wk_b {sel : List Nat} {n m : Bool} (h : n = m) : renV sel (.b n) = some (.b m) := by subst h; rfl
theorem wk_sl {sel : List Nat} {i j o o' n n' z : Nat} {f : Bool} (hi : sel[i]? = some j) (ho : o = o') (hn : n = n') : renV sel (.sl i o n z f) = some (.sl j o' n' z f) := by subst ho; subst hn; simp only [renV, hi]
theorem wk_tup {sel : List Nat} {l m : List SV} (h : renL sel l = some m) : renV sel (.tup l) = some (.tup m) := by simp only [renV, h]
theorem wk_agg {sel : List Nat} {l m : List SV} (h : renL sel l = some m) : renV sel (.agg l) = some (.agg m) := by simp only [renV, h]
theorem wk_cons {sel : List Nat} {x y : SV} {l m : List SV} (h : renV sel x = some y) (k : renL sel l = some m) : renL sel (x :: l) = some (y :: m) := by simp only [renL, h, k]
theorem wk_nil {sel : List Nat} : renL sel [] = some [] := rfl
theorem evb_i {R : RL} {d : Nat} {x : Operand} {n : Int} {m : Nat} (h : ev R x = some (.i n)) (hn : n = (m : Int)) : evb R d (some x) = some m := by
 subst hn; simp [evb, h, idxOf]
end Go.Sh
namespace Go.Sh
def sopYield (fl : List Bool) (R : RL) (H : HL) (L : Nat) (x : Operand) (args : List Operand) (id : Nat) (ss : List Nat) (args0 : List SV) (H0 : HL) (ret : SV) (H1 : HL) (k : K1) : Prop :=
 (match ev R x with
  | some (.yld i) => match evs R args with
   | some zs => i = id ∧ renL (id :: ss) args0 = some zs
   | none => False
  | _ => False) ∧ okH (id :: ss) H (id :: ss) H0 ∧ plainHf fl H1 = true ∧
 match Nat.beq (id :: ss).length H0.length with
 | true => match dupOk (id :: ss) 0 (id :: ss) H0 with
  | true => match cWf (id :: ss ++ newSel L (H1.length - H0.length)) fl (id :: ss ++ newSel L (H1.length - H0.length)) H0 H1 with
   | some W => match renV (id :: ss ++ newSel L (H1.length - H0.length)) ret with
    | some z => k (some z) W (id :: ss) (L + (H1.length - H0.length))
    | none => False
   | none => False
  | false => False
 | false => False
theorem ok1_yield {P : Program} {o : Oper} {R : RL} {H : HL} {L : Nat} {k : K1} {x : Operand} {args : Array Operand} {tys : Array TypeId} {args0 : List SV} {H0 H1 : HL} {ret : SV} (id : Nat) (ss : List Nat) (fl : List Bool)
  (hc : SYield P args0 H0 ret H1) (ho : o.op = .call ⟨.value x, args, tys⟩) (hle : Nat.ble H.length L = true) (h : sopYield fl R H L x args.toList id ss args0 H0 ret H1 k) : Ok1 P o R H L k := by
 have hl := Nat.le_of_ble_eq_true hle
 obtain ⟨h1, h2, hp, h3⟩ := h
 split at h1
 ·
  rename_i i hx
  split at h1
  ·
   rename_i zs hzs
   obtain ⟨rfl, hren⟩ := h1
   split at h3
   ·
    rename_i hlen
    split at h3
    ·
     rename_i hd
     split at h3
     ·
      rename_i W hWf
      split at h3
      ·
       rename_i z hz
       have hW := cWf_eq _ _ _ _ _ _ hp hWf
       obtain ⟨w1, w2, w3, w4, w5⟩ := cW_spec hW
       refine ⟨_, _, _, _, lt_yield hl ho (ev_some hx) (evs_eq hzs) hc hren (beqE hlen) h2 hd hW hz, by omega, ?_, h3⟩
       intro j ob hm
       obtain ⟨q, hj, hent⟩ := w3 j ob hm
       have hl0 := beqE hlen
       by_cases hjs : q < H0.length
       ·
        rw [List.getElem?_append_left (by omega)] at hj
        obtain ⟨b0, hb0⟩ := w5 q hjs
        obtain ⟨s, b, e1, e2, _⟩ := okH_get h2 hb0
        rw [hj] at e1; cases e1
        have := hk_lt hl (by rw [hk_eq]; exact e2 : hk H _ = some b)
        exact ⟨by omega, fun hn => absurd (List.mem_of_getElem? hj) hn⟩
       ·
        rw [List.getElem?_append_right (by omega), newSel_get] at hj
        split at hj
        ·
         have := Option.some.inj hj
         exact ⟨by omega, fun _ => by omega⟩
        ·
         cases hj
      ·
       exact h3.elim
     ·
      exact h3.elim
    ·
     exact h3.elim
   ·
    exact h3.elim
  ·
   exact h1.elim
 ·
  exact h1.elim
end Go.Sh
namespace Go.Sh
open Go.Proofs
set_option maxHeartbeats 4000000
def dbl (x : UInt8) : UInt8 := shl8 x 1 ^^^ (shr8 x 7 * 27)
def lgSt : Nat → UInt8 × List UInt8 × List Int
 | 0 => (1, List.replicate 255 0, List.replicate 256 0)
 | i + 1 => ((lgSt i).1 ^^^ dbl (lgSt i).1, (lgSt i).2.1.set i (lgSt i).1, (lgSt i).2.2.set (lgSt i).1.toNat (i : Int))
theorem lgSt_len : ∀ i, (lgSt i).2.1.length = 255 ∧ (lgSt i).2.2.length = 256
 | 0 => ⟨List.length_replicate, List.length_replicate⟩
 | i + 1 => by
  have h := lgSt_len i
  exact ⟨(List.length_set ..).trans h.1, (List.length_set ..).trans h.2⟩
theorem lg1 (i : Nat) : (lgSt (i + 1)).1 = (lgSt i).1 ^^^ dbl (lgSt i).1 := rfl
theorem lg2 (i : Nat) : (lgSt (i + 1)).2.1 = (lgSt i).2.1.set i (lgSt i).1 := rfl
theorem lg3 (i : Nat) : (lgSt (i + 1)).2.2 = (lgSt i).2.2.set (lgSt i).1.toNat (i : Int) := rfl
theorem lg0 : lgSt 0 = (1, List.replicate 255 0, List.replicate 256 0) := rfl
attribute [irreducible] lgSt
theorem f100 : SCall Try.prog 100 [] [] (.tup [.agg ((lgSt 255).2.1.map .u8), .agg ((lgSt 255).2.2.map .i)]) [] := by
 refine scall_of ttOk (by kernel_rfl : Try.prog.funcs[100]? = some Try.f100) rfl rfl rfl ?_
 refine sw_ok ttOk mixed (by kernel_rfl) ?_
 conv => whnf
 repeat (fail)
 refine loop_rule ttOk mixed (by kernel_rfl) (ι := { i : Nat // i ≤ 255 }) (fun i => [(0, .p 0 0), (1, .p 1 0), (2, .u8 (lgSt i.1).1), (4, .i (i.1 : Int))]) (fun i => [some (.box ((lgSt i.1).2.1.map .u8)), some (.box ((lgSt i.1).2.2.map .i))]) (fun _ => 2) (fun i => 255 - i.1) ⟨0, by omega⟩ ?_ ?_
 ·
  refine Weak.sel [0, 1] rfl rfl ⟨rfl, rfl, ?_, rfl, trivial⟩ ⟨?_, ?_, trivial⟩ rfl rfl
  ·
   show renV _ (.u8 (lgSt 0).1) = _
   rw [lg0]; rfl
  ·
   show renL _ ((lgSt 0).2.1.map .u8) = some (List.replicate 255 (.u8 0))
   rw [lg0]; exact ren_z8
  ·
   show renL _ ((lgSt 0).2.2.map .i) = some (List.replicate 256 (.i 0))
   rw [lg0]; exact ren_zi
 ·
  rintro ⟨i, hi⟩
  obtain ⟨l1, l2⟩ := lgSt_len i
  dsimp only
  conv => whnf
  refine ⟨fun hc => ?_, fun hc => ?_⟩
  ·
   have hi2 : i < 255 := by simp at hc; omega
   have hx : (lgSt i).1.toNat < 256 := UInt8.toNat_lt _
   have hw : w64 ((i : Int) + 1) = ((i + 1 : Nat) : Int) := by simp only [w64_eq]; omega
   have g2 := lg2 i
   have g3 := lg3 i
   conv => whnf
   repeat (first | (refine Exists.intro _ (And.intro (sput_m8 (i := i) (by first | rfl | (simp; done))) ?_); conv => whnf) | (refine Exists.intro _ (And.intro (idx_i (m := i) (by first | rfl)) ?_); conv => whnf) | (refine Exists.intro _ (And.intro rfl ?_); conv => whnf) | (refine And.intro (by first | omega | (simp; omega)) ?_; conv => whnf))
   refine ok1_callP [] (f85 (lgSt i).1) rfl rfl ⟨⟨rfl, by first | rfl⟩, trivial, by first | rfl, ?_⟩
   conv => whnf
   repeat (fail)
   refine ⟨⟨i + 1, by omega⟩, by simp only; omega, ?_⟩
   refine Weak.sel [0, 1] rfl rfl ?_ ?_ rfl rfl
   ·
    (repeat' (first | exact trivial | refine And.intro ?_ ?_)) <;> first | rfl | exact wk_i (by first | rfl | exact hw.symm) | exact wk_u8 (by first | (simp [hw, lg1, dbl, g2, g3]; done))
   ·
    (repeat' (first | exact trivial | refine And.intro ?_ ?_)) <;> first | exact ren_eq (by first | (simp; done)) (by first | (simp [hw, lg1, dbl, g2, g3]; done))
  ·
   have hi2 : i = 255 := by simp at hc; omega
   subst hi2
   conv => whnf
   repeat (first | (refine Exists.intro _ (And.intro (sload_all rfl (by first | rfl | (simp [l1, l2]; done))) ?_); conv => whnf) | (refine Exists.intro _ (And.intro (sput_all rfl (by first | rfl)) ?_); conv => whnf) | (refine And.intro (by first | omega | (simp; omega)) ?_; conv => whnf) | (refine And.intro (by kernel_rfl) ?_; conv => whnf))
   refine ⟨[], ?_, rfl, rfl, ?_, rfl⟩
   ·
    (repeat' (first | (refine wk_tup ?_) | (refine wk_agg ?_) | (refine wk_cons ?_ ?_))) <;> first | rfl | exact ren_eq (by first | (simp; done)) (by first | rfl)
   ·
    (repeat' (first | exact trivial)) <;> fail
end Go.Sh
namespace Go.Sh
open Go.Proofs
set_option maxHeartbeats 4000000
set_option maxRecDepth 100000
def pwL : List UInt8 := [1, 3, 5, 15, 17, 51, 85, 255, 26, 46, 114, 150, 161, 248, 19, 53, 95, 225, 56, 72, 216, 115, 149, 164, 247, 2, 6, 10, 30, 34, 102, 170, 229, 52, 92, 228, 55, 89, 235, 38, 106, 190, 217, 112, 144, 171, 230, 49, 83, 245, 4, 12, 20, 60, 68, 204, 79, 209, 104, 184, 211, 110, 178, 205, 76, 212, 103, 169, 224, 59, 77, 215, 98, 166, 241, 8, 24, 40, 120, 136, 131, 158, 185, 208, 107, 189, 220, 127, 129, 152, 179, 206, 73, 219, 118, 154, 181, 196, 87, 249, 16, 48, 80, 240, 11, 29, 39, 105, 187, 214, 97, 163, 254, 25, 43, 125, 135, 146, 173, 236, 47, 113, 147, 174, 233, 32, 96, 160, 251, 22, 58, 78, 210, 109, 183, 194, 93, 231, 50, 86, 250, 21, 63, 65, 195, 94, 226, 61, 71, 201, 64, 192, 91, 237, 44, 116, 156, 191, 218, 117, 159, 186, 213, 100, 172, 239, 42, 126, 130, 157, 188, 223, 122, 142, 137, 128, 155, 182, 193, 88, 232, 35, 101, 175, 234, 37, 111, 177, 200, 67, 197, 84, 252, 31, 33, 99, 165, 244, 7, 9, 27, 45, 119, 153, 176, 203, 70, 202, 69, 207, 74, 222, 121, 139, 134, 145, 168, 227, 62, 66, 198, 81, 243, 14, 18, 54, 90, 238, 41, 123, 141, 140, 143, 138, 133, 148, 167, 242, 13, 23, 57, 75, 221, 124, 132, 151, 162, 253, 28, 36, 108, 180, 199, 82, 246]
def lgL : List Int := [0, 0, 25, 1, 50, 2, 26, 198, 75, 199, 27, 104, 51, 238, 223, 3, 100, 4, 224, 14, 52, 141, 129, 239, 76, 113, 8, 200, 248, 105, 28, 193, 125, 194, 29, 181, 249, 185, 39, 106, 77, 228, 166, 114, 154, 201, 9, 120, 101, 47, 138, 5, 33, 15, 225, 36, 18, 240, 130, 69, 53, 147, 218, 142, 150, 143, 219, 189, 54, 208, 206, 148, 19, 92, 210, 241, 64, 70, 131, 56, 102, 221, 253, 48, 191, 6, 139, 98, 179, 37, 226, 152, 34, 136, 145, 16, 126, 110, 72, 195, 163, 182, 30, 66, 58, 107, 40, 84, 250, 133, 61, 186, 43, 121, 10, 21, 155, 159, 94, 202, 78, 212, 172, 229, 243, 115, 167, 87, 175, 88, 168, 80, 244, 234, 214, 116, 79, 174, 233, 213, 231, 230, 173, 232, 44, 215, 117, 122, 235, 22, 11, 245, 89, 203, 95, 176, 156, 169, 81, 160, 127, 12, 246, 111, 23, 196, 73, 236, 216, 67, 31, 45, 164, 118, 123, 183, 204, 187, 62, 90, 251, 96, 177, 134, 59, 82, 161, 108, 170, 85, 41, 157, 151, 178, 135, 144, 97, 190, 220, 252, 188, 149, 207, 205, 55, 63, 91, 209, 83, 57, 132, 60, 65, 162, 109, 71, 20, 42, 158, 93, 86, 242, 211, 171, 68, 17, 146, 217, 35, 32, 46, 137, 180, 124, 184, 38, 119, 153, 227, 165, 103, 74, 237, 222, 197, 49, 254, 24, 13, 99, 140, 128, 192, 247, 112, 7]
def sbx : List UInt8 := [99, 124, 119, 123, 242, 107, 111, 197, 48, 1, 103, 43, 254, 215, 171, 118, 202, 130, 201, 125, 250, 89, 71, 240, 173, 212, 162, 175, 156, 164, 114, 192, 183, 253, 147, 38, 54, 63, 247, 204, 52, 165, 229, 241, 113, 216, 49, 21, 4, 199, 35, 195, 24, 150, 5, 154, 7, 18, 128, 226, 235, 39, 178, 117, 9, 131, 44, 26, 27, 110, 90, 160, 82, 59, 214, 179, 41, 227, 47, 132, 83, 209, 0, 237, 32, 252, 177, 91, 106, 203, 190, 57, 74, 76, 88, 207, 208, 239, 170, 251, 67, 77, 51, 133, 69, 249, 2, 127, 80, 60, 159, 168, 81, 163, 64, 143, 146, 157, 56, 245, 188, 182, 218, 33, 16, 255, 243, 210, 205, 12, 19, 236, 95, 151, 68, 23, 196, 167, 126, 61, 100, 93, 25, 115, 96, 129, 79, 220, 34, 42, 144, 136, 70, 238, 184, 20, 222, 94, 11, 219, 224, 50, 58, 10, 73, 6, 36, 92, 194, 211, 172, 98, 145, 149, 228, 121, 231, 200, 55, 109, 141, 213, 78, 169, 108, 86, 244, 234, 101, 122, 174, 8, 186, 120, 37, 46, 28, 166, 180, 198, 232, 221, 116, 31, 75, 189, 139, 138, 112, 62, 181, 102, 72, 3, 246, 14, 97, 53, 87, 185, 134, 193, 29, 158, 225, 248, 152, 17, 105, 217, 142, 148, 155, 30, 135, 233, 206, 85, 40, 223, 140, 161, 137, 13, 191, 230, 66, 104, 65, 153, 45, 15, 176, 84, 187, 22]
theorem pw_eq : (lgSt 255).2.1 = pwL := by kernel_rfl
theorem lg_eq : (lgSt 255).2.2 = lgL := by kernel_rfl
theorem lg_all : lgL.all (fun n => decide (0 ≤ n ∧ n ≤ 254)) = true := by kernel_rfl
theorem pwL_len : pwL.length = 255 := by kernel_rfl
theorem lgL_len : lgL.length = 256 := by kernel_rfl
theorem sbx_len : sbx.length = 256 := by kernel_rfl
def rot1 (y : UInt8) : UInt8 := shl8 y 1 ||| shr8 y 7
def aff (y : UInt8) : UInt8 := 99 ^^^ y ^^^ rot1 y ^^^ rot1 (rot1 y) ^^^ rot1 (rot1 (rot1 y)) ^^^ rot1 (rot1 (rot1 (rot1 y)))
def binv (i : Nat) : UInt8 := if 0 < i then pwL.getD ((255 - (lgL.getD i 0).toNat) % 255) 0 else 0
def bxSt : Nat → List UInt8
 | 0 => List.replicate 256 0
 | i + 1 => (bxSt i).set i (aff (binv i))
theorem bx_eq : bxSt 256 = sbx := by kernel_rfl
theorem bxSt_len : ∀ i, (bxSt i).length = 256
 | 0 => List.length_replicate
 | i + 1 => (List.length_set ..).trans (bxSt_len i)
theorem bx1 (i : Nat) : bxSt (i + 1) = (bxSt i).set i (aff (binv i)) := rfl
theorem bx0 : bxSt 0 = List.replicate 256 0 := rfl
attribute [irreducible] bxSt pwL lgL sbx
theorem lg_lt (i : Nat) (h : i < 256) : ∃ v : Nat, lgL.getD i 0 = (v : Int) ∧ v ≤ 254 := by
 have hm := List.all_eq_true.1 lg_all (lgL.getD i 0) (by
  rw [List.getD_eq_getElem?_getD, List.getElem?_eq_getElem (by rw [lgL_len]; exact h)]
  exact List.getElem_mem _)
 simp only [decide_eq_true_eq] at hm
 exact ⟨(lgL.getD i 0).toNat, by omega, by omega⟩
theorem f80 : SCall Try.prog 80 [] [] (.agg (sbx.map .u8)) [] := by
 have h100 := f100
 rw [pw_eq, lg_eq] at h100
 have lp := pwL_len
 have ll := lgL_len
 refine scall_of ttOk (by kernel_rfl : Try.prog.funcs[80]? = some Try.f80) rfl rfl rfl ?_
 refine sw_ok ttOk mixed (by kernel_rfl) ?_
 conv => whnf
 repeat (fail)
 refine ok1_callF [] [true, true, true, true, true, true, true, true, true, true, true, true] true (h100) rfl rfl ⟨⟨rfl, by first | rfl⟩, trivial, by first | rfl, by first | simp [plainRf, plainR, plainT, plainW], ?_⟩
 conv => whnf
 repeat (first | (refine Exists.intro _ (And.intro (sput_all rfl (by first | rfl | (simp; omega))) ?_); conv => whnf) | (refine And.intro (by first | omega | (simp; omega)) ?_; conv => whnf))
 refine loop_rule ttOk mixed (by kernel_rfl) (ι := { i : Nat // i ≤ 256 }) (fun i => [(0, .p 0 0), (1, .p 1 0), (2, .p 2 0), (3, .p 3 0), (11, .i (i.1 : Int))]) (fun i => [some (.box (List.replicate 256 (.u8 0))), some (.box (pwL.map .u8)), some (.box (lgL.map .i)), some (.box ((bxSt i.1).map .u8))]) (fun _ => 4) (fun i => 256 - i.1) ⟨0, by omega⟩ ?_ ?_
 ·
  refine Weak.sel [0, 1, 2, 3] rfl rfl ?_ ?_ rfl rfl
  ·
   (repeat' (first | exact trivial | refine And.intro ?_ ?_)) <;> first | rfl
  ·
   (repeat' (first | exact trivial | refine And.intro ?_ ?_ | (refine wk_cons ?_ ?_))) <;> first | rfl | exact ren_eq (by first | (simp; done)) (by first | rfl | (simp [bx0, pwL_len, lgL_len]; done))
 ·
  rintro ⟨i, hi⟩
  have l3 := bxSt_len i
  dsimp only
  conv => whnf
  refine ⟨fun hc => ?_, fun hc => ?_⟩
  ·
   have hi2 : i < 256 := by simp at hc; omega
   have hw : w64 ((i : Int) + 1) = ((i + 1 : Nat) : Int) := by simp only [w64_eq]; omega
   obtain ⟨v, hv, hv2⟩ := lg_lt i hi2
   have hw2 : (w64 (255 - lgL.getD i 0)).tmod 255 = (((255 - v) % 255 : Nat) : Int) := by
    rw [hv, w64_of (by omega) (by omega)]
    rw [Int.tmod_eq_emod_of_nonneg (by omega)]; omega
   have hb := bx1 i
   by_cases h0 : 0 < i
   ·
    have hbi : binv i = pwL.getD ((255 - v) % 255) 0 := by unfold binv; first | (rw [if_pos h0, hv]; rfl)
    rw [hbi] at hb
    conv => whnf
    refine brT (by simp; omega) ?_
    conv => whnf
    repeat (first | (refine Exists.intro _ (And.intro (idx_i (m := i) (by first | rfl)) ?_); conv => whnf) | (refine Exists.intro _ (And.intro (sload_i (i := i) (by first | rfl | (simp; done)) (by first | omega)) ?_); conv => whnf) | (refine Exists.intro _ (And.intro (sload_u8 (i := (255 - v) % 255) (by first | rfl | (simp; done)) (by first | omega)) ?_); conv => whnf) | (refine Exists.intro _ (And.intro (idx_i (m := (255 - v) % 255) (by first | rfl | omega)) ?_); conv => whnf) | (refine Exists.intro _ (And.intro rfl ?_); conv => whnf) | (refine And.intro (by first | omega) ?_; conv => whnf))
    obtain ⟨y, hy⟩ : ∃ y, y = pwL.getD ((255 - v) % 255) 0 := ⟨_, rfl⟩
    refine loop_rounds ttOk mixed (by kernel_rfl) 6 ?_
    conv => whnf
    repeat (first | (refine brT rfl ?_; conv => whnf) | (refine brF rfl ?_; conv => whnf) | (refine Exists.intro _ (And.intro (sput_m8 (i := i) (by first | rfl | (simp; done))) ?_); conv => whnf) | (refine Exists.intro _ (And.intro (idx_i (m := i) (by first | rfl)) ?_); conv => whnf) | (refine And.intro (by first | omega | (simp; omega)) ?_; conv => whnf))
    refine ⟨⟨i + 1, by omega⟩, by simp only; omega, ?_⟩
    refine Weak.sel [0, 1, 2, 3] rfl rfl ?_ ?_ rfl rfl
    ·
     (repeat' (first | exact trivial | refine And.intro ?_ ?_)) <;> first | rfl | exact wk_i (by first | exact hw.symm)
    ·
     (repeat' (first | exact trivial | refine And.intro ?_ ?_ | (refine wk_cons ?_ ?_))) <;> first | rfl | exact ren_eq (by first | (simp; done)) (by first | rfl | (simp [hw, hb, aff, rot1]; done))
   ·
    have hbi : binv i = 0 := by unfold binv; first | rw [if_neg h0]
    rw [hbi] at hb
    conv => whnf
    refine brF (by simp; omega) ?_
    conv => whnf
    repeat (fail)
    obtain ⟨y, hy⟩ : ∃ y, y = 0 := ⟨_, rfl⟩
    refine loop_rounds ttOk mixed (by kernel_rfl) 6 ?_
    conv => whnf
    repeat (first | (refine brT rfl ?_; conv => whnf) | (refine brF rfl ?_; conv => whnf) | (refine Exists.intro _ (And.intro (sput_m8 (i := i) (by first | rfl | (simp; done))) ?_); conv => whnf) | (refine Exists.intro _ (And.intro (idx_i (m := i) (by first | rfl)) ?_); conv => whnf) | (refine And.intro (by first | omega | (simp; omega)) ?_; conv => whnf))
    refine ⟨⟨i + 1, by omega⟩, by simp only; omega, ?_⟩
    refine Weak.sel [0, 1, 2, 3] rfl rfl ?_ ?_ rfl rfl
    ·
     (repeat' (first | exact trivial | refine And.intro ?_ ?_)) <;> first | rfl | exact wk_i (by first | exact hw.symm)
    ·
     (repeat' (first | exact trivial | refine And.intro ?_ ?_ | (refine wk_cons ?_ ?_))) <;> first | rfl | exact ren_eq (by first | (simp; done)) (by first | rfl | (simp [hw, hb, aff, rot1]; done))
  ·
   have hi2 : i = 256 := by simp at hc; omega
   subst hi2
   conv => whnf
   repeat (first | (refine Exists.intro _ (And.intro (sload_all rfl (by first | rfl | (simp [l3]; done))) ?_); conv => whnf) | (refine Exists.intro _ (And.intro (sput_all rfl (by first | rfl | (simp [l3]; done))) ?_); conv => whnf) | (refine And.intro (by first | omega | (simp; omega)) ?_; conv => whnf))
   rw [bx_eq]
   refine ⟨[], ?_, rfl, rfl, ?_, rfl⟩
   ·
    (repeat' (first | (refine wk_agg ?_))) <;> first | exact ren_eq (by first | (simp; done)) (by first | rfl)
   ·
    (repeat' (first | exact trivial)) <;> fail
def sb (x : UInt8) : UInt8 := sbx.getD x.toNat 0
theorem f43 (x : UInt8) : SCall Try.prog 43 [.u8 x] [] (.u8 (sb x)) [] := by
 have hl := sbx_len
 have hx : x.toNat < 256 := UInt8.toNat_lt _
 refine scall_of ttOk (by kernel_rfl : Try.prog.funcs[43]? = some Try.f43) rfl rfl rfl ?_
 refine sw_ok ttOk mixed (by kernel_rfl) ?_
 conv => whnf
 repeat (fail)
 refine ok1_callF [] [true, true, true, true, true, true, true, true, true, true, true, true] true (f80) rfl rfl ⟨⟨rfl, by first | rfl⟩, trivial, by first | rfl, by first | simp [plainRf, plainR, plainT, plainW], ?_⟩
 conv => whnf
 repeat (first | (refine Exists.intro _ (And.intro (sput_all rfl (by first | rfl | (simp [hl]; done))) ?_); conv => whnf) | (refine Exists.intro _ (And.intro (sload_u8 (i := x.toNat) (by first | rfl | (simp; done)) (by first | omega)) ?_); conv => whnf) | (refine Exists.intro _ (And.intro rfl ?_); conv => whnf) | (refine And.intro (by first | omega | (simp; omega)) ?_; conv => whnf))
 refine ⟨[], ?_, rfl, rfl, ?_, rfl⟩
 ·
  (repeat' (fail)) <;> first | rfl
 ·
  (repeat' (first | exact trivial)) <;> fail
end Go.Sh
namespace Go.Sh
open Go.Proofs
set_option maxHeartbeats 4000000
def ciB (n : Nat) (fl : Bool) : SB := .ro (sbx.map .u8 ++ [.sl 1 0 n 4 fl])
def ciW (w : List UInt8) : SB := .ro (w.map .u8)
theorem f84 (a b c d : UInt8) (n : Nat) (fl : Bool) (w : List UInt8) : SCall Try.prog 84 [.p 0 0, .agg [.u8 a, .u8 b, .u8 c, .u8 d]] [some (ciB n fl), some (ciW w)] (.agg [.u8 (sb a), .u8 (sb b), .u8 (sb c), .u8 (sb d)]) [some (ciB n fl), some (ciW w)] := by
 have hl := sbx_len
 have ha : a.toNat < 256 := UInt8.toNat_lt _
 have hb : b.toNat < 256 := UInt8.toNat_lt _
 have hc : c.toNat < 256 := UInt8.toNat_lt _
 have hd : d.toNat < 256 := UInt8.toNat_lt _
 unfold ciB ciW
 refine scall_of ttOk (by kernel_rfl : Try.prog.funcs[84]? = some Try.f84) rfl rfl rfl ?_
 refine sw_ok ttOk mixed (by kernel_rfl) ?_
 conv => whnf
 repeat (first | (refine Exists.intro _ (And.intro (sload_all rfl (by first | rfl | fail)) ?_); conv => whnf) | fail)
 refine loop_rounds ttOk mixed (by kernel_rfl) 5 ?_
 conv => whnf
 repeat (first | (refine brT rfl ?_; conv => whnf) | (refine brF rfl ?_; conv => whnf) | (refine Exists.intro _ (And.intro (sload_all rfl (by first | rfl | fail)) ?_); conv => whnf) | (refine Exists.intro _ (And.intro (sput_all rfl (by first | rfl | fail)) ?_); conv => whnf) | (refine Exists.intro _ (And.intro (sload_pre8 (i := a.toNat) (by first | rfl | (simp; done) | fail) (by first | omega | fail)) ?_); conv => whnf) | (refine Exists.intro _ (And.intro (sload_pre8 (i := b.toNat) (by first | rfl | (simp; done) | fail) (by first | omega | fail)) ?_); conv => whnf) | (refine Exists.intro _ (And.intro (sload_pre8 (i := c.toNat) (by first | rfl | (simp; done) | fail) (by first | omega | fail)) ?_); conv => whnf) | (refine Exists.intro _ (And.intro (sload_pre8 (i := d.toNat) (by first | rfl | (simp; done) | fail) (by first | omega | fail)) ?_); conv => whnf) | (refine Exists.intro _ (And.intro rfl ?_); conv => whnf) | (refine And.intro (by first | omega | (simp; done) | fail) ?_; conv => whnf) | (refine And.intro (Nat.le_of_ble_eq_true rfl) ?_; conv => whnf) | (refine And.intro ⟨rfl, Nat.le_of_ble_eq_true rfl⟩ ?_; conv => whnf) | fail)
 refine ⟨[0, 1], ?_, rfl, rfl, ?_, rfl⟩
 ·
  (repeat' (first | (refine wk_agg ?_) | (refine wk_cons ?_ ?_))) <;> first | rfl | fail
 ·
  (repeat' (first | exact trivial | refine And.intro ?_ ?_ | fail)) <;> first | exact ren_eq (by first | (simp; done) | fail) (by first | rfl | fail) | exact ren_app2 (by first | (simp; done) | fail) (by first | rfl | fail) rfl | fail
theorem f86 (a b c d a2 b2 c2 d2 : UInt8) : SCall Try.prog 86 [.agg [.u8 a, .u8 b, .u8 c, .u8 d], .agg [.u8 a2, .u8 b2, .u8 c2, .u8 d2]] [] (.agg [.u8 (a ^^^ a2), .u8 (b ^^^ b2), .u8 (c ^^^ c2), .u8 (d ^^^ d2)]) [] := by
 refine scall_of ttOk (by kernel_rfl : Try.prog.funcs[86]? = some Try.f86) rfl rfl rfl ?_
 refine sw_ok ttOk mixed (by kernel_rfl) ?_
 conv => whnf
 repeat (first | (refine Exists.intro _ (And.intro (sload_all rfl (by first | rfl | fail)) ?_); conv => whnf) | fail)
 refine loop_rounds ttOk mixed (by kernel_rfl) 5 ?_
 conv => whnf
 repeat (first | (refine brT rfl ?_; conv => whnf) | (refine brF rfl ?_; conv => whnf) | (refine Exists.intro _ (And.intro (sload_all rfl (by first | rfl | fail)) ?_); conv => whnf) | (refine Exists.intro _ (And.intro (sput_all rfl (by first | rfl | fail)) ?_); conv => whnf) | (refine Exists.intro _ (And.intro rfl ?_); conv => whnf) | (refine And.intro (by first | omega | (simp; done) | fail) ?_; conv => whnf) | (refine And.intro (Nat.le_of_ble_eq_true rfl) ?_; conv => whnf) | (refine And.intro ⟨rfl, Nat.le_of_ble_eq_true rfl⟩ ?_; conv => whnf) | fail)
 refine ⟨[], ?_, rfl, rfl, ?_, rfl⟩
 ·
  (repeat' (first | (refine wk_agg ?_) | (refine wk_cons ?_ ?_))) <;> first | rfl | fail
 ·
  (repeat' (first | exact trivial | fail)) <;> fail
def mx (a b c d : UInt8) : UInt8 := a ^^^ (a ^^^ b ^^^ c ^^^ d) ^^^ dbl (a ^^^ b)
theorem f88 (a b c d : UInt8) : SCall Try.prog 88 [.agg [.u8 a, .u8 b, .u8 c, .u8 d]] [] (.agg [.u8 (a ^^^ (a ^^^ b ^^^ c ^^^ d) ^^^ dbl (a ^^^ b)), .u8 (b ^^^ (a ^^^ b ^^^ c ^^^ d) ^^^ dbl (b ^^^ c)), .u8 (c ^^^ (a ^^^ b ^^^ c ^^^ d) ^^^ dbl (c ^^^ d)), .u8 (d ^^^ (a ^^^ b ^^^ c ^^^ d) ^^^ dbl (d ^^^ a))]) [] := by
 refine scall_of ttOk (by kernel_rfl : Try.prog.funcs[88]? = some Try.f88) rfl rfl rfl ?_
 refine sw_ok ttOk mixed (by kernel_rfl) ?_
 conv => whnf
 repeat (first | (refine Exists.intro _ (And.intro (sload_all rfl (by first | rfl | fail)) ?_); conv => whnf) | (refine Exists.intro _ (And.intro rfl ?_); conv => whnf) | (refine And.intro (by first | omega | fail) ?_; conv => whnf) | fail)
 refine loop_rounds ttOk mixed (by kernel_rfl) 5 ?_
 conv => whnf
 repeat (first | (refine brT rfl ?_; conv => whnf) | (refine Exists.intro _ (And.intro rfl ?_); conv => whnf) | (refine And.intro (by first | omega | fail) ?_; conv => whnf) | (refine And.intro (Nat.le_of_ble_eq_true rfl) ?_; conv => whnf) | fail)
 refine ok1_callP [] (f85 (a ^^^ b)) rfl rfl ⟨⟨rfl, by first | rfl | fail⟩, trivial, by first | rfl | fail, ?_⟩
 conv => whnf
 repeat (first | (refine brT rfl ?_; conv => whnf) | (refine Exists.intro _ (And.intro rfl ?_); conv => whnf) | (refine And.intro (by first | omega | (simp; done) | fail) ?_; conv => whnf) | (refine And.intro (Nat.le_of_ble_eq_true rfl) ?_; conv => whnf) | fail)
 refine ok1_callP [] (f85 (b ^^^ c)) rfl rfl ⟨⟨rfl, by first | rfl | fail⟩, trivial, by first | rfl | fail, ?_⟩
 conv => whnf
 repeat (first | (refine brT rfl ?_; conv => whnf) | (refine Exists.intro _ (And.intro rfl ?_); conv => whnf) | (refine And.intro (Nat.le_of_ble_eq_true rfl) ?_; conv => whnf) | (refine And.intro ⟨rfl, Nat.le_of_ble_eq_true rfl⟩ ?_; conv => whnf) | fail)
 refine ok1_callP [] (f85 (c ^^^ d)) rfl rfl ⟨⟨rfl, by first | rfl | fail⟩, trivial, by first | rfl | fail, ?_⟩
 conv => whnf
 repeat (first | (refine brT rfl ?_; conv => whnf) | (refine Exists.intro _ (And.intro rfl ?_); conv => whnf) | (refine And.intro (Nat.le_of_ble_eq_true rfl) ?_; conv => whnf) | (refine And.intro ⟨rfl, Nat.le_of_ble_eq_true rfl⟩ ?_; conv => whnf) | fail)
 refine ok1_callP [] (f85 (d ^^^ a)) rfl rfl ⟨⟨rfl, by first | rfl | fail⟩, trivial, by first | rfl | fail, ?_⟩
 conv => whnf
 repeat (first | (refine brF rfl ?_; conv => whnf) | (refine Exists.intro _ (And.intro (sload_all rfl (by first | rfl | fail)) ?_); conv => whnf) | (refine Exists.intro _ (And.intro (sput_all rfl (by first | rfl | fail)) ?_); conv => whnf) | (refine Exists.intro _ (And.intro rfl ?_); conv => whnf) | (refine And.intro (by first | (simp; done) | fail) ?_; conv => whnf) | (refine And.intro (Nat.le_of_ble_eq_true rfl) ?_; conv => whnf) | (refine And.intro ⟨rfl, Nat.le_of_ble_eq_true rfl⟩ ?_; conv => whnf) | fail)
 refine ⟨[], ?_, rfl, rfl, ?_, rfl⟩
 ·
  (repeat' (first | (refine wk_agg ?_) | (refine wk_cons ?_ ?_))) <;> first | rfl | fail
 ·
  (repeat' (first | exact trivial | fail)) <;> fail
theorem f48 (n : Nat) (hn : n < 1000000000) (fl : Bool) (w : List UInt8) : SCall Try.prog 48 [.p 0 0] [some (ciB n fl), some (ciW w)] (.i ((n / 4 : Nat) - 1 : Int)) [some (ciB n fl), some (ciW w)] := by
 have hl := sbx_len
 have he : w64 (w64 ((n : Int).tdiv 4) - 1) = ((n / 4 : Nat) : Int) - 1 := by
  rw [Int.tdiv_eq_ediv_of_nonneg (by omega)]
  simp only [w64_eq]; omega
 unfold ciB ciW
 refine scall_of ttOk (by kernel_rfl : Try.prog.funcs[48]? = some Try.f48) rfl rfl rfl ?_
 refine sw_ok ttOk mixed (by kernel_rfl) ?_
 conv => whnf
 repeat (first | (refine brF rfl ?_; conv => whnf) | (refine Exists.intro _ (And.intro (sload_end (by first | rfl | (simp [hl]; done) | fail)) ?_); conv => whnf) | (refine Exists.intro _ (And.intro rfl ?_); conv => whnf) | (refine And.intro (by kernel_rfl) ?_; conv => whnf) | fail)
 refine ⟨[0, 1], ?_, rfl, rfl, ?_, rfl⟩
 ·
  (repeat' (fail)) <;> first | exact wk_i (by first | exact he.symm | fail) | fail
 ·
  (repeat' (first | exact trivial | refine And.intro ?_ ?_ | fail)) <;> first | exact ren_eq (by first | (simp; done) | fail) (by first | rfl | fail) | exact ren_app2 (by first | (simp; done) | fail) (by first | rfl | fail) rfl | fail
theorem f48n : SCall Try.prog 48 [.pnil] [] (.i 0) [] := by
 refine scall_of ttOk (by kernel_rfl : Try.prog.funcs[48]? = some Try.f48) rfl rfl rfl ?_
 refine sw_ok ttOk mixed (by kernel_rfl) ?_
 conv => whnf
 repeat (first | (refine brT rfl ?_; conv => whnf) | (refine And.intro (by kernel_rfl) ?_; conv => whnf) | fail)
 refine ⟨[], ?_, rfl, rfl, ?_, rfl⟩
 ·
  (repeat' (fail)) <;> first | rfl | fail
 ·
  (repeat' (first | exact trivial | fail)) <;> fail
theorem f87 (n : Nat) (fl : Bool) (w : List UInt8) (l : List UInt8) : SCall Try.prog 87 [.p 0 0, .agg (l.map .u8)] [some (ciB n fl), some (ciW w)] (.fn 101 [.p 3 0, .p 2 0]) [some (ciB n fl), some (ciW w), some (.box [.p 0 0]), some (.box (l.map .u8))] := by
 unfold ciB ciW
 refine scall_of ttOk (by kernel_rfl : Try.prog.funcs[87]? = some Try.f87) rfl rfl rfl ?_
 refine sw_ok ttOk mixed (by kernel_rfl) ?_
 conv => whnf
 repeat (fail)
 refine ⟨[0, 1, 2, 3], ?_, rfl, rfl, ?_, rfl⟩
 ·
  (repeat' (fail)) <;> first | rfl | fail
 ·
  (repeat' (first | exact trivial | refine And.intro ?_ ?_ | (refine wk_cons ?_ ?_))) <;> first | rfl | exact ren_eq (by first | (simp; done) | fail) (by first | rfl | fail) | exact ren_app2 (by first | (simp; done) | fail) (by first | rfl | fail) rfl | fail
end Go.Sh
namespace Go.Sh
open Go.Proofs
set_option maxHeartbeats 8000000
def mixC : List UInt8 → List UInt8
 | [a, b, c, d] => [a ^^^ (a ^^^ b ^^^ c ^^^ d) ^^^ dbl (a ^^^ b), b ^^^ (a ^^^ b ^^^ c ^^^ d) ^^^ dbl (b ^^^ c), c ^^^ (a ^^^ b ^^^ c ^^^ d) ^^^ dbl (c ^^^ d), d ^^^ (a ^^^ b ^^^ c ^^^ d) ^^^ dbl (d ^^^ a)]
 | l => l
def xorL : List UInt8 → List UInt8 → List UInt8
 | a :: l, b :: m => (a ^^^ b) :: xorL l m
 | _, _ => []
def movC (s : List UInt8) (i : Nat) : List UInt8 := [sb (s.getD (4 * i) 0), sb (s.getD (4 * ((i + 1) % 4) + 1) 0), sb (s.getD (4 * ((i + 2) % 4) + 2) 0), sb (s.getD (4 * ((i + 3) % 4) + 3) 0)]
def wcol (w : List UInt8) (i : Nat) : List UInt8 := [w.getD (4 * i) 0, w.getD (4 * i + 1) 0, w.getD (4 * i + 2) 0, w.getD (4 * i + 3) 0]
def rndC (last : Bool) (w : List UInt8) (n : Nat) (s : List UInt8) (i : Nat) : List UInt8 := xorL (if last then movC s i else mixC (movC s i)) (wcol w (4 * n + i))
def rnd (last : Bool) (w : List UInt8) (n : Nat) (s : List UInt8) : List UInt8 := rndC last w n s 0 ++ rndC last w n s 1 ++ rndC last w n s 2 ++ rndC last w n s 3
def sealSt (w : List UInt8) (R : Nat) (b : List UInt8) : Nat → List UInt8
 | 0 => xorL b (wcol w 0 ++ wcol w 1 ++ wcol w 2 ++ wcol w 3)
 | n + 1 => rnd (decide (n + 1 = R)) w (n + 1) (sealSt w R b n)
theorem xorL_len : ∀ {a b : List UInt8}, a.length = b.length → (xorL a b).length = a.length
 | [], [], _ => rfl
 | x :: a, y :: b, h => by simp only [xorL, List.length_cons]; rw [xorL_len (by simpa using h)]
 | [], _ :: _, h => by simp at h
 | _ :: _, [], h => by simp at h
theorem rndC_len (last : Bool) (w : List UInt8) (n : Nat) (s : List UInt8) (i : Nat) : (rndC last w n s i).length = 4 := by
 unfold rndC; rw [xorL_len]
 ·
  cases last <;> rfl
 ·
  cases last <;> rfl
theorem rnd_len (last : Bool) (w : List UInt8) (n : Nat) (s : List UInt8) : (rnd last w n s).length = 16 := by
 unfold rnd; simp [rndC_len]
theorem sealSt_len (w : List UInt8) (R : Nat) (b : List UInt8) (hb : b.length = 16) : ∀ n, (sealSt w R b n).length = 16
 | 0 => by unfold sealSt; rw [xorL_len] <;> simp [hb, wcol]
 | n + 1 => by unfold sealSt; exact rnd_len ..
theorem ex4 {α : Type} {l : List α} (h : l.length = 4) : ∃ a b c d, l = [a, b, c, d] := by
 match l, h with
 | [a, b, c, d], _ => exact ⟨a, b, c, d, rfl⟩
theorem ex16 {α : Type} {l : List α} (h : l.length = 16) : ∃ s0 s1 s2 s3 s4 s5 s6 s7 s8 s9 s10 s11 s12 s13 s14 s15, l = [s0, s1, s2, s3, s4, s5, s6, s7, s8, s9, s10, s11, s12, s13, s14, s15] := by
 match l, h with
 | [a, b, c, d, e, f, g, h, i, j, k, l, m, n, o, p], _ => exact ⟨a, b, c, d, e, f, g, h, i, j, k, l, m, n, o, p, rfl⟩
theorem sload_col {l : List UInt8} {k i : Nat} (hk : k = i) (h : i + 4 ≤ l.length) : sload true 4 (l.map .u8) k = some (.agg [.u8 (l.getD i 0), .u8 (l.getD (i + 1) 0), .u8 (l.getD (i + 2) 0), .u8 (l.getD (i + 3) 0)]) := by
 subst hk
 simp only [sload, if_true]
 rw [if_pos (by simpa using h)]
 have e : ∀ j, k + j < l.length → (l.map SV.u8)[k + j]? = some (.u8 (l.getD (k + j) 0)) := fun j hj => by
  rw [List.getElem?_map, List.getD_eq_getElem?_getD, List.getElem?_eq_getElem hj]; rfl
 have e0 := e 0 (by omega)
 have e1 := e 1 (by omega)
 have e2 := e 2 (by omega)
 have e3 := e 3 (by omega)
 congr 2
 apply List.ext_getElem?
 intro j
 rw [List.getElem?_take]
 by_cases hj : j < 4
 ·
  rw [if_pos hj, List.getElem?_drop]
  have : j = 0 ∨ j = 1 ∨ j = 2 ∨ j = 3 := by omega
  rcases this with rfl | rfl | rfl | rfl
  ·
   exact e0
  ·
   exact e1
  ·
   exact e2
  ·
   exact e3
 ·
  rw [if_neg hj, List.getElem?_eq_none]; simp; omega
theorem w64_4n (n q : Nat) (h : n ≤ 1000) (hq : q ≤ 3) : w64 (w64 (4 * (n : Int)) + (q : Int)) = ((4 * n + q : Nat) : Int) := by
 simp only [w64_eq]; omega
theorem w64_s (n : Nat) (h : n ≤ 1000) : w64 ((n : Int) + 1) = ((n + 1 : Nat) : Int) := by simp only [w64_eq]; omega
end Go.Sh
namespace Go.Sh
open Go.Proofs
set_option maxHeartbeats 8000000
theorem f47n (b : List UInt8) : SCall Try.prog 47 [.pnil, .agg (b.map .u8)] [] (.agg (List.replicate 16 (.u8 0))) [] := by
 refine scall_of ttOk (by kernel_rfl : Try.prog.funcs[47]? = some Try.f47) rfl rfl rfl ?_
 refine sw_ok ttOk mixed (by kernel_rfl) ?_
 conv => whnf
 repeat (first | (refine brT rfl ?_; conv => whnf) | (refine Exists.intro _ (And.intro (sload_all rfl (by first | rfl | fail)) ?_); conv => whnf) | (refine Exists.intro _ (And.intro (sput_all rfl (by first | rfl | fail)) ?_); conv => whnf) | (refine Exists.intro _ (And.intro rfl ?_); conv => whnf) | (refine And.intro (by first | (simp; done) | fail) ?_; conv => whnf) | (refine And.intro (by kernel_rfl) ?_; conv => whnf) | fail)
 refine ⟨[], ?_, rfl, rfl, ?_, rfl⟩
 ·
  (repeat' (first | (refine wk_agg ?_) | (refine wk_cons ?_ ?_))) <;> first | rfl | fail
 ·
  (repeat' (first | exact trivial | fail)) <;> fail
theorem f47 (fl : Bool) (w : List UInt8) (R : Nat) (hR : w.length = 16 * (R + 1)) (hR1 : 1 ≤ R) (hR2 : R ≤ 20) (b0 b1 b2 b3 b4 b5 b6 b7 b8 b9 b10 b11 b12 b13 b14 b15 : UInt8) :
  SCall Try.prog 47 [.p 0 0, .agg ([b0, b1, b2, b3, b4, b5, b6, b7, b8, b9, b10, b11, b12, b13, b14, b15].map .u8)] [some (ciB (4 * (R + 1)) fl), some (ciW w)]
   (.agg ((sealSt w R [b0, b1, b2, b3, b4, b5, b6, b7, b8, b9, b10, b11, b12, b13, b14, b15] R).map .u8)) [some (ciB (4 * (R + 1)) fl), some (ciW w)] := by
 have hl := sbx_len
 obtain ⟨nW, hnW⟩ : ∃ nW, nW = 4 * (R + 1) := ⟨_, rfl⟩
 rw [← hnW]
 unfold ciB ciW
 refine scall_of ttOk (by kernel_rfl : Try.prog.funcs[47]? = some Try.f47) rfl rfl rfl ?_
 refine sw_ok ttOk mixed (by kernel_rfl) ?_
 conv => whnf
 repeat (first | (refine brF rfl ?_; conv => whnf) | (refine Exists.intro _ (And.intro rfl ?_); conv => whnf) | (refine And.intro (by kernel_rfl) ?_; conv => whnf) | fail)
 refine loop_rounds ttOk mixed (by kernel_rfl) 5 ?_
 conv => whnf
 repeat (first | (refine brT rfl ?_; conv => whnf) | (refine Exists.intro _ (And.intro (sload_end (by first | rfl | (simp [hl]; done) | fail)) ?_); conv => whnf) | (refine Exists.intro _ (And.intro (idx_i (m := 0) (by first | rfl | fail)) ?_); conv => whnf) | (refine Exists.intro _ (And.intro (evb_i (m := 0) rfl (by first | rfl | fail)) ?_); conv => whnf) | (refine Exists.intro _ (And.intro (evb_i (m := 4) rfl (by first | rfl | fail)) ?_); conv => whnf) | (refine Exists.intro _ (And.intro (sload_col (i := 0) (by first | rfl | fail) (by first | omega | (simp [hl]; done) | fail)) ?_); conv => whnf) | (refine Exists.intro _ (And.intro rfl ?_); conv => whnf) | (refine And.intro (by first | omega | (simp; done) | fail) ?_; conv => whnf) | fail)
 refine ok1_callP [] (f86 _ _ _ _ _ _ _ _) rfl rfl ⟨⟨rfl, by first | rfl | fail⟩, trivial, by first | rfl | fail, ?_⟩
 conv => whnf
 repeat (first | (refine brT rfl ?_; conv => whnf) | (refine Exists.intro _ (And.intro (sload_end (by first | rfl | (simp [hl]; done) | fail)) ?_); conv => whnf) | (refine Exists.intro _ (And.intro (idx_i (m := 0) (by first | rfl | fail)) ?_); conv => whnf) | (refine Exists.intro _ (And.intro (idx_i (m := 1) (by first | rfl | fail)) ?_); conv => whnf) | (refine Exists.intro _ (And.intro (evb_i (m := 4) rfl (by first | rfl | fail)) ?_); conv => whnf) | (refine Exists.intro _ (And.intro (evb_i (m := 8) rfl (by first | rfl | fail)) ?_); conv => whnf) | (refine Exists.intro _ (And.intro (sload_col (i := 4) (by first | rfl | fail) (by first | omega | (simp [hl]; done) | fail)) ?_); conv => whnf) | (refine Exists.intro _ (And.intro rfl ?_); conv => whnf) | (refine And.intro (by first | omega | (simp; done) | fail) ?_; conv => whnf) | (refine And.intro (by kernel_rfl) ?_; conv => whnf) | fail)
 refine ok1_callP [] (f86 _ _ _ _ _ _ _ _) rfl rfl ⟨⟨rfl, by first | rfl | fail⟩, trivial, by first | rfl | fail, ?_⟩
 conv => whnf
 repeat (first | (refine brT rfl ?_; conv => whnf) | (refine Exists.intro _ (And.intro (sload_end (by first | rfl | (simp [hl]; done) | fail)) ?_); conv => whnf) | (refine Exists.intro _ (And.intro (idx_i (m := 1) (by first | rfl | fail)) ?_); conv => whnf) | (refine Exists.intro _ (And.intro (idx_i (m := 2) (by first | rfl | fail)) ?_); conv => whnf) | (refine Exists.intro _ (And.intro (evb_i (m := 8) rfl (by first | rfl | fail)) ?_); conv => whnf) | (refine Exists.intro _ (And.intro (evb_i (m := 12) rfl (by first | rfl | fail)) ?_); conv => whnf) | (refine Exists.intro _ (And.intro (sload_col (i := 8) (by first | rfl | fail) (by first | omega | (simp [hl]; done) | fail)) ?_); conv => whnf) | (refine Exists.intro _ (And.intro rfl ?_); conv => whnf) | (refine And.intro (by first | omega | (simp; done) | fail) ?_; conv => whnf) | (refine And.intro ⟨rfl, Nat.le_of_ble_eq_true rfl⟩ ?_; conv => whnf) | (refine And.intro (by kernel_rfl) ?_; conv => whnf) | fail)
 refine ok1_callP [] (f86 _ _ _ _ _ _ _ _) rfl rfl ⟨⟨rfl, by first | rfl | fail⟩, trivial, by first | rfl | fail, ?_⟩
 conv => whnf
 repeat (first | (refine brT rfl ?_; conv => whnf) | (refine Exists.intro _ (And.intro (sload_end (by first | rfl | (simp [hl]; done) | fail)) ?_); conv => whnf) | (refine Exists.intro _ (And.intro (idx_i (m := 2) (by first | rfl | fail)) ?_); conv => whnf) | (refine Exists.intro _ (And.intro (idx_i (m := 3) (by first | rfl | fail)) ?_); conv => whnf) | (refine Exists.intro _ (And.intro (evb_i (m := 12) rfl (by first | rfl | fail)) ?_); conv => whnf) | (refine Exists.intro _ (And.intro (evb_i (m := 16) rfl (by first | rfl | fail)) ?_); conv => whnf) | (refine Exists.intro _ (And.intro (sload_col (i := 12) (by first | rfl | fail) (by first | omega | (simp [hl]; done) | fail)) ?_); conv => whnf) | (refine Exists.intro _ (And.intro rfl ?_); conv => whnf) | (refine And.intro (by first | omega | (simp; done) | fail) ?_; conv => whnf) | (refine And.intro ⟨rfl, Nat.le_of_ble_eq_true rfl⟩ ?_; conv => whnf) | (refine And.intro (by kernel_rfl) ?_; conv => whnf) | fail)
 refine ok1_callP [] (f86 _ _ _ _ _ _ _ _) rfl rfl ⟨⟨rfl, by first | rfl | fail⟩, trivial, by first | rfl | fail, ?_⟩
 conv => whnf
 repeat (first | (refine brF rfl ?_; conv => whnf) | (refine Exists.intro _ (And.intro (idx_i (m := 3) (by first | rfl | fail)) ?_); conv => whnf) | (refine Exists.intro _ (And.intro rfl ?_); conv => whnf) | (refine And.intro (by first | omega | (simp; done) | fail) ?_; conv => whnf) | (refine And.intro ⟨rfl, Nat.le_of_ble_eq_true rfl⟩ ?_; conv => whnf) | (refine And.intro (by kernel_rfl) ?_; conv => whnf) | fail)
 refine loop_rule ttOk mixed (by kernel_rfl) (ι := { n : Nat // 1 ≤ n ∧ n ≤ R + 1 }) (fun n => [(2, .p 2 0), (4, .p 4 0), (5, .p 5 0), (6, .p 6 0), (8, .p 7 0)]) (fun n => [some (.ro (sbx.map .u8 ++ [.sl 1 0 nW 4 fl])), some (.ro (w.map .u8)), some (.box [.p 0 0]), some (.box ([b0, b1, b2, b3, b4, b5, b6, b7, b8, b9, b10, b11, b12, b13, b14, b15].map .u8)), some (.box (List.replicate 16 (.u8 0))), some (.box (List.replicate 16 (.u8 0))), some (.box ((sealSt w R [b0, b1, b2, b3, b4, b5, b6, b7, b8, b9, b10, b11, b12, b13, b14, b15] (n.1 - 1)).map .u8)), some (.box [.i (n.1 : Int)])]) (fun _ => 8) (fun n => R + 1 - n.1) ⟨1, by omega⟩ ?_ ?_
 ·
  refine Weak.sel [0, 1, 2, 3, 4, 5, 6, 7] rfl rfl ?_ ?_ rfl rfl
  ·
   (repeat' (first | exact trivial | refine And.intro ?_ ?_ | fail)) <;> first | rfl | fail
  ·
   (repeat' (first | exact trivial | refine And.intro ?_ ?_ | (refine wk_cons ?_ ?_))) <;> first | rfl | exact ren_eq (by first | (simp; done) | fail) (by first | rfl | fail) | exact ren_app2 (by first | (simp; done) | fail) (by first | rfl | fail) rfl | fail
 ·
  rintro ⟨n, hn1, hn2⟩
  have hlen := sealSt_len w R [b0, b1, b2, b3, b4, b5, b6, b7, b8, b9, b10, b11, b12, b13, b14, b15] rfl (n - 1)
  obtain ⟨st, hst⟩ : ∃ st, st = sealSt w R [b0, b1, b2, b3, b4, b5, b6, b7, b8, b9, b10, b11, b12, b13, b14, b15] (n - 1) := ⟨_, rfl⟩
  rw [← hst] at hlen
  obtain ⟨s0, s1, s2, s3, s4, s5, s6, s7, s8, s9, s10, s11, s12, s13, s14, s15, rfl⟩ := ex16 hlen
  dsimp only
  rw [← hst]
  have h48 := f48 nW (by omega) fl w
  unfold ciB ciW at h48
  conv => whnf
  repeat (first | (refine Exists.intro _ (And.intro rfl ?_); conv => whnf) | fail)
  refine ok1_callF [0, 1] [false, false] false (h48) rfl rfl ⟨⟨rfl, by first | rfl | fail⟩, by (repeat' (first | exact trivial | refine And.intro ?_ ?_)) <;> first | exact ren_eq (by first | (simp; done) | fail) (by first | rfl | fail) | exact ren_app2 (by first | (simp; done) | fail) (by first | rfl | fail) (by first | rfl | fail), by first | rfl | fail, by first | rfl | fail, ?_⟩
  conv => whnf
  repeat (first | (refine And.intro (by kernel_rfl) ?_; conv => whnf) | fail)
  have hq : ((nW / 4 : Nat) : Int) - 1 = (R : Int) := by omega
  rw [hq] at h48
  refine ⟨fun hc => ?_, fun hc => ?_⟩
  ·
   have hc' : n ≤ R := by
    have h2 : decide ((n : Int) ≤ ((nW / 4 : Nat) : Int) - 1) = true := hc
    rw [hq] at h2; simp at h2; omega
   conv => whnf
   repeat (first | (refine Exists.intro _ (And.intro (sload_all rfl (by first | rfl | fail)) ?_); conv => whnf) | (refine Exists.intro _ (And.intro (sput_all rfl (by first | rfl | fail)) ?_); conv => whnf) | (refine Exists.intro _ (And.intro rfl ?_); conv => whnf) | (refine And.intro (by first | omega | (simp; done) | fail) ?_; conv => whnf) | fail)
   have h87 := f87 nW fl w [s0, s1, s2, s3, s4, s5, s6, s7, s8, s9, s10, s11, s12, s13, s14, s15]
   unfold ciB ciW at h87
   refine ok1_callF [0, 1] [false, false, false, false] false (h87) rfl rfl ⟨⟨rfl, by first | rfl | fail⟩, by (repeat' (first | exact trivial | refine And.intro ?_ ?_)) <;> first | exact ren_eq (by first | (simp; done) | fail) (by first | rfl | fail) | exact ren_app2 (by first | (simp; done) | fail) (by first | rfl | fail) (by first | rfl | fail), by first | rfl | fail, by first | rfl | fail, ?_⟩
   conv => whnf
   repeat (fail)
   refine SWp.weak (R0 := [(2, .p 2 0), (4, .p 4 0), (5, .p 5 0), (6, .p 6 0), (8, .p 7 0), (48, .fn 101 [.p 9 0, .p 8 0])]) (H0 := [some (.ro (sbx.map .u8 ++ [.sl 1 0 nW 4 fl])), some (.ro (w.map .u8)), some (.box [.p 0 0]), some (.box ([b0, b1, b2, b3, b4, b5, b6, b7, b8, b9, b10, b11, b12, b13, b14, b15].map .u8)), some (.box (List.replicate 16 (.u8 0))), some (.box (List.replicate 16 (.u8 0))), some (.box ([s0, s1, s2, s3, s4, s5, s6, s7, s8, s9, s10, s11, s12, s13, s14, s15].map .u8)), some (.box [.i (n : Int)]), some (.box [.p 0 0]), some (.box ([s0, s1, s2, s3, s4, s5, s6, s7, s8, s9, s10, s11, s12, s13, s14, s15].map .u8))]) (L0 := 10) ?_ ?_
   ·
    refine Weak.sel [0, 1, 2, 3, 4, 5, 6, 7, 9, 10] rfl rfl ?_ ?_ rfl rfl
    ·
     (repeat' (first | exact trivial | refine And.intro ?_ ?_ | fail)) <;> first | rfl | fail
    ·
     (repeat' (first | exact trivial | refine And.intro ?_ ?_ | (refine wk_cons ?_ ?_))) <;> first | rfl | exact ren_eq (by first | (simp; done) | fail) (by first | rfl | fail) | exact ren_app2 (by first | (simp; done) | fail) (by first | rfl | fail) rfl | fail
   refine range_rule (ps := [49, 50]) rfl rfl rfl (by kernel_rfl : Try.prog.funcs[101]? = some Try.f101) rfl rfl rfl rfl ?_
   refine sw_ok ttOk mixed (by kernel_rfl) ?_
   have hf84 := fun a b c d => f84 a b c d nW fl w
   unfold ciB ciW at hf84
   conv => whnf
   repeat (fail)
   have hw0 : w64 (w64 (4 * (n : Int)) + 0) = ((4 * n + 0 : Nat) : Int) := w64_4n n 0 (by omega) (by omega)
   have hw1 : w64 (w64 (4 * (n : Int)) + 1) = ((4 * n + 1 : Nat) : Int) := w64_4n n 1 (by omega) (by omega)
   have hw2 : w64 (w64 (4 * (n : Int)) + 2) = ((4 * n + 2 : Nat) : Int) := w64_4n n 2 (by omega) (by omega)
   have hw3 : w64 (w64 (4 * (n : Int)) + 3) = ((4 * n + 3 : Nat) : Int) := w64_4n n 3 (by omega) (by omega)
   by_cases hlast : n < R
   ·
    have hlt : decide ((n : Int) < (R : Int)) = true := by simp; omega
    refine loop_rounds ttOk mixed (by kernel_rfl) 5 ?_
    conv => whnf
    repeat (first | (refine brT rfl ?_; conv => whnf) | (refine Exists.intro _ (And.intro (sload_all rfl (by first | rfl | fail)) ?_); conv => whnf) | (refine Exists.intro _ (And.intro (sput_all rfl (by first | rfl | fail)) ?_); conv => whnf) | (refine Exists.intro _ (And.intro rfl ?_); conv => whnf) | (refine And.intro (by first | omega | (simp; done) | fail) ?_; conv => whnf) | (refine And.intro (Nat.le_of_ble_eq_true rfl) ?_; conv => whnf) | (refine And.intro (by kernel_rfl) ?_; conv => whnf) | fail)
    refine ok1_callF [0, 1] [false, false] true (hf84 _ _ _ _) rfl rfl ⟨⟨rfl, by first | rfl | fail⟩, by (repeat' (first | exact trivial | refine And.intro ?_ ?_)) <;> first | exact ren_eq (by first | (simp; done) | fail) (by first | rfl | fail) | exact ren_app2 (by first | (simp; done) | fail) (by first | rfl | fail) (by first | rfl | fail), by first | rfl | fail, by first | rfl | fail, ?_⟩
    conv => whnf
    repeat (fail)
    refine ok1_yield 10 [0, 1, 2, 6, 7] [false, false, false, false, true, true] (syield_of (ps := [49, 50]) (N := Try.f47.ntmps) (R0 := [(2, .p 3 0), (6, .p 4 0), (8, .p 5 0)]) (args0 := [.i 0, .agg ((movC [s0, s1, s2, s3, s4, s5, s6, s7, s8, s9, s10, s11, s12, s13, s14, s15] 0).map .u8)]) (ex := .normal) (H0t := [some (.ro (sbx.map .u8 ++ [.sl 2 0 nW 4 fl])), some (.ro (w.map .u8)), some (.box [.p 1 0]), some (.box (([s0, s1, s2, s3, s4, s5, s6, s7, s8, s9, s10, s11, s12, s13, s14, s15]).map .u8)), some (.box [.i (n : Int)])]) (H1t := [some (.ro (sbx.map .u8 ++ [.sl 2 0 nW 4 fl])), some (.ro (w.map .u8)), some (.box [.p 1 0]), some (.box ((rndC false w n [s0, s1, s2, s3, s4, s5, s6, s7, s8, s9, s10, s11, s12, s13, s14, s15] 0 ++ [s4, s5, s6, s7, s8, s9, s10, s11, s12, s13, s14, s15]).map .u8)), some (.box [.i (n : Int)])]) (.inl rfl) rfl rfl rfl ?_) rfl rfl ⟨⟨rfl, rfl⟩, by (repeat' (first | exact trivial | refine And.intro ?_ ?_)) <;> first | rfl | exact ren_app2 (by first | (simp; done) | fail) rfl rfl | exact ren_eq (by first | (simp; done) | fail) (by first | rfl | fail), rfl, ?_⟩
    ·
     refine sw_ok ttOk mixed (by kernel_rfl) ?_
     conv => whnf
     repeat (first | (refine Exists.intro _ (And.intro (sput_all rfl (by first | rfl | fail)) ?_); conv => whnf) | (refine And.intro (by first | omega | (simp; done) | fail) ?_; conv => whnf) | (refine And.intro ⟨rfl, Nat.le_of_ble_eq_true rfl⟩ ?_; conv => whnf) | (refine And.intro (by kernel_rfl) ?_; conv => whnf) | fail)
     refine sw_ok ttOk mixed (by kernel_rfl) ?_
     conv => whnf
     repeat (first | (refine Exists.intro _ (And.intro rfl ?_); conv => whnf) | fail)
     refine ok1_callF [1, 2] [false, false] false (h48) rfl rfl ⟨⟨rfl, by first | rfl | fail⟩, by (repeat' (first | exact trivial | refine And.intro ?_ ?_)) <;> first | exact ren_eq (by first | (simp; done) | fail) (by first | rfl | fail) | exact ren_app2 (by first | (simp; done) | fail) (by first | rfl | fail) (by first | rfl | fail), by first | rfl | fail, by first | rfl | fail, ?_⟩
     conv => whnf
     repeat (first | (refine Exists.intro _ (And.intro (sload_all rfl (by first | rfl | fail)) ?_); conv => whnf) | (refine gdT hlt ?_; conv => whnf) | (refine And.intro (by kernel_rfl) ?_; conv => whnf) | fail)
     refine ok1_callP [] (f88 _ _ _ _) rfl rfl ⟨⟨rfl, by first | rfl | fail⟩, trivial, by first | rfl | fail, ?_⟩
     conv => whnf
     repeat (first | (refine Exists.intro _ (And.intro (sload_all rfl (by first | rfl | fail)) ?_); conv => whnf) | (refine Exists.intro _ (And.intro (sput_all rfl (by first | rfl | fail)) ?_); conv => whnf) | (refine Exists.intro _ (And.intro (sload_end (by first | rfl | (simp [hl]; done) | fail)) ?_); conv => whnf) | (refine Exists.intro _ (And.intro (idx_i (m := 4 * n + 0) (by first | rfl | omega | fail)) ?_); conv => whnf) | (refine Exists.intro _ (And.intro (sload_col (i := 4 * (4 * n + 0)) (by first | rfl | omega | fail) (by first | omega | fail)) ?_); conv => whnf) | (refine Exists.intro _ (And.intro rfl ?_); conv => whnf) | (refine And.intro (by first | omega | fail) ?_; conv => whnf) | (refine And.intro ⟨rfl, Nat.le_of_ble_eq_true rfl⟩ ?_; conv => whnf) | fail)
     refine ok1_callP [] (f86 _ _ _ _ _ _ _ _) rfl rfl ⟨⟨rfl, by first | rfl | fail⟩, trivial, by first | rfl | fail, ?_⟩
     conv => whnf
     repeat (first | (refine Exists.intro _ (And.intro (idx_i (m := 0) (by first | rfl | fail)) ?_); conv => whnf) | (refine Exists.intro _ (And.intro rfl ?_); conv => whnf) | (refine And.intro (by first | omega | (simp; done) | fail) ?_; conv => whnf) | (refine And.intro (by kernel_rfl) ?_; conv => whnf) | fail)
     exact ⟨[0, 1, 2, 3, 4, 5], rfl, rfl, by (repeat' (first | exact trivial | refine And.intro ?_ ?_)) <;> first | rfl | exact ren_app2 (by first | (simp; done) | fail) rfl rfl | exact ren_eq (by first | (simp; done) | fail) (by first | rfl | fail), rfl⟩
    conv => whnf
    repeat (first | (refine brT rfl ?_; conv => whnf) | (refine brF rfl ?_; conv => whnf) | (refine Exists.intro _ (And.intro (sload_all rfl (by first | rfl | fail)) ?_); conv => whnf) | (refine Exists.intro _ (And.intro (sput_all rfl (by first | rfl | fail)) ?_); conv => whnf) | (refine Exists.intro _ (And.intro rfl ?_); conv => whnf) | (refine And.intro (by first | omega | (simp; done) | fail) ?_; conv => whnf) | (refine And.intro (Nat.le_of_ble_eq_true rfl) ?_; conv => whnf) | (refine And.intro (by kernel_rfl) ?_; conv => whnf) | fail)
    refine ok1_callF [0, 1] [false, false] true (hf84 _ _ _ _) rfl rfl ⟨⟨rfl, by first | rfl | fail⟩, by (repeat' (first | exact trivial | refine And.intro ?_ ?_)) <;> first | exact ren_eq (by first | (simp; done) | fail) (by first | rfl | fail) | exact ren_app2 (by first | (simp; done) | fail) (by first | rfl | fail) (by first | rfl | fail), by first | rfl | fail, by first | rfl | fail, ?_⟩
    conv => whnf
    repeat (fail)
    refine ok1_yield 10 [0, 1, 2, 6, 7] [false, false, false, false, true, true] (syield_of (ps := [49, 50]) (N := Try.f47.ntmps) (R0 := [(2, .p 3 0), (6, .p 4 0), (8, .p 5 0)]) (args0 := [.i 1, .agg ((movC [s0, s1, s2, s3, s4, s5, s6, s7, s8, s9, s10, s11, s12, s13, s14, s15] 1).map .u8)]) (ex := .normal) (H0t := [some (.ro (sbx.map .u8 ++ [.sl 2 0 nW 4 fl])), some (.ro (w.map .u8)), some (.box [.p 1 0]), some (.box ((rndC false w n [s0, s1, s2, s3, s4, s5, s6, s7, s8, s9, s10, s11, s12, s13, s14, s15] 0 ++ [s4, s5, s6, s7, s8, s9, s10, s11, s12, s13, s14, s15]).map .u8)), some (.box [.i (n : Int)])]) (H1t := [some (.ro (sbx.map .u8 ++ [.sl 2 0 nW 4 fl])), some (.ro (w.map .u8)), some (.box [.p 1 0]), some (.box ((rndC false w n [s0, s1, s2, s3, s4, s5, s6, s7, s8, s9, s10, s11, s12, s13, s14, s15] 0 ++ rndC false w n [s0, s1, s2, s3, s4, s5, s6, s7, s8, s9, s10, s11, s12, s13, s14, s15] 1 ++ [s8, s9, s10, s11, s12, s13, s14, s15]).map .u8)), some (.box [.i (n : Int)])]) (.inl rfl) rfl rfl rfl ?_) rfl rfl ⟨⟨rfl, rfl⟩, by (repeat' (first | exact trivial | refine And.intro ?_ ?_)) <;> first | rfl | exact ren_app2 (by first | (simp; done) | fail) rfl rfl | exact ren_eq (by first | (simp; done) | fail) (by first | rfl | fail), rfl, ?_⟩
    ·
     refine sw_ok ttOk mixed (by kernel_rfl) ?_
     conv => whnf
     repeat (first | (refine Exists.intro _ (And.intro (sput_all rfl (by first | rfl | fail)) ?_); conv => whnf) | (refine And.intro (by first | omega | (simp; done) | fail) ?_; conv => whnf) | (refine And.intro ⟨rfl, Nat.le_of_ble_eq_true rfl⟩ ?_; conv => whnf) | (refine And.intro (by kernel_rfl) ?_; conv => whnf) | fail)
     refine sw_ok ttOk mixed (by kernel_rfl) ?_
     conv => whnf
     repeat (first | (refine Exists.intro _ (And.intro rfl ?_); conv => whnf) | fail)
     refine ok1_callF [1, 2] [false, false] false (h48) rfl rfl ⟨⟨rfl, by first | rfl | fail⟩, by (repeat' (first | exact trivial | refine And.intro ?_ ?_)) <;> first | exact ren_eq (by first | (simp; done) | fail) (by first | rfl | fail) | exact ren_app2 (by first | (simp; done) | fail) (by first | rfl | fail) (by first | rfl | fail), by first | rfl | fail, by first | rfl | fail, ?_⟩
     conv => whnf
     repeat (first | (refine Exists.intro _ (And.intro (sload_all rfl (by first | rfl | fail)) ?_); conv => whnf) | (refine gdT hlt ?_; conv => whnf) | (refine And.intro (by kernel_rfl) ?_; conv => whnf) | fail)
     refine ok1_callP [] (f88 _ _ _ _) rfl rfl ⟨⟨rfl, by first | rfl | fail⟩, trivial, by first | rfl | fail, ?_⟩
     conv => whnf
     repeat (first | (refine Exists.intro _ (And.intro (sload_all rfl (by first | rfl | fail)) ?_); conv => whnf) | (refine Exists.intro _ (And.intro (sput_all rfl (by first | rfl | fail)) ?_); conv => whnf) | (refine Exists.intro _ (And.intro (sload_end (by first | rfl | (simp [hl]; done) | fail)) ?_); conv => whnf) | (refine Exists.intro _ (And.intro (idx_i (m := 4 * n + 1) (by first | rfl | omega | fail)) ?_); conv => whnf) | (refine Exists.intro _ (And.intro (sload_col (i := 4 * (4 * n + 1)) (by first | rfl | omega | fail) (by first | omega | fail)) ?_); conv => whnf) | (refine Exists.intro _ (And.intro rfl ?_); conv => whnf) | (refine And.intro (by first | omega | fail) ?_; conv => whnf) | (refine And.intro ⟨rfl, Nat.le_of_ble_eq_true rfl⟩ ?_; conv => whnf) | fail)
     refine ok1_callP [] (f86 _ _ _ _ _ _ _ _) rfl rfl ⟨⟨rfl, by first | rfl | fail⟩, trivial, by first | rfl | fail, ?_⟩
     conv => whnf
     repeat (first | (refine Exists.intro _ (And.intro (idx_i (m := 1) (by first | rfl | fail)) ?_); conv => whnf) | (refine Exists.intro _ (And.intro rfl ?_); conv => whnf) | (refine And.intro (by first | omega | (simp; done) | fail) ?_; conv => whnf) | (refine And.intro (by kernel_rfl) ?_; conv => whnf) | fail)
     exact ⟨[0, 1, 2, 3, 4, 5], rfl, rfl, by (repeat' (first | exact trivial | refine And.intro ?_ ?_)) <;> first | rfl | exact ren_app2 (by first | (simp; done) | fail) rfl rfl | exact ren_eq (by first | (simp; done) | fail) (by first | rfl | fail), rfl⟩
    conv => whnf
    repeat (first | (refine brT rfl ?_; conv => whnf) | (refine brF rfl ?_; conv => whnf) | (refine Exists.intro _ (And.intro (sload_all rfl (by first | rfl | fail)) ?_); conv => whnf) | (refine Exists.intro _ (And.intro (sput_all rfl (by first | rfl | fail)) ?_); conv => whnf) | (refine Exists.intro _ (And.intro rfl ?_); conv => whnf) | (refine And.intro (by first | omega | (simp; done) | fail) ?_; conv => whnf) | (refine And.intro (Nat.le_of_ble_eq_true rfl) ?_; conv => whnf) | (refine And.intro (by kernel_rfl) ?_; conv => whnf) | fail)
    refine ok1_callF [0, 1] [false, false] true (hf84 _ _ _ _) rfl rfl ⟨⟨rfl, by first | rfl | fail⟩, by (repeat' (first | exact trivial | refine And.intro ?_ ?_)) <;> first | exact ren_eq (by first | (simp; done) | fail) (by first | rfl | fail) | exact ren_app2 (by first | (simp; done) | fail) (by first | rfl | fail) (by first | rfl | fail), by first | rfl | fail, by first | rfl | fail, ?_⟩
    conv => whnf
    repeat (fail)
    refine ok1_yield 10 [0, 1, 2, 6, 7] [false, false, false, false, true, true] (syield_of (ps := [49, 50]) (N := Try.f47.ntmps) (R0 := [(2, .p 3 0), (6, .p 4 0), (8, .p 5 0)]) (args0 := [.i 2, .agg ((movC [s0, s1, s2, s3, s4, s5, s6, s7, s8, s9, s10, s11, s12, s13, s14, s15] 2).map .u8)]) (ex := .normal) (H0t := [some (.ro (sbx.map .u8 ++ [.sl 2 0 nW 4 fl])), some (.ro (w.map .u8)), some (.box [.p 1 0]), some (.box ((rndC false w n [s0, s1, s2, s3, s4, s5, s6, s7, s8, s9, s10, s11, s12, s13, s14, s15] 0 ++ rndC false w n [s0, s1, s2, s3, s4, s5, s6, s7, s8, s9, s10, s11, s12, s13, s14, s15] 1 ++ [s8, s9, s10, s11, s12, s13, s14, s15]).map .u8)), some (.box [.i (n : Int)])]) (H1t := [some (.ro (sbx.map .u8 ++ [.sl 2 0 nW 4 fl])), some (.ro (w.map .u8)), some (.box [.p 1 0]), some (.box ((rndC false w n [s0, s1, s2, s3, s4, s5, s6, s7, s8, s9, s10, s11, s12, s13, s14, s15] 0 ++ rndC false w n [s0, s1, s2, s3, s4, s5, s6, s7, s8, s9, s10, s11, s12, s13, s14, s15] 1 ++ rndC false w n [s0, s1, s2, s3, s4, s5, s6, s7, s8, s9, s10, s11, s12, s13, s14, s15] 2 ++ [s12, s13, s14, s15]).map .u8)), some (.box [.i (n : Int)])]) (.inl rfl) rfl rfl rfl ?_) rfl rfl ⟨⟨rfl, rfl⟩, by (repeat' (first | exact trivial | refine And.intro ?_ ?_)) <;> first | rfl | exact ren_app2 (by first | (simp; done) | fail) rfl rfl | exact ren_eq (by first | (simp; done) | fail) (by first | rfl | fail), rfl, ?_⟩
    ·
     refine sw_ok ttOk mixed (by kernel_rfl) ?_
     conv => whnf
     repeat (first | (refine Exists.intro _ (And.intro (sput_all rfl (by first | rfl | fail)) ?_); conv => whnf) | (refine And.intro (by first | omega | (simp; done) | fail) ?_; conv => whnf) | (refine And.intro ⟨rfl, Nat.le_of_ble_eq_true rfl⟩ ?_; conv => whnf) | (refine And.intro (by kernel_rfl) ?_; conv => whnf) | fail)
     refine sw_ok ttOk mixed (by kernel_rfl) ?_
     conv => whnf
     repeat (first | (refine Exists.intro _ (And.intro rfl ?_); conv => whnf) | fail)
     refine ok1_callF [1, 2] [false, false] false (h48) rfl rfl ⟨⟨rfl, by first | rfl | fail⟩, by (repeat' (first | exact trivial | refine And.intro ?_ ?_)) <;> first | exact ren_eq (by first | (simp; done) | fail) (by first | rfl | fail) | exact ren_app2 (by first | (simp; done) | fail) (by first | rfl | fail) (by first | rfl | fail), by first | rfl | fail, by first | rfl | fail, ?_⟩
     conv => whnf
     repeat (first | (refine Exists.intro _ (And.intro (sload_all rfl (by first | rfl | fail)) ?_); conv => whnf) | (refine gdT hlt ?_; conv => whnf) | (refine And.intro (by kernel_rfl) ?_; conv => whnf) | fail)
     refine ok1_callP [] (f88 _ _ _ _) rfl rfl ⟨⟨rfl, by first | rfl | fail⟩, trivial, by first | rfl | fail, ?_⟩
     conv => whnf
     repeat (first | (refine Exists.intro _ (And.intro (sload_all rfl (by first | rfl | fail)) ?_); conv => whnf) | (refine Exists.intro _ (And.intro (sput_all rfl (by first | rfl | fail)) ?_); conv => whnf) | (refine Exists.intro _ (And.intro (sload_end (by first | rfl | (simp [hl]; done) | fail)) ?_); conv => whnf) | (refine Exists.intro _ (And.intro (idx_i (m := 4 * n + 2) (by first | rfl | omega | fail)) ?_); conv => whnf) | (refine Exists.intro _ (And.intro (sload_col (i := 4 * (4 * n + 2)) (by first | rfl | omega | fail) (by first | omega | fail)) ?_); conv => whnf) | (refine Exists.intro _ (And.intro rfl ?_); conv => whnf) | (refine And.intro (by first | omega | fail) ?_; conv => whnf) | (refine And.intro ⟨rfl, Nat.le_of_ble_eq_true rfl⟩ ?_; conv => whnf) | fail)
     refine ok1_callP [] (f86 _ _ _ _ _ _ _ _) rfl rfl ⟨⟨rfl, by first | rfl | fail⟩, trivial, by first | rfl | fail, ?_⟩
     conv => whnf
     repeat (first | (refine Exists.intro _ (And.intro (idx_i (m := 2) (by first | rfl | fail)) ?_); conv => whnf) | (refine Exists.intro _ (And.intro rfl ?_); conv => whnf) | (refine And.intro (by first | omega | (simp; done) | fail) ?_; conv => whnf) | (refine And.intro ⟨rfl, Nat.le_of_ble_eq_true rfl⟩ ?_; conv => whnf) | (refine And.intro (by kernel_rfl) ?_; conv => whnf) | fail)
     exact ⟨[0, 1, 2, 3, 4, 5], rfl, rfl, by (repeat' (first | exact trivial | refine And.intro ?_ ?_)) <;> first | rfl | exact ren_app2 (by first | (simp; done) | fail) rfl rfl | exact ren_eq (by first | (simp; done) | fail) (by first | rfl | fail), rfl⟩
    conv => whnf
    repeat (first | (refine brT rfl ?_; conv => whnf) | (refine brF rfl ?_; conv => whnf) | (refine Exists.intro _ (And.intro (sload_all rfl (by first | rfl | fail)) ?_); conv => whnf) | (refine Exists.intro _ (And.intro (sput_all rfl (by first | rfl | fail)) ?_); conv => whnf) | (refine Exists.intro _ (And.intro rfl ?_); conv => whnf) | (refine And.intro (by first | omega | (simp; done) | fail) ?_; conv => whnf) | (refine And.intro (Nat.le_of_ble_eq_true rfl) ?_; conv => whnf) | (refine And.intro (by kernel_rfl) ?_; conv => whnf) | fail)
    refine ok1_callF [0, 1] [false, false] true (hf84 _ _ _ _) rfl rfl ⟨⟨rfl, by first | rfl | fail⟩, by (repeat' (first | exact trivial | refine And.intro ?_ ?_)) <;> first | exact ren_eq (by first | (simp; done) | fail) (by first | rfl | fail) | exact ren_app2 (by first | (simp; done) | fail) (by first | rfl | fail) (by first | rfl | fail), by first | rfl | fail, by first | rfl | fail, ?_⟩
    conv => whnf
    repeat (fail)
    refine ok1_yield 10 [0, 1, 2, 6, 7] [false, false, false, false, true, true] (syield_of (ps := [49, 50]) (N := Try.f47.ntmps) (R0 := [(2, .p 3 0), (6, .p 4 0), (8, .p 5 0)]) (args0 := [.i 3, .agg ((movC [s0, s1, s2, s3, s4, s5, s6, s7, s8, s9, s10, s11, s12, s13, s14, s15] 3).map .u8)]) (ex := .normal) (H0t := [some (.ro (sbx.map .u8 ++ [.sl 2 0 nW 4 fl])), some (.ro (w.map .u8)), some (.box [.p 1 0]), some (.box ((rndC false w n [s0, s1, s2, s3, s4, s5, s6, s7, s8, s9, s10, s11, s12, s13, s14, s15] 0 ++ rndC false w n [s0, s1, s2, s3, s4, s5, s6, s7, s8, s9, s10, s11, s12, s13, s14, s15] 1 ++ rndC false w n [s0, s1, s2, s3, s4, s5, s6, s7, s8, s9, s10, s11, s12, s13, s14, s15] 2 ++ [s12, s13, s14, s15]).map .u8)), some (.box [.i (n : Int)])]) (H1t := [some (.ro (sbx.map .u8 ++ [.sl 2 0 nW 4 fl])), some (.ro (w.map .u8)), some (.box [.p 1 0]), some (.box ((rndC false w n [s0, s1, s2, s3, s4, s5, s6, s7, s8, s9, s10, s11, s12, s13, s14, s15] 0 ++ rndC false w n [s0, s1, s2, s3, s4, s5, s6, s7, s8, s9, s10, s11, s12, s13, s14, s15] 1 ++ rndC false w n [s0, s1, s2, s3, s4, s5, s6, s7, s8, s9, s10, s11, s12, s13, s14, s15] 2 ++ rndC false w n [s0, s1, s2, s3, s4, s5, s6, s7, s8, s9, s10, s11, s12, s13, s14, s15] 3 ++ []).map .u8)), some (.box [.i (n : Int)])]) (.inl rfl) rfl rfl rfl ?_) rfl rfl ⟨⟨rfl, rfl⟩, by (repeat' (first | exact trivial | refine And.intro ?_ ?_)) <;> first | rfl | exact ren_app2 (by first | (simp; done) | fail) rfl rfl | exact ren_eq (by first | (simp; done) | fail) (by first | rfl | fail), rfl, ?_⟩
    ·
     refine sw_ok ttOk mixed (by kernel_rfl) ?_
     conv => whnf
     repeat (first | (refine Exists.intro _ (And.intro (sput_all rfl (by first | rfl | fail)) ?_); conv => whnf) | (refine And.intro (by first | omega | (simp; done) | fail) ?_; conv => whnf) | (refine And.intro ⟨rfl, Nat.le_of_ble_eq_true rfl⟩ ?_; conv => whnf) | (refine And.intro (by kernel_rfl) ?_; conv => whnf) | fail)
     refine sw_ok ttOk mixed (by kernel_rfl) ?_
     conv => whnf
     repeat (first | (refine Exists.intro _ (And.intro rfl ?_); conv => whnf) | fail)
     refine ok1_callF [1, 2] [false, false] false (h48) rfl rfl ⟨⟨rfl, by first | rfl | fail⟩, by (repeat' (first | exact trivial | refine And.intro ?_ ?_)) <;> first | exact ren_eq (by first | (simp; done) | fail) (by first | rfl | fail) | exact ren_app2 (by first | (simp; done) | fail) (by first | rfl | fail) (by first | rfl | fail), by first | rfl | fail, by first | rfl | fail, ?_⟩
     conv => whnf
     repeat (first | (refine Exists.intro _ (And.intro (sload_all rfl (by first | rfl | fail)) ?_); conv => whnf) | (refine gdT hlt ?_; conv => whnf) | (refine And.intro (by kernel_rfl) ?_; conv => whnf) | fail)
     refine ok1_callP [] (f88 _ _ _ _) rfl rfl ⟨⟨rfl, by first | rfl | fail⟩, trivial, by first | rfl | fail, ?_⟩
     conv => whnf
     repeat (first | (refine Exists.intro _ (And.intro (sload_all rfl (by first | rfl | fail)) ?_); conv => whnf) | (refine Exists.intro _ (And.intro (sput_all rfl (by first | rfl | fail)) ?_); conv => whnf) | (refine Exists.intro _ (And.intro (sload_end (by first | rfl | (simp [hl]; done) | fail)) ?_); conv => whnf) | (refine Exists.intro _ (And.intro (idx_i (m := 4 * n + 3) (by first | rfl | omega | fail)) ?_); conv => whnf) | (refine Exists.intro _ (And.intro (sload_col (i := 4 * (4 * n + 3)) (by first | rfl | omega | fail) (by first | omega | fail)) ?_); conv => whnf) | (refine Exists.intro _ (And.intro rfl ?_); conv => whnf) | (refine And.intro (by first | omega | fail) ?_; conv => whnf) | (refine And.intro ⟨rfl, Nat.le_of_ble_eq_true rfl⟩ ?_; conv => whnf) | fail)
     refine ok1_callP [] (f86 _ _ _ _ _ _ _ _) rfl rfl ⟨⟨rfl, by first | rfl | fail⟩, trivial, by first | rfl | fail, ?_⟩
     conv => whnf
     repeat (first | (refine Exists.intro _ (And.intro (idx_i (m := 3) (by first | rfl | fail)) ?_); conv => whnf) | (refine Exists.intro _ (And.intro rfl ?_); conv => whnf) | (refine And.intro (by first | omega | (simp; done) | fail) ?_; conv => whnf) | (refine And.intro ⟨rfl, Nat.le_of_ble_eq_true rfl⟩ ?_; conv => whnf) | (refine And.intro (by kernel_rfl) ?_; conv => whnf) | fail)
     exact ⟨[0, 1, 2, 3, 4, 5], rfl, rfl, by (repeat' (first | exact trivial | refine And.intro ?_ ?_)) <;> first | rfl | exact ren_app2 (by first | (simp; done) | fail) rfl rfl | exact ren_eq (by first | (simp; done) | fail) (by first | rfl | fail), rfl⟩
    conv => whnf
    repeat (first | (refine brF rfl ?_; conv => whnf) | (refine Exists.intro _ (And.intro rfl ?_); conv => whnf) | (refine And.intro (by first | omega | (simp; done) | fail) ?_; conv => whnf) | fail)
    have hnext : (sealSt w R [b0, b1, b2, b3, b4, b5, b6, b7, b8, b9, b10, b11, b12, b13, b14, b15] (n + 1 - 1)).map SV.u8 = (rndC false w n [s0, s1, s2, s3, s4, s5, s6, s7, s8, s9, s10, s11, s12, s13, s14, s15] 0 ++ rndC false w n [s0, s1, s2, s3, s4, s5, s6, s7, s8, s9, s10, s11, s12, s13, s14, s15] 1 ++ rndC false w n [s0, s1, s2, s3, s4, s5, s6, s7, s8, s9, s10, s11, s12, s13, s14, s15] 2 ++ rndC false w n [s0, s1, s2, s3, s4, s5, s6, s7, s8, s9, s10, s11, s12, s13, s14, s15] 3 ++ []).map SV.u8 := by
     obtain ⟨m, rfl⟩ : ∃ m, n = m + 1 := ⟨n - 1, by omega⟩
     show (rnd (decide (m + 1 = R)) w (m + 1) (sealSt w R [b0, b1, b2, b3, b4, b5, b6, b7, b8, b9, b10, b11, b12, b13, b14, b15] m)).map SV.u8 = _
     have e : sealSt w R [b0, b1, b2, b3, b4, b5, b6, b7, b8, b9, b10, b11, b12, b13, b14, b15] m = [s0, s1, s2, s3, s4, s5, s6, s7, s8, s9, s10, s11, s12, s13, s14, s15] := hst.symm
     rw [e, show decide (m + 1 = R) = false from by simp; omega]
     simp [rnd]
    have hnw := w64_s n (by omega)
    refine ⟨⟨n + 1, by omega⟩, by simp only; omega, ?_⟩
    refine Weak.sel [0, 1, 2, 3, 4, 5, 6, 15] rfl rfl ?_ ?_ rfl rfl
    ·
     (repeat' (first | exact trivial | refine And.intro ?_ ?_ | fail)) <;> first | rfl | fail
    ·
     (repeat' (first | exact trivial | refine And.intro ?_ ?_ | (refine wk_cons ?_ ?_))) <;> first | rfl | exact wk_i (by first | rfl | exact hnw.symm | fail) | exact ren_eq (by first | (simp; done) | fail) (by first | rfl | exact hnext | fail) | exact ren_app2 (by first | (simp; done) | fail) (by first | rfl | fail) rfl | fail
   ·
    have hlt : decide ((n : Int) < (R : Int)) = false := by simp; omega
    refine loop_rounds ttOk mixed (by kernel_rfl) 5 ?_
    conv => whnf
    repeat (first | (refine brT rfl ?_; conv => whnf) | (refine Exists.intro _ (And.intro (sload_all rfl (by first | rfl | fail)) ?_); conv => whnf) | (refine Exists.intro _ (And.intro (sput_all rfl (by first | rfl | fail)) ?_); conv => whnf) | (refine Exists.intro _ (And.intro rfl ?_); conv => whnf) | (refine And.intro (by first | omega | (simp; done) | fail) ?_; conv => whnf) | (refine And.intro (Nat.le_of_ble_eq_true rfl) ?_; conv => whnf) | (refine And.intro (by kernel_rfl) ?_; conv => whnf) | fail)
    refine ok1_callF [0, 1] [false, false] true (hf84 _ _ _ _) rfl rfl ⟨⟨rfl, by first | rfl | fail⟩, by (repeat' (first | exact trivial | refine And.intro ?_ ?_)) <;> first | exact ren_eq (by first | (simp; done) | fail) (by first | rfl | fail) | exact ren_app2 (by first | (simp; done) | fail) (by first | rfl | fail) (by first | rfl | fail), by first | rfl | fail, by first | rfl | fail, ?_⟩
    conv => whnf
    repeat (fail)
    refine ok1_yield 10 [0, 1, 2, 6, 7] [false, false, false, false, true, true] (syield_of (ps := [49, 50]) (N := Try.f47.ntmps) (R0 := [(2, .p 3 0), (6, .p 4 0), (8, .p 5 0)]) (args0 := [.i 0, .agg ((movC [s0, s1, s2, s3, s4, s5, s6, s7, s8, s9, s10, s11, s12, s13, s14, s15] 0).map .u8)]) (ex := .normal) (H0t := [some (.ro (sbx.map .u8 ++ [.sl 2 0 nW 4 fl])), some (.ro (w.map .u8)), some (.box [.p 1 0]), some (.box (([s0, s1, s2, s3, s4, s5, s6, s7, s8, s9, s10, s11, s12, s13, s14, s15]).map .u8)), some (.box [.i (n : Int)])]) (H1t := [some (.ro (sbx.map .u8 ++ [.sl 2 0 nW 4 fl])), some (.ro (w.map .u8)), some (.box [.p 1 0]), some (.box ((rndC true w n [s0, s1, s2, s3, s4, s5, s6, s7, s8, s9, s10, s11, s12, s13, s14, s15] 0 ++ [s4, s5, s6, s7, s8, s9, s10, s11, s12, s13, s14, s15]).map .u8)), some (.box [.i (n : Int)])]) (.inl rfl) rfl rfl rfl ?_) rfl rfl ⟨⟨rfl, rfl⟩, by (repeat' (first | exact trivial | refine And.intro ?_ ?_)) <;> first | rfl | exact ren_app2 (by first | (simp; done) | fail) rfl rfl | exact ren_eq (by first | (simp; done) | fail) (by first | rfl | fail), rfl, ?_⟩
    ·
     refine sw_ok ttOk mixed (by kernel_rfl) ?_
     conv => whnf
     repeat (first | (refine Exists.intro _ (And.intro (sput_all rfl (by first | rfl | fail)) ?_); conv => whnf) | (refine And.intro (by first | omega | (simp; done) | fail) ?_; conv => whnf) | (refine And.intro ⟨rfl, Nat.le_of_ble_eq_true rfl⟩ ?_; conv => whnf) | (refine And.intro (by kernel_rfl) ?_; conv => whnf) | fail)
     refine sw_ok ttOk mixed (by kernel_rfl) ?_
     conv => whnf
     repeat (first | (refine Exists.intro _ (And.intro rfl ?_); conv => whnf) | fail)
     refine ok1_callF [1, 2] [false, false] false (h48) rfl rfl ⟨⟨rfl, by first | rfl | fail⟩, by (repeat' (first | exact trivial | refine And.intro ?_ ?_)) <;> first | exact ren_eq (by first | (simp; done) | fail) (by first | rfl | fail) | exact ren_app2 (by first | (simp; done) | fail) (by first | rfl | fail) (by first | rfl | fail), by first | rfl | fail, by first | rfl | fail, ?_⟩
     conv => whnf
     repeat (first | (refine Exists.intro _ (And.intro (sload_all rfl (by first | rfl | fail)) ?_); conv => whnf) | (refine Exists.intro _ (And.intro (sload_end (by first | rfl | (simp [hl]; done) | fail)) ?_); conv => whnf) | (refine gdF hlt ?_; conv => whnf) | (refine Exists.intro _ (And.intro (idx_i (m := 4 * n + 0) (by first | rfl | omega | fail)) ?_); conv => whnf) | (refine Exists.intro _ (And.intro (sload_col (i := 4 * (4 * n + 0)) (by first | rfl | omega | fail) (by first | omega | fail)) ?_); conv => whnf) | (refine Exists.intro _ (And.intro rfl ?_); conv => whnf) | (refine And.intro (by first | omega | fail) ?_; conv => whnf) | (refine And.intro (by kernel_rfl) ?_; conv => whnf) | fail)
     refine ok1_callP [] (f86 _ _ _ _ _ _ _ _) rfl rfl ⟨⟨rfl, by first | rfl | fail⟩, trivial, by first | rfl | fail, ?_⟩
     conv => whnf
     repeat (first | (refine Exists.intro _ (And.intro (idx_i (m := 0) (by first | rfl | fail)) ?_); conv => whnf) | (refine Exists.intro _ (And.intro rfl ?_); conv => whnf) | (refine And.intro (by first | omega | (simp; done) | fail) ?_; conv => whnf) | (refine And.intro (by kernel_rfl) ?_; conv => whnf) | fail)
     exact ⟨[0, 1, 2, 3, 4, 5], rfl, rfl, by (repeat' (first | exact trivial | refine And.intro ?_ ?_)) <;> first | rfl | exact ren_app2 (by first | (simp; done) | fail) rfl rfl | exact ren_eq (by first | (simp; done) | fail) (by first | rfl | fail), rfl⟩
    conv => whnf
    repeat (first | (refine brT rfl ?_; conv => whnf) | (refine brF rfl ?_; conv => whnf) | (refine Exists.intro _ (And.intro (sload_all rfl (by first | rfl | fail)) ?_); conv => whnf) | (refine Exists.intro _ (And.intro (sput_all rfl (by first | rfl | fail)) ?_); conv => whnf) | (refine Exists.intro _ (And.intro rfl ?_); conv => whnf) | (refine And.intro (by first | omega | (simp; done) | fail) ?_; conv => whnf) | (refine And.intro (Nat.le_of_ble_eq_true rfl) ?_; conv => whnf) | (refine And.intro (by kernel_rfl) ?_; conv => whnf) | fail)
    refine ok1_callF [0, 1] [false, false] true (hf84 _ _ _ _) rfl rfl ⟨⟨rfl, by first | rfl | fail⟩, by (repeat' (first | exact trivial | refine And.intro ?_ ?_)) <;> first | exact ren_eq (by first | (simp; done) | fail) (by first | rfl | fail) | exact ren_app2 (by first | (simp; done) | fail) (by first | rfl | fail) (by first | rfl | fail), by first | rfl | fail, by first | rfl | fail, ?_⟩
    conv => whnf
    repeat (fail)
    refine ok1_yield 10 [0, 1, 2, 6, 7] [false, false, false, false, true, true] (syield_of (ps := [49, 50]) (N := Try.f47.ntmps) (R0 := [(2, .p 3 0), (6, .p 4 0), (8, .p 5 0)]) (args0 := [.i 1, .agg ((movC [s0, s1, s2, s3, s4, s5, s6, s7, s8, s9, s10, s11, s12, s13, s14, s15] 1).map .u8)]) (ex := .normal) (H0t := [some (.ro (sbx.map .u8 ++ [.sl 2 0 nW 4 fl])), some (.ro (w.map .u8)), some (.box [.p 1 0]), some (.box ((rndC true w n [s0, s1, s2, s3, s4, s5, s6, s7, s8, s9, s10, s11, s12, s13, s14, s15] 0 ++ [s4, s5, s6, s7, s8, s9, s10, s11, s12, s13, s14, s15]).map .u8)), some (.box [.i (n : Int)])]) (H1t := [some (.ro (sbx.map .u8 ++ [.sl 2 0 nW 4 fl])), some (.ro (w.map .u8)), some (.box [.p 1 0]), some (.box ((rndC true w n [s0, s1, s2, s3, s4, s5, s6, s7, s8, s9, s10, s11, s12, s13, s14, s15] 0 ++ rndC true w n [s0, s1, s2, s3, s4, s5, s6, s7, s8, s9, s10, s11, s12, s13, s14, s15] 1 ++ [s8, s9, s10, s11, s12, s13, s14, s15]).map .u8)), some (.box [.i (n : Int)])]) (.inl rfl) rfl rfl rfl ?_) rfl rfl ⟨⟨rfl, rfl⟩, by (repeat' (first | exact trivial | refine And.intro ?_ ?_)) <;> first | rfl | exact ren_app2 (by first | (simp; done) | fail) rfl rfl | exact ren_eq (by first | (simp; done) | fail) (by first | rfl | fail), rfl, ?_⟩
    ·
     refine sw_ok ttOk mixed (by kernel_rfl) ?_
     conv => whnf
     repeat (first | (refine Exists.intro _ (And.intro (sput_all rfl (by first | rfl | fail)) ?_); conv => whnf) | (refine And.intro (by first | omega | (simp; done) | fail) ?_; conv => whnf) | (refine And.intro ⟨rfl, Nat.le_of_ble_eq_true rfl⟩ ?_; conv => whnf) | (refine And.intro (by kernel_rfl) ?_; conv => whnf) | fail)
     refine sw_ok ttOk mixed (by kernel_rfl) ?_
     conv => whnf
     repeat (first | (refine Exists.intro _ (And.intro rfl ?_); conv => whnf) | fail)
     refine ok1_callF [1, 2] [false, false] false (h48) rfl rfl ⟨⟨rfl, by first | rfl | fail⟩, by (repeat' (first | exact trivial | refine And.intro ?_ ?_)) <;> first | exact ren_eq (by first | (simp; done) | fail) (by first | rfl | fail) | exact ren_app2 (by first | (simp; done) | fail) (by first | rfl | fail) (by first | rfl | fail), by first | rfl | fail, by first | rfl | fail, ?_⟩
     conv => whnf
     repeat (first | (refine Exists.intro _ (And.intro (sload_all rfl (by first | rfl | fail)) ?_); conv => whnf) | (refine Exists.intro _ (And.intro (sload_end (by first | rfl | (simp [hl]; done) | fail)) ?_); conv => whnf) | (refine gdF hlt ?_; conv => whnf) | (refine Exists.intro _ (And.intro (idx_i (m := 4 * n + 1) (by first | rfl | omega | fail)) ?_); conv => whnf) | (refine Exists.intro _ (And.intro (sload_col (i := 4 * (4 * n + 1)) (by first | rfl | omega | fail) (by first | omega | fail)) ?_); conv => whnf) | (refine Exists.intro _ (And.intro rfl ?_); conv => whnf) | (refine And.intro (by first | omega | fail) ?_; conv => whnf) | (refine And.intro (by kernel_rfl) ?_; conv => whnf) | fail)
     refine ok1_callP [] (f86 _ _ _ _ _ _ _ _) rfl rfl ⟨⟨rfl, by first | rfl | fail⟩, trivial, by first | rfl | fail, ?_⟩
     conv => whnf
     repeat (first | (refine Exists.intro _ (And.intro (idx_i (m := 1) (by first | rfl | fail)) ?_); conv => whnf) | (refine Exists.intro _ (And.intro rfl ?_); conv => whnf) | (refine And.intro (by first | omega | (simp; done) | fail) ?_; conv => whnf) | (refine And.intro (by kernel_rfl) ?_; conv => whnf) | fail)
     exact ⟨[0, 1, 2, 3, 4, 5], rfl, rfl, by (repeat' (first | exact trivial | refine And.intro ?_ ?_)) <;> first | rfl | exact ren_app2 (by first | (simp; done) | fail) rfl rfl | exact ren_eq (by first | (simp; done) | fail) (by first | rfl | fail), rfl⟩
    conv => whnf
    repeat (first | (refine brT rfl ?_; conv => whnf) | (refine brF rfl ?_; conv => whnf) | (refine Exists.intro _ (And.intro (sload_all rfl (by first | rfl | fail)) ?_); conv => whnf) | (refine Exists.intro _ (And.intro (sput_all rfl (by first | rfl | fail)) ?_); conv => whnf) | (refine Exists.intro _ (And.intro rfl ?_); conv => whnf) | (refine And.intro (by first | omega | (simp; done) | fail) ?_; conv => whnf) | (refine And.intro (Nat.le_of_ble_eq_true rfl) ?_; conv => whnf) | (refine And.intro (by kernel_rfl) ?_; conv => whnf) | fail)
    refine ok1_callF [0, 1] [false, false] true (hf84 _ _ _ _) rfl rfl ⟨⟨rfl, by first | rfl | fail⟩, by (repeat' (first | exact trivial | refine And.intro ?_ ?_)) <;> first | exact ren_eq (by first | (simp; done) | fail) (by first | rfl | fail) | exact ren_app2 (by first | (simp; done) | fail) (by first | rfl | fail) (by first | rfl | fail), by first | rfl | fail, by first | rfl | fail, ?_⟩
    conv => whnf
    repeat (fail)
    refine ok1_yield 10 [0, 1, 2, 6, 7] [false, false, false, false, true, true] (syield_of (ps := [49, 50]) (N := Try.f47.ntmps) (R0 := [(2, .p 3 0), (6, .p 4 0), (8, .p 5 0)]) (args0 := [.i 2, .agg ((movC [s0, s1, s2, s3, s4, s5, s6, s7, s8, s9, s10, s11, s12, s13, s14, s15] 2).map .u8)]) (ex := .normal) (H0t := [some (.ro (sbx.map .u8 ++ [.sl 2 0 nW 4 fl])), some (.ro (w.map .u8)), some (.box [.p 1 0]), some (.box ((rndC true w n [s0, s1, s2, s3, s4, s5, s6, s7, s8, s9, s10, s11, s12, s13, s14, s15] 0 ++ rndC true w n [s0, s1, s2, s3, s4, s5, s6, s7, s8, s9, s10, s11, s12, s13, s14, s15] 1 ++ [s8, s9, s10, s11, s12, s13, s14, s15]).map .u8)), some (.box [.i (n : Int)])]) (H1t := [some (.ro (sbx.map .u8 ++ [.sl 2 0 nW 4 fl])), some (.ro (w.map .u8)), some (.box [.p 1 0]), some (.box ((rndC true w n [s0, s1, s2, s3, s4, s5, s6, s7, s8, s9, s10, s11, s12, s13, s14, s15] 0 ++ rndC true w n [s0, s1, s2, s3, s4, s5, s6, s7, s8, s9, s10, s11, s12, s13, s14, s15] 1 ++ rndC true w n [s0, s1, s2, s3, s4, s5, s6, s7, s8, s9, s10, s11, s12, s13, s14, s15] 2 ++ [s12, s13, s14, s15]).map .u8)), some (.box [.i (n : Int)])]) (.inl rfl) rfl rfl rfl ?_) rfl rfl ⟨⟨rfl, rfl⟩, by (repeat' (first | exact trivial | refine And.intro ?_ ?_)) <;> first | rfl | exact ren_app2 (by first | (simp; done) | fail) rfl rfl | exact ren_eq (by first | (simp; done) | fail) (by first | rfl | fail), rfl, ?_⟩
    ·
     refine sw_ok ttOk mixed (by kernel_rfl) ?_
     conv => whnf
     repeat (first | (refine Exists.intro _ (And.intro (sput_all rfl (by first | rfl | fail)) ?_); conv => whnf) | (refine And.intro (by first | omega | (simp; done) | fail) ?_; conv => whnf) | (refine And.intro ⟨rfl, Nat.le_of_ble_eq_true rfl⟩ ?_; conv => whnf) | (refine And.intro (by kernel_rfl) ?_; conv => whnf) | fail)
     refine sw_ok ttOk mixed (by kernel_rfl) ?_
     conv => whnf
     repeat (first | (refine Exists.intro _ (And.intro rfl ?_); conv => whnf) | fail)
     refine ok1_callF [1, 2] [false, false] false (h48) rfl rfl ⟨⟨rfl, by first | rfl | fail⟩, by (repeat' (first | exact trivial | refine And.intro ?_ ?_)) <;> first | exact ren_eq (by first | (simp; done) | fail) (by first | rfl | fail) | exact ren_app2 (by first | (simp; done) | fail) (by first | rfl | fail) (by first | rfl | fail), by first | rfl | fail, by first | rfl | fail, ?_⟩
     conv => whnf
     repeat (first | (refine Exists.intro _ (And.intro (sload_all rfl (by first | rfl | fail)) ?_); conv => whnf) | (refine Exists.intro _ (And.intro (sload_end (by first | rfl | (simp [hl]; done) | fail)) ?_); conv => whnf) | (refine gdF hlt ?_; conv => whnf) | (refine Exists.intro _ (And.intro (idx_i (m := 4 * n + 2) (by first | rfl | omega | fail)) ?_); conv => whnf) | (refine Exists.intro _ (And.intro (sload_col (i := 4 * (4 * n + 2)) (by first | rfl | omega | fail) (by first | omega | fail)) ?_); conv => whnf) | (refine Exists.intro _ (And.intro rfl ?_); conv => whnf) | (refine And.intro (by first | omega | fail) ?_; conv => whnf) | (refine And.intro (by kernel_rfl) ?_; conv => whnf) | fail)
     refine ok1_callP [] (f86 _ _ _ _ _ _ _ _) rfl rfl ⟨⟨rfl, by first | rfl | fail⟩, trivial, by first | rfl | fail, ?_⟩
     conv => whnf
     repeat (first | (refine Exists.intro _ (And.intro (idx_i (m := 2) (by first | rfl | fail)) ?_); conv => whnf) | (refine Exists.intro _ (And.intro rfl ?_); conv => whnf) | (refine And.intro (by first | omega | (simp; done) | fail) ?_; conv => whnf) | (refine And.intro ⟨rfl, Nat.le_of_ble_eq_true rfl⟩ ?_; conv => whnf) | (refine And.intro (by kernel_rfl) ?_; conv => whnf) | fail)
     exact ⟨[0, 1, 2, 3, 4, 5], rfl, rfl, by (repeat' (first | exact trivial | refine And.intro ?_ ?_)) <;> first | rfl | exact ren_app2 (by first | (simp; done) | fail) rfl rfl | exact ren_eq (by first | (simp; done) | fail) (by first | rfl | fail), rfl⟩
    conv => whnf
    repeat (first | (refine brT rfl ?_; conv => whnf) | (refine brF rfl ?_; conv => whnf) | (refine Exists.intro _ (And.intro (sload_all rfl (by first | rfl | fail)) ?_); conv => whnf) | (refine Exists.intro _ (And.intro (sput_all rfl (by first | rfl | fail)) ?_); conv => whnf) | (refine Exists.intro _ (And.intro rfl ?_); conv => whnf) | (refine And.intro (by first | omega | (simp; done) | fail) ?_; conv => whnf) | (refine And.intro (Nat.le_of_ble_eq_true rfl) ?_; conv => whnf) | (refine And.intro (by kernel_rfl) ?_; conv => whnf) | fail)
    refine ok1_callF [0, 1] [false, false] true (hf84 _ _ _ _) rfl rfl ⟨⟨rfl, by first | rfl | fail⟩, by (repeat' (first | exact trivial | refine And.intro ?_ ?_)) <;> first | exact ren_eq (by first | (simp; done) | fail) (by first | rfl | fail) | exact ren_app2 (by first | (simp; done) | fail) (by first | rfl | fail) (by first | rfl | fail), by first | rfl | fail, by first | rfl | fail, ?_⟩
    conv => whnf
    repeat (fail)
    refine ok1_yield 10 [0, 1, 2, 6, 7] [false, false, false, false, true, true] (syield_of (ps := [49, 50]) (N := Try.f47.ntmps) (R0 := [(2, .p 3 0), (6, .p 4 0), (8, .p 5 0)]) (args0 := [.i 3, .agg ((movC [s0, s1, s2, s3, s4, s5, s6, s7, s8, s9, s10, s11, s12, s13, s14, s15] 3).map .u8)]) (ex := .normal) (H0t := [some (.ro (sbx.map .u8 ++ [.sl 2 0 nW 4 fl])), some (.ro (w.map .u8)), some (.box [.p 1 0]), some (.box ((rndC true w n [s0, s1, s2, s3, s4, s5, s6, s7, s8, s9, s10, s11, s12, s13, s14, s15] 0 ++ rndC true w n [s0, s1, s2, s3, s4, s5, s6, s7, s8, s9, s10, s11, s12, s13, s14, s15] 1 ++ rndC true w n [s0, s1, s2, s3, s4, s5, s6, s7, s8, s9, s10, s11, s12, s13, s14, s15] 2 ++ [s12, s13, s14, s15]).map .u8)), some (.box [.i (n : Int)])]) (H1t := [some (.ro (sbx.map .u8 ++ [.sl 2 0 nW 4 fl])), some (.ro (w.map .u8)), some (.box [.p 1 0]), some (.box ((rndC true w n [s0, s1, s2, s3, s4, s5, s6, s7, s8, s9, s10, s11, s12, s13, s14, s15] 0 ++ rndC true w n [s0, s1, s2, s3, s4, s5, s6, s7, s8, s9, s10, s11, s12, s13, s14, s15] 1 ++ rndC true w n [s0, s1, s2, s3, s4, s5, s6, s7, s8, s9, s10, s11, s12, s13, s14, s15] 2 ++ rndC true w n [s0, s1, s2, s3, s4, s5, s6, s7, s8, s9, s10, s11, s12, s13, s14, s15] 3 ++ []).map .u8)), some (.box [.i (n : Int)])]) (.inl rfl) rfl rfl rfl ?_) rfl rfl ⟨⟨rfl, rfl⟩, by (repeat' (first | exact trivial | refine And.intro ?_ ?_)) <;> first | rfl | exact ren_app2 (by first | (simp; done) | fail) rfl rfl | exact ren_eq (by first | (simp; done) | fail) (by first | rfl | fail), rfl, ?_⟩
    ·
     refine sw_ok ttOk mixed (by kernel_rfl) ?_
     conv => whnf
     repeat (first | (refine Exists.intro _ (And.intro (sput_all rfl (by first | rfl | fail)) ?_); conv => whnf) | (refine And.intro (by first | omega | (simp; done) | fail) ?_; conv => whnf) | (refine And.intro ⟨rfl, Nat.le_of_ble_eq_true rfl⟩ ?_; conv => whnf) | (refine And.intro (by kernel_rfl) ?_; conv => whnf) | fail)
     refine sw_ok ttOk mixed (by kernel_rfl) ?_
     conv => whnf
     repeat (first | (refine Exists.intro _ (And.intro rfl ?_); conv => whnf) | fail)
     refine ok1_callF [1, 2] [false, false] false (h48) rfl rfl ⟨⟨rfl, by first | rfl | fail⟩, by (repeat' (first | exact trivial | refine And.intro ?_ ?_)) <;> first | exact ren_eq (by first | (simp; done) | fail) (by first | rfl | fail) | exact ren_app2 (by first | (simp; done) | fail) (by first | rfl | fail) (by first | rfl | fail), by first | rfl | fail, by first | rfl | fail, ?_⟩
     conv => whnf
     repeat (first | (refine Exists.intro _ (And.intro (sload_all rfl (by first | rfl | fail)) ?_); conv => whnf) | (refine Exists.intro _ (And.intro (sload_end (by first | rfl | (simp [hl]; done) | fail)) ?_); conv => whnf) | (refine gdF hlt ?_; conv => whnf) | (refine Exists.intro _ (And.intro (idx_i (m := 4 * n + 3) (by first | rfl | omega | fail)) ?_); conv => whnf) | (refine Exists.intro _ (And.intro (sload_col (i := 4 * (4 * n + 3)) (by first | rfl | omega | fail) (by first | omega | fail)) ?_); conv => whnf) | (refine Exists.intro _ (And.intro rfl ?_); conv => whnf) | (refine And.intro (by first | omega | fail) ?_; conv => whnf) | (refine And.intro (by kernel_rfl) ?_; conv => whnf) | fail)
     refine ok1_callP [] (f86 _ _ _ _ _ _ _ _) rfl rfl ⟨⟨rfl, by first | rfl | fail⟩, trivial, by first | rfl | fail, ?_⟩
     conv => whnf
     repeat (first | (refine Exists.intro _ (And.intro (idx_i (m := 3) (by first | rfl | fail)) ?_); conv => whnf) | (refine Exists.intro _ (And.intro rfl ?_); conv => whnf) | (refine And.intro (by first | omega | (simp; done) | fail) ?_; conv => whnf) | (refine And.intro ⟨rfl, Nat.le_of_ble_eq_true rfl⟩ ?_; conv => whnf) | (refine And.intro (by kernel_rfl) ?_; conv => whnf) | fail)
     exact ⟨[0, 1, 2, 3, 4, 5], rfl, rfl, by (repeat' (first | exact trivial | refine And.intro ?_ ?_)) <;> first | rfl | exact ren_app2 (by first | (simp; done) | fail) rfl rfl | exact ren_eq (by first | (simp; done) | fail) (by first | rfl | fail), rfl⟩
    conv => whnf
    repeat (first | (refine brF rfl ?_; conv => whnf) | (refine Exists.intro _ (And.intro rfl ?_); conv => whnf) | (refine And.intro (by first | omega | (simp; done) | fail) ?_; conv => whnf) | fail)
    have hnext : (sealSt w R [b0, b1, b2, b3, b4, b5, b6, b7, b8, b9, b10, b11, b12, b13, b14, b15] (n + 1 - 1)).map SV.u8 = (rndC true w n [s0, s1, s2, s3, s4, s5, s6, s7, s8, s9, s10, s11, s12, s13, s14, s15] 0 ++ rndC true w n [s0, s1, s2, s3, s4, s5, s6, s7, s8, s9, s10, s11, s12, s13, s14, s15] 1 ++ rndC true w n [s0, s1, s2, s3, s4, s5, s6, s7, s8, s9, s10, s11, s12, s13, s14, s15] 2 ++ rndC true w n [s0, s1, s2, s3, s4, s5, s6, s7, s8, s9, s10, s11, s12, s13, s14, s15] 3 ++ []).map SV.u8 := by
     obtain ⟨m, rfl⟩ : ∃ m, n = m + 1 := ⟨n - 1, by omega⟩
     show (rnd (decide (m + 1 = R)) w (m + 1) (sealSt w R [b0, b1, b2, b3, b4, b5, b6, b7, b8, b9, b10, b11, b12, b13, b14, b15] m)).map SV.u8 = _
     have e : sealSt w R [b0, b1, b2, b3, b4, b5, b6, b7, b8, b9, b10, b11, b12, b13, b14, b15] m = [s0, s1, s2, s3, s4, s5, s6, s7, s8, s9, s10, s11, s12, s13, s14, s15] := hst.symm
     rw [e, show decide (m + 1 = R) = true from by simp; omega]
     simp [rnd]
    have hnw := w64_s n (by omega)
    refine ⟨⟨n + 1, by omega⟩, by simp only; omega, ?_⟩
    refine Weak.sel [0, 1, 2, 3, 4, 5, 6, 15] rfl rfl ?_ ?_ rfl rfl
    ·
     (repeat' (first | exact trivial | refine And.intro ?_ ?_ | fail)) <;> first | rfl | fail
    ·
     (repeat' (first | exact trivial | refine And.intro ?_ ?_ | (refine wk_cons ?_ ?_))) <;> first | rfl | exact wk_i (by first | rfl | exact hnw.symm | fail) | exact ren_eq (by first | (simp; done) | fail) (by first | rfl | exact hnext | fail) | exact ren_app2 (by first | (simp; done) | fail) (by first | rfl | fail) rfl | fail
  ·
   have hc' : n = R + 1 := by
    have h2 : decide ((n : Int) ≤ ((nW / 4 : Nat) : Int) - 1) = false := hc
    rw [hq] at h2; simp at h2; omega
   subst hc'
   conv => whnf
   repeat (first | (refine Exists.intro _ (And.intro (sload_all rfl (by first | rfl | fail)) ?_); conv => whnf) | fail)
   have hres : sealSt w R [b0, b1, b2, b3, b4, b5, b6, b7, b8, b9, b10, b11, b12, b13, b14, b15] R = [s0, s1, s2, s3, s4, s5, s6, s7, s8, s9, s10, s11, s12, s13, s14, s15] := hst.symm
   rw [hres]
   refine loop_rounds ttOk mixed (by kernel_rfl) 5 ?_
   conv => whnf
   repeat (first | (refine brT rfl ?_; conv => whnf) | (refine brF rfl ?_; conv => whnf) | (refine Exists.intro _ (And.intro (sload_all rfl (by first | rfl | fail)) ?_); conv => whnf) | (refine Exists.intro _ (And.intro (sput_all rfl (by first | rfl | fail)) ?_); conv => whnf) | (refine Exists.intro _ (And.intro (idx_i (m := 0) (by first | rfl | fail)) ?_); conv => whnf) | (refine Exists.intro _ (And.intro (evb_i (m := 0) rfl (by first | rfl | fail)) ?_); conv => whnf) | (refine Exists.intro _ (And.intro (idx_i (m := 1) (by first | rfl | fail)) ?_); conv => whnf) | (refine Exists.intro _ (And.intro (idx_i (m := 2) (by first | rfl | fail)) ?_); conv => whnf) | (refine Exists.intro _ (And.intro (idx_i (m := 3) (by first | rfl | fail)) ?_); conv => whnf) | (refine Exists.intro _ (And.intro (evb_i (m := 4) rfl (by first | rfl | fail)) ?_); conv => whnf) | (refine Exists.intro _ (And.intro (evb_i (m := 8) rfl (by first | rfl | fail)) ?_); conv => whnf) | (refine Exists.intro _ (And.intro (evb_i (m := 12) rfl (by first | rfl | fail)) ?_); conv => whnf) | (refine Exists.intro _ (And.intro rfl ?_); conv => whnf) | (refine And.intro (by first | omega | (simp; done) | fail) ?_; conv => whnf) | (refine And.intro ⟨rfl, Nat.le_of_ble_eq_true rfl⟩ ?_; conv => whnf) | (refine And.intro ⟨Nat.le_of_ble_eq_true rfl, Nat.le_of_ble_eq_true rfl, Nat.le_of_ble_eq_true rfl⟩ ?_; conv => whnf) | (refine And.intro ⟨Nat.le_of_ble_eq_true rfl, Nat.le_of_ble_eq_true rfl, Nat.le_of_ble_eq_true rfl, Nat.le_of_ble_eq_true rfl⟩ ?_; conv => whnf) | (refine And.intro (by kernel_rfl) ?_; conv => whnf) | fail)
   refine ⟨[0, 1], ?_, rfl, rfl, ?_, rfl⟩
   ·
    (repeat' (first | (refine wk_agg ?_) | (refine wk_cons ?_ ?_))) <;> first | rfl | fail
   ·
    (repeat' (first | exact trivial | refine And.intro ?_ ?_ | fail)) <;> first | exact ren_eq (by first | (simp; done) | fail) (by first | rfl | fail) | exact ren_app2 (by first | (simp; done) | fail) (by first | rfl | fail) rfl | fail
end Go.Sh
namespace Go.Sh
open Go.Proofs
set_option maxHeartbeats 8000000
@[simp] theorem cells_sl (i o n z : Nat) (f : Bool) : (SV.sl i o n z f).cells = [.sl i o n z f] := rfl
@[simp] theorem cells_p (i o : Nat) : (SV.p i o).cells = [.p i o] := rfl
@[simp] theorem cells_slnil : SV.slnil.cells = [.slnil] := rfl
def xor4 : List UInt8 → List UInt8 → List UInt8
 | [a, b, c, d], [a2, b2, c2, d2] => [a ^^^ a2, b ^^^ b2, c ^^^ c2, d ^^^ d2]
 | _, _ => []
def colN (w : List UInt8) (i : Nat) : List UInt8 := [w.getD (4 * i) 0, w.getD (4 * i + 1) 0, w.getD (4 * i + 2) 0, w.getD (4 * i + 3) 0]
def pwN : Nat → UInt8
 | 0 => 1
 | k + 1 => dbl (pwN k)
def subC : List UInt8 → List UInt8
 | [a, b, c, d] => [sb a, sb b, sb c, sb d]
 | l => l
def rotC (p : UInt8) : List UInt8 → List UInt8
 | [a, b, c, d] => [sb b ^^^ p, sb c, sb d, sb a]
 | l => l
def kcol (key : List UInt8) (n i : Nat) (w : List UInt8) : List UInt8 :=
 if i < n then colN key i
 else xor4 (if i % n = 0 then rotC (pwN ((i - 1) / n)) (colN w (i - 1)) else if n = 8 ∧ i % n = 4 then subC (colN w (i - 1)) else colN w (i - 1)) (colN w (i - n))
def wSt (key : List UInt8) (n : Nat) : Nat → List UInt8
 | 0 => []
 | i + 1 => wSt key n i ++ kcol key n i (wSt key n i)
theorem kcol_len (key : List UInt8) (n i : Nat) (w : List UInt8) : (kcol key n i w).length = 4 := by
 unfold kcol
 split
 ·
  rfl
 ·
  split
  ·
   rfl
  ·
   split <;> rfl
theorem wSt_len (key : List UInt8) (n : Nat) : ∀ i, (wSt key n i).length = 4 * i
 | 0 => rfl
 | i + 1 => by simp only [wSt, List.length_append, kcol_len, wSt_len key n i]; omega
def cH (key : List UInt8) (n : Nat) : Nat → HL
 | 0 => [some (.ro (key.map .u8)), some (.box (sbx.map .u8 ++ [.slnil]))]
 | i + 1 => [some (.ro (key.map .u8)), some (.box (sbx.map .u8 ++ [.sl 2 0 (i + 1) 4 false])), some (.row 137 ((wSt key n (i + 1)).map .u8))]
def cL : Nat → Nat
 | 0 => 2
 | _ + 1 => 3
theorem sfill_ci : sfill (fun i => (List.map (fun f : Nat × Nat × Nat => (f.fst, f.snd.snd)) [(0, 128, 256), (256, 133, 1)])[i]?) (SV.agg (List.replicate 256 (SV.u8 0) ++ [SV.slnil])).cells [(0, SV.agg (List.map SV.u8 sbx))] = some (sbx.map .u8 ++ [.slnil]) := by
 have hl := sbx_len
 have hr : (List.replicate 256 (SV.u8 0)).length = 256 := List.length_replicate
 show (if (SV.agg (List.map SV.u8 sbx)).isTup = false ∧ (SV.agg (List.map SV.u8 sbx)).cells.length = 256 ∧ 0 + 256 ≤ (List.replicate 256 (SV.u8 0) ++ [SV.slnil]).length then some (sput (List.replicate 256 (SV.u8 0) ++ [SV.slnil]) 0 (.agg (sbx.map .u8))) else none) = _
 rw [if_pos ⟨rfl, by show (List.map SV.u8 sbx).length = 256; rw [List.length_map, hl], by rw [List.length_append, hr]; decide⟩]
 show some ((List.replicate 256 (SV.u8 0) ++ [SV.slnil]).take 0 ++ sbx.map .u8 ++ (List.replicate 256 (SV.u8 0) ++ [SV.slnil]).drop (0 + (sbx.map SV.u8).length)) = _
 rw [List.take_zero, List.nil_append, List.length_map, hl, List.drop_append_of_le_length (by rw [hr]; decide), List.drop_of_length_le (by rw [hr]; decide)]
 rfl
theorem w64_p1 (n : Nat) (h : n ≤ 1000) : w64 ((n : Int) + 1) = ((n + 1 : Nat) : Int) := by simp only [w64_eq]; omega
theorem w64_m1 (n : Nat) (h : n ≤ 1000) : w64 (((n + 1 : Nat) : Int) - 1) = (n : Int) := by simp only [w64_eq]; omega
theorem w64_sub (n k : Nat) (h : n ≤ 1000) (hk : k ≤ n) : w64 ((n : Int) - (k : Int)) = ((n - k : Nat) : Int) := by simp only [w64_eq]; omega
theorem w64_4 (n : Nat) (h : n ≤ 1000) : w64 (4 * (n : Int)) = ((4 * n : Nat) : Int) := by simp only [w64_eq]; omega
theorem w64_44 (n : Nat) (h : n ≤ 1000) : w64 (w64 (4 * (n : Int)) + 4) = ((4 * n + 4 : Nat) : Int) := by simp only [w64_eq]; omega
theorem tmod_n (n k : Nat) : ((n : Int)).tmod (k : Int) = ((n % k : Nat) : Int) := by rw [Int.tmod_eq_emod_of_nonneg (by omega)]; omega
theorem kcol_rot {key : List UInt8} {n i : Nat} (h : ¬ i + 1 < n) (hz : (i + 1) % n = 0) : (wSt key n (i + 1 + 1)).map SV.u8 = (wSt key n (i + 1)).map .u8 ++ [.u8 (sb ((wSt key n (i + 1)).getD (4 * i + 1) 0) ^^^ pwN ((i + 1 - 1) / n) ^^^ (wSt key n (i + 1)).getD (4 * (i + 1 - n)) 0), .u8 (sb ((wSt key n (i + 1)).getD (4 * i + 2) 0) ^^^ (wSt key n (i + 1)).getD (4 * (i + 1 - n) + 1) 0), .u8 (sb ((wSt key n (i + 1)).getD (4 * i + 3) 0) ^^^ (wSt key n (i + 1)).getD (4 * (i + 1 - n) + 2) 0), .u8 (sb ((wSt key n (i + 1)).getD (4 * i) 0) ^^^ (wSt key n (i + 1)).getD (4 * (i + 1 - n) + 3) 0)] := by
 show (wSt key n (i + 1) ++ kcol key n (i + 1) (wSt key n (i + 1))).map SV.u8 = _
 unfold kcol
 rw [if_neg h, if_pos hz, List.map_append]
 rfl
theorem kcol_sub {key : List UInt8} {n i : Nat} (h : ¬ i + 1 < n) (hz : (i + 1) % n ≠ 0) (h8 : n = 8 ∧ (i + 1) % n = 4) : (wSt key n (i + 1 + 1)).map SV.u8 = (wSt key n (i + 1)).map .u8 ++ [.u8 (sb ((wSt key n (i + 1)).getD (4 * i) 0) ^^^ (wSt key n (i + 1)).getD (4 * (i + 1 - n)) 0), .u8 (sb ((wSt key n (i + 1)).getD (4 * i + 1) 0) ^^^ (wSt key n (i + 1)).getD (4 * (i + 1 - n) + 1) 0), .u8 (sb ((wSt key n (i + 1)).getD (4 * i + 2) 0) ^^^ (wSt key n (i + 1)).getD (4 * (i + 1 - n) + 2) 0), .u8 (sb ((wSt key n (i + 1)).getD (4 * i + 3) 0) ^^^ (wSt key n (i + 1)).getD (4 * (i + 1 - n) + 3) 0)] := by
 show (wSt key n (i + 1) ++ kcol key n (i + 1) (wSt key n (i + 1))).map SV.u8 = _
 unfold kcol
 rw [if_neg h, if_neg hz, if_pos h8, List.map_append]
 rfl
theorem kcol_xor {key : List UInt8} {n i : Nat} (h : ¬ i + 1 < n) (hz : (i + 1) % n ≠ 0) (h8 : ¬ (n = 8 ∧ (i + 1) % n = 4)) : (wSt key n (i + 1 + 1)).map SV.u8 = (wSt key n (i + 1)).map .u8 ++ [.u8 ((wSt key n (i + 1)).getD (4 * i) 0 ^^^ (wSt key n (i + 1)).getD (4 * (i + 1 - n)) 0), .u8 ((wSt key n (i + 1)).getD (4 * i + 1) 0 ^^^ (wSt key n (i + 1)).getD (4 * (i + 1 - n) + 1) 0), .u8 ((wSt key n (i + 1)).getD (4 * i + 2) 0 ^^^ (wSt key n (i + 1)).getD (4 * (i + 1 - n) + 2) 0), .u8 ((wSt key n (i + 1)).getD (4 * i + 3) 0 ^^^ (wSt key n (i + 1)).getD (4 * (i + 1 - n) + 3) 0)] := by
 show (wSt key n (i + 1) ++ kcol key n (i + 1) (wSt key n (i + 1))).map SV.u8 = _
 unfold kcol
 rw [if_neg h, if_neg hz, if_neg h8, List.map_append]
 rfl
theorem ren_colapp {sel : List Nat} {w : List UInt8} {X : List SV} {k : Nat} {a b c d : UInt8} (hk : w.length = k * 4) (hX : X = w.map .u8 ++ [.u8 a, .u8 b, .u8 c, .u8 d]) : renL sel X = some (List.take (k * 4) (List.drop 0 (w.map .u8)) ++ [SV.u8 a, .u8 b, .u8 c, .u8 d]) := by
 subst hX
 rw [List.drop_zero, List.take_of_length_le (by simp; omega)]
 exact ren_app (plainL_u8 _) rfl
theorem wSt_z (key : List UInt8) (n : Nat) : wSt key n 0 = [] := rfl
theorem wSt_s (key : List UInt8) (n i : Nat) : wSt key n (i + 1) = wSt key n i ++ kcol key n i (wSt key n i) := rfl
attribute [irreducible] wSt
theorem f45n (fl : Bool) (key : List UInt8) (h1 : key.length ≠ 16) (h2 : key.length ≠ 32) : SCall Try.prog 45 [.sl 0 0 key.length 1 fl] [some (.ro (key.map .u8))] (.tup [.pnil, .i 2]) [some (.ro (key.map .u8))] := by
 have g1 : ((key.length : Int) != 16) = true := by simp; omega
 have g2 : ((key.length : Int) != 32) = true := by simp; omega
 refine scall_of ttOk (by kernel_rfl : Try.prog.funcs[45]? = some Try.f45) rfl rfl rfl ?_
 refine sw_ok ttOk mixed (by kernel_rfl) ?_
 conv => whnf
 repeat (first | (refine gdT g1 ?_; conv => whnf) | (refine pkT g1 ?_; conv => whnf) | (refine gdT g2 ?_; conv => whnf) | (refine Exists.intro _ (And.intro rfl ?_); conv => whnf) | fail)
 refine ⟨[0], ?_, rfl, rfl, ?_, rfl⟩
 ·
  (repeat' (first | (refine wk_tup ?_) | (refine wk_cons ?_ ?_))) <;> first | rfl | fail
 ·
  (repeat' (first | exact trivial | refine And.intro ?_ ?_ | fail)) <;> first | exact ren_eq (by first | (simp; done) | fail) (by first | rfl | fail) | fail
theorem f45_4 (fl : Bool) (key : List UInt8) (hk : key.length = 16) : SCall Try.prog 45 [.sl 0 0 16 1 fl] [some (.ro (key.map .u8))] (.tup [.p 1 0, .i 0]) [some (.ro (key.map .u8)), some (.box (sbx.map .u8 ++ [.sl 2 0 44 4 false])), some (.row 137 ((wSt key 4 44).map .u8))] := by
 have hl := sbx_len
 refine scall_of ttOk (by kernel_rfl : Try.prog.funcs[45]? = some Try.f45) rfl rfl rfl ?_
 refine sw_ok ttOk mixed (by kernel_rfl) ?_
 conv => whnf
 repeat (first | (refine brF rfl ?_; conv => whnf) | (refine Exists.intro _ (And.intro rfl ?_); conv => whnf) | fail)
 refine ok1_callF [] [true, true, true, true, true, true, true, true, true, true, true, true] true (f80) rfl rfl ⟨⟨rfl, by first | rfl | fail⟩, trivial, by first | rfl | fail, by first | simp [plainRf, plainR, plainT, plainW], ?_⟩
 conv => whnf
 repeat (fail)
 refine Exists.intro _ (And.intro sfill_ci ?_)
 conv => whnf
 repeat (fail)
 refine loop_rule ttOk mixed (by kernel_rfl) (ι := { i : Nat // i ≤ 44 }) (fun i => [(0, .sl 0 0 16 1 fl), (4, .i 4), (5, .p 1 0), (6, .u8 (pwN ((i.1 - 1) / 4))), (25, .i 44), (26, .i (i.1 : Int))]) (fun i => cH key 4 i.1) (fun i => cL i.1) (fun i => 44 - i.1) ⟨0, by omega⟩ ?_ ?_
 ·
  refine Weak.sel [0, 1] rfl rfl ?_ ?_ rfl rfl
  ·
   (repeat' (first | exact trivial | refine And.intro ?_ ?_ | fail)) <;> first | rfl | exact wk_u8 (by first | (simp [pwN]; done) | fail) | fail
  ·
   (repeat' (first | exact trivial | refine And.intro ?_ ?_ | fail)) <;> first | exact ren_eq (by first | (simp; done) | fail) (by first | rfl | fail) | exact ren_app2 (by first | (simp; done) | fail) (by first | rfl | fail) rfl | fail
 ·
  rintro ⟨i, hi⟩
  have hwl := wSt_len key 4 i
  rcases i with _ | i
  ·
   dsimp only [cH, cL]
   conv => whnf
   repeat (first | (refine brT rfl ?_; conv => whnf) | (refine Exists.intro _ (And.intro (sload_end (by first | rfl | (simp [hl]; done) | fail)) ?_); conv => whnf) | (refine Exists.intro _ (And.intro (sput_end (by first | rfl | (simp [hl]; done) | fail) rfl) ?_); conv => whnf) | (refine Exists.intro _ (And.intro (evb_i (m := 0) rfl (by first | rfl | fail)) ?_); conv => whnf) | (refine Exists.intro _ (And.intro (evb_i (m := 4) rfl (by first | rfl | fail)) ?_); conv => whnf) | (refine Exists.intro _ (And.intro (sload_col (i := 0) (by first | rfl | fail) (by first | omega | fail)) ?_); conv => whnf) | (refine Exists.intro _ (And.intro rfl ?_); conv => whnf) | (refine And.intro (by first | omega | (simp; omega) | fail) ?_; conv => whnf) | (refine And.intro ⟨Nat.le_of_ble_eq_true rfl, Nat.le_of_ble_eq_true rfl⟩ ?_; conv => whnf) | (refine And.intro (by kernel_rfl) ?_; conv => whnf) | fail)
   have hone : wSt key 4 (0 + 1) = colN key 0 := by rw [wSt_s, wSt_z]; unfold kcol; rw [if_pos (by decide)]; rfl
   refine ⟨⟨1, by omega⟩, by simp, ?_⟩
   refine Weak.sel [0, 1, 3] rfl rfl ?_ ?_ rfl rfl
   ·
    (repeat' (first | exact trivial | refine And.intro ?_ ?_ | fail)) <;> first | rfl | fail
   ·
    (repeat' (first | exact trivial | refine And.intro ?_ ?_ | fail)) <;> first | rfl | exact ren_eq (by first | (simp; done) | fail) (by first | rfl | fail) | exact ren_app2 (by first | (simp; done) | fail) (by first | rfl | fail) rfl | exact (by rw [hone]; rfl) | fail
  ·
   dsimp only [cH, cL]
   conv => whnf
   refine ⟨fun hc => ?_, fun hc => ?_⟩
   ·
    have hi2 : i + 1 < 44 := by simp at hc; omega
    have hp1 := w64_p1 (i + 1) (by omega)
    have hm1 := w64_m1 i (by omega)
    have h4 := w64_4 (i + 1) (by omega)
    have h44 := w64_44 (i + 1) (by omega)
    by_cases hin : i + 1 < 4
    ·
     have hlt : decide (((i + 1 : Nat) : Int) < 4) = true := by simp; omega
     conv => whnf
     repeat (first | (refine Exists.intro _ (And.intro (sload_end (by first | rfl | (simp [hl, hwl]; done) | fail)) ?_); conv => whnf) | (refine Exists.intro _ (And.intro (sput_end (by first | rfl | (simp [hl, hwl]; done) | fail) rfl) ?_); conv => whnf) | (refine Exists.intro _ (And.intro (idx_i (m := 4 * (i + 1)) (by first | rfl | omega | fail)) ?_); conv => whnf) | (refine Exists.intro _ (And.intro (idx_i (m := 4 * (i + 1) + 4) (by first | rfl | omega | fail)) ?_); conv => whnf) | (refine Exists.intro _ (And.intro (sload_col (i := 4 * (i + 1)) (by first | rfl | omega | fail) (by first | omega | fail)) ?_); conv => whnf) | (refine gdT hlt ?_; conv => whnf) | (refine Exists.intro _ (And.intro rfl ?_); conv => whnf) | (refine And.intro (by first | omega | (simp; omega) | fail) ?_; conv => whnf) | (refine And.intro (by kernel_rfl) ?_; conv => whnf) | (refine And.intro ⟨by first | (simp [hl, hwl]; omega) | fail, by first | exact Nat.le_of_ble_eq_true rfl | fail, by first | (show _ * 4 ≤ _; omega) | fail⟩ ?_; conv => whnf) | fail)
     have hcol : (wSt key 4 (i + 1 + 1)).map SV.u8 = (wSt key 4 (i + 1)).map SV.u8 ++ [.u8 (key.getD (4 * (i + 1)) 0), .u8 (key.getD (4 * (i + 1) + 1) 0), .u8 (key.getD (4 * (i + 1) + 2) 0), .u8 (key.getD (4 * (i + 1) + 3) 0)] := by
      rw [wSt_s key 4 (i + 1)]
      unfold kcol; rw [if_pos hin]; simp [colN]
     have hpw : pwN ((i + 1 + 1 - 1) / 4) = pwN ((i + 1 - 1) / 4) := by
      rw [show (i + 1 + 1 - 1) / 4 = (i + 1 - 1) / 4 from by omega]
     have htk : List.take ((i + 1) * 4) ((wSt key 4 (i + 1)).map SV.u8) = (wSt key 4 (i + 1)).map SV.u8 := by
      rw [List.take_of_length_le]; simp; omega
     refine ⟨⟨i + 1 + 1, by omega⟩, by simp only; omega, ?_⟩
     refine Weak.sel [0, 1, 4] rfl rfl ?_ ?_ rfl rfl
     ·
      (repeat' (first | exact trivial | refine And.intro ?_ ?_ | fail)) <;> first | rfl | exact wk_i (by first | rfl | exact hp1.symm | fail) | exact wk_u8 (by first | exact hpw | fail) | fail
     ·
      (repeat' (first | exact trivial | refine And.intro ?_ ?_ | fail)) <;> first | rfl | exact ren_eq (by first | (simp; done) | fail) (by first | rfl | fail) | exact ren_app2 (by first | (simp; done) | fail) (by first | rfl | fail) rfl | exact ren_colapp (by omega) hcol | fail
    ·
     have hlt : decide (((i + 1 : Nat) : Int) < 4) = false := by simp; omega
     conv => whnf
     repeat (first | (refine Exists.intro _ (And.intro (sput_all rfl (by first | rfl | fail)) ?_); conv => whnf) | (refine Exists.intro _ (And.intro (sload_end (by first | rfl | (simp [hl, hwl]; done) | fail)) ?_); conv => whnf) | (refine Exists.intro _ (And.intro (idx_i (m := i) (by first | rfl | omega | fail)) ?_); conv => whnf) | (refine Exists.intro _ (And.intro (sload_col (i := 4 * i) (by first | rfl | omega | fail) (by first | omega | fail)) ?_); conv => whnf) | (refine gdF hlt ?_; conv => whnf) | (refine Exists.intro _ (And.intro rfl ?_); conv => whnf) | (refine And.intro (by first | omega | (simp; done) | fail) ?_; conv => whnf) | fail)
     have hf84 := fun a b c d => f84 a b c d (i + 1) false (wSt key 4 (i + 1))
     unfold ciB ciW at hf84
     have hs : w64 (((i + 1 : Nat) : Int) - 4) = ((i + 1 - 4 : Nat) : Int) := w64_sub (i + 1) 4 (by omega) (by omega)
     have htm : (((i + 1 : Nat) : Int)).tmod 4 = (((i + 1) % 4 : Nat) : Int) := tmod_n (i + 1) 4
     by_cases hz : (i + 1) % 4 = 0
     ·
      have hm : ((((i + 1 : Nat) : Int)).tmod 4 == 0) = true := by rw [htm, hz]; rfl
      refine brT hm ?_
      conv => whnf
      repeat (first | (refine Exists.intro _ (And.intro (idx_i (m := 1) (by first | rfl | fail)) ?_); conv => whnf) | (refine Exists.intro _ (And.intro (idx_i (m := 2) (by first | rfl | fail)) ?_); conv => whnf) | (refine Exists.intro _ (And.intro (idx_i (m := 3) (by first | rfl | fail)) ?_); conv => whnf) | (refine Exists.intro _ (And.intro (idx_i (m := 0) (by first | rfl | fail)) ?_); conv => whnf) | (refine Exists.intro _ (And.intro rfl ?_); conv => whnf) | (refine And.intro (by first | omega | fail) ?_; conv => whnf) | fail)
      refine ok1_callF [1, 2] [false, false] true (hf84 _ _ _ _) rfl rfl ⟨⟨rfl, by first | rfl | fail⟩, by (repeat' (first | exact trivial | refine And.intro ?_ ?_)) <;> first | exact ren_eq (by first | (simp; done) | fail) (by first | rfl | fail) | exact ren_app2 (by first | (simp; done) | fail) (by first | rfl | fail) (by first | rfl | fail), by first | rfl | fail, by first | rfl | fail, ?_⟩
      conv => whnf
      repeat (first | (refine Exists.intro _ (And.intro (sput_all rfl (by first | rfl | fail)) ?_); conv => whnf) | (refine Exists.intro _ (And.intro (idx_i (m := 0) (by first | rfl | fail)) ?_); conv => whnf) | (refine Exists.intro _ (And.intro rfl ?_); conv => whnf) | (refine And.intro (by first | omega | (simp; done) | fail) ?_; conv => whnf) | fail)
      refine ok1_callP [] (f85 (pwN ((i + 1 - 1) / 4))) rfl rfl ⟨⟨rfl, by first | rfl | fail⟩, trivial, by first | rfl | fail, ?_⟩
      conv => whnf
      repeat (first | (refine Exists.intro _ (And.intro (sload_all rfl (by first | rfl | fail)) ?_); conv => whnf) | (refine Exists.intro _ (And.intro (sload_end (by first | rfl | (simp [hl, hwl]; done) | fail)) ?_); conv => whnf) | (refine Exists.intro _ (And.intro (idx_i (m := i + 1 - 4) (by first | rfl | omega | fail)) ?_); conv => whnf) | (refine Exists.intro _ (And.intro (sload_col (i := 4 * (i + 1 - 4)) (by first | rfl | omega | fail) (by first | omega | fail)) ?_); conv => whnf) | (refine And.intro (by first | omega | fail) ?_; conv => whnf) | fail)
      refine ok1_callP [] (f86 _ _ _ _ _ _ _ _) rfl rfl ⟨⟨rfl, by first | rfl | fail⟩, trivial, by first | rfl | fail, ?_⟩
      conv => whnf
      repeat (first | (refine Exists.intro _ (And.intro (sput_end (by first | rfl | (simp [hl, hwl]; done) | fail) rfl) ?_); conv => whnf) | (refine Exists.intro _ (And.intro rfl ?_); conv => whnf) | (refine And.intro (by first | omega | (simp; omega) | fail) ?_; conv => whnf) | (refine And.intro (by kernel_rfl) ?_; conv => whnf) | (refine And.intro ⟨by first | (simp [hl, hwl]; omega) | fail, by first | exact Nat.le_of_ble_eq_true rfl | fail, by first | (show _ * 4 ≤ _; omega) | fail⟩ ?_; conv => whnf) | fail)
      have hpw : pwN ((i + 1 + 1 - 1) / 4) = dbl (pwN ((i + 1 - 1) / 4)) := by
       rw [show (i + 1 + 1 - 1) / 4 = (i + 1 - 1) / 4 + 1 from by omega]; rfl
      refine ⟨⟨i + 1 + 1, by omega⟩, by simp only; omega, ?_⟩
      refine Weak.sel [0, 1, 5] rfl rfl ?_ ?_ rfl rfl
      ·
       (repeat' (first | exact trivial | refine And.intro ?_ ?_ | fail)) <;> first | rfl | exact wk_i (by first | rfl | exact hp1.symm | fail) | exact wk_u8 (by first | exact hpw | fail) | fail
      ·
       (repeat' (first | exact trivial | refine And.intro ?_ ?_ | fail)) <;> first | rfl | exact ren_eq (by first | (simp; done) | fail) (by first | rfl | fail) | exact ren_app2 (by first | (simp; done) | fail) (by first | rfl | fail) rfl | exact ren_colapp (by omega) (kcol_rot hin hz) | fail
     ·
      have hm : ((((i + 1 : Nat) : Int)).tmod 4 == 0) = false := by rw [htm]; simp; omega
      refine brF hm ?_
      have hpw : pwN ((i + 1 + 1 - 1) / 4) = pwN ((i + 1 - 1) / 4) := by
       rw [show (i + 1 + 1 - 1) / 4 = (i + 1 - 1) / 4 from by omega]
      by_cases h8 : 4 = 8 ∧ (i + 1) % 4 = 4
      ·
       skip
       exact absurd h8.1 (by decide)
      ·
       skip
       conv => whnf
       repeat (first | (refine brF rfl ?_; conv => whnf) | (refine Exists.intro _ (And.intro (sload_all rfl (by first | rfl | fail)) ?_); conv => whnf) | (refine Exists.intro _ (And.intro (sload_end (by first | rfl | (simp [hl, hwl]; done) | fail)) ?_); conv => whnf) | (refine Exists.intro _ (And.intro (idx_i (m := i + 1 - 4) (by first | rfl | omega | fail)) ?_); conv => whnf) | (refine Exists.intro _ (And.intro (sload_col (i := 4 * (i + 1 - 4)) (by first | rfl | omega | fail) (by first | omega | fail)) ?_); conv => whnf) | (refine Exists.intro _ (And.intro rfl ?_); conv => whnf) | (refine And.intro (by first | omega | fail) ?_; conv => whnf) | fail)
       refine ok1_callP [] (f86 _ _ _ _ _ _ _ _) rfl rfl ⟨⟨rfl, by first | rfl | fail⟩, trivial, by first | rfl | fail, ?_⟩
       conv => whnf
       repeat (first | (refine Exists.intro _ (And.intro (sput_end (by first | rfl | (simp [hl, hwl]; done) | fail) rfl) ?_); conv => whnf) | (refine Exists.intro _ (And.intro rfl ?_); conv => whnf) | (refine And.intro (by first | omega | (simp; omega) | fail) ?_; conv => whnf) | (refine And.intro (by kernel_rfl) ?_; conv => whnf) | (refine And.intro ⟨by first | (simp [hl, hwl]; omega) | fail, by first | exact Nat.le_of_ble_eq_true rfl | fail, by first | (show _ * 4 ≤ _; omega) | fail⟩ ?_; conv => whnf) | fail)
       refine ⟨⟨i + 1 + 1, by omega⟩, by simp only; omega, ?_⟩
       refine Weak.sel [0, 1, 5] rfl rfl ?_ ?_ rfl rfl
       ·
        (repeat' (first | exact trivial | refine And.intro ?_ ?_ | fail)) <;> first | rfl | exact wk_i (by first | rfl | exact hp1.symm | fail) | exact wk_u8 (by first | exact hpw | fail) | fail
       ·
        (repeat' (first | exact trivial | refine And.intro ?_ ?_ | fail)) <;> first | rfl | exact ren_eq (by first | (simp; done) | fail) (by first | rfl | fail) | exact ren_app2 (by first | (simp; done) | fail) (by first | rfl | fail) rfl | exact ren_colapp (by omega) (kcol_xor hin hz h8) | fail
   ·
    obtain rfl : i = 44 - 1 := by simp at hc; omega
    conv => whnf
    refine ⟨[0, 1, 2], ?_, rfl, rfl, ?_, rfl⟩
    ·
     (repeat' (first | (refine wk_tup ?_) | (refine wk_cons ?_ ?_))) <;> first | rfl | fail
    ·
     (repeat' (first | exact trivial | refine And.intro ?_ ?_ | fail)) <;> first | rfl | exact ren_eq (by first | (simp; done) | fail) (by first | rfl | fail) | exact ren_app2 (by first | (simp; done) | fail) (by first | rfl | fail) rfl | fail
theorem f45_8 (fl : Bool) (key : List UInt8) (hk : key.length = 32) : SCall Try.prog 45 [.sl 0 0 32 1 fl] [some (.ro (key.map .u8))] (.tup [.p 1 0, .i 0]) [some (.ro (key.map .u8)), some (.box (sbx.map .u8 ++ [.sl 2 0 60 4 false])), some (.row 137 ((wSt key 8 60).map .u8))] := by
 have hl := sbx_len
 refine scall_of ttOk (by kernel_rfl : Try.prog.funcs[45]? = some Try.f45) rfl rfl rfl ?_
 refine sw_ok ttOk mixed (by kernel_rfl) ?_
 conv => whnf
 repeat (first | (refine brT rfl ?_; conv => whnf) | (refine brF rfl ?_; conv => whnf) | (refine Exists.intro _ (And.intro rfl ?_); conv => whnf) | fail)
 refine ok1_callF [] [true, true, true, true, true, true, true, true, true, true, true, true] true (f80) rfl rfl ⟨⟨rfl, by first | rfl | fail⟩, trivial, by first | rfl | fail, by first | simp [plainRf, plainR, plainT, plainW], ?_⟩
 conv => whnf
 repeat (fail)
 refine Exists.intro _ (And.intro sfill_ci ?_)
 conv => whnf
 repeat (fail)
 refine loop_rule ttOk mixed (by kernel_rfl) (ι := { i : Nat // i ≤ 60 }) (fun i => [(0, .sl 0 0 32 1 fl), (4, .i 8), (5, .p 1 0), (6, .u8 (pwN ((i.1 - 1) / 8))), (25, .i 60), (26, .i (i.1 : Int))]) (fun i => cH key 8 i.1) (fun i => cL i.1) (fun i => 60 - i.1) ⟨0, by omega⟩ ?_ ?_
 ·
  refine Weak.sel [0, 1] rfl rfl ?_ ?_ rfl rfl
  ·
   (repeat' (first | exact trivial | refine And.intro ?_ ?_ | fail)) <;> first | rfl | exact wk_u8 (by first | (simp [pwN]; done) | fail) | fail
  ·
   (repeat' (first | exact trivial | refine And.intro ?_ ?_ | fail)) <;> first | exact ren_eq (by first | (simp; done) | fail) (by first | rfl | fail) | exact ren_app2 (by first | (simp; done) | fail) (by first | rfl | fail) rfl | fail
 ·
  rintro ⟨i, hi⟩
  have hwl := wSt_len key 8 i
  rcases i with _ | i
  ·
   dsimp only [cH, cL]
   conv => whnf
   repeat (first | (refine brT rfl ?_; conv => whnf) | (refine Exists.intro _ (And.intro (sload_end (by first | rfl | (simp [hl]; done) | fail)) ?_); conv => whnf) | (refine Exists.intro _ (And.intro (sput_end (by first | rfl | (simp [hl]; done) | fail) rfl) ?_); conv => whnf) | (refine Exists.intro _ (And.intro (evb_i (m := 0) rfl (by first | rfl | fail)) ?_); conv => whnf) | (refine Exists.intro _ (And.intro (evb_i (m := 4) rfl (by first | rfl | fail)) ?_); conv => whnf) | (refine Exists.intro _ (And.intro (sload_col (i := 0) (by first | rfl | fail) (by first | omega | fail)) ?_); conv => whnf) | (refine Exists.intro _ (And.intro rfl ?_); conv => whnf) | (refine And.intro (by first | omega | (simp; omega) | fail) ?_; conv => whnf) | (refine And.intro ⟨Nat.le_of_ble_eq_true rfl, Nat.le_of_ble_eq_true rfl⟩ ?_; conv => whnf) | (refine And.intro (by kernel_rfl) ?_; conv => whnf) | fail)
   have hone : wSt key 8 (0 + 1) = colN key 0 := by rw [wSt_s, wSt_z]; unfold kcol; rw [if_pos (by decide)]; rfl
   refine ⟨⟨1, by omega⟩, by simp, ?_⟩
   refine Weak.sel [0, 1, 3] rfl rfl ?_ ?_ rfl rfl
   ·
    (repeat' (first | exact trivial | refine And.intro ?_ ?_ | fail)) <;> first | rfl | fail
   ·
    (repeat' (first | exact trivial | refine And.intro ?_ ?_ | fail)) <;> first | rfl | exact ren_eq (by first | (simp; done) | fail) (by first | rfl | fail) | exact ren_app2 (by first | (simp; done) | fail) (by first | rfl | fail) rfl | exact (by rw [hone]; rfl) | fail
  ·
   dsimp only [cH, cL]
   conv => whnf
   refine ⟨fun hc => ?_, fun hc => ?_⟩
   ·
    have hi2 : i + 1 < 60 := by simp at hc; omega
    have hp1 := w64_p1 (i + 1) (by omega)
    have hm1 := w64_m1 i (by omega)
    have h4 := w64_4 (i + 1) (by omega)
    have h44 := w64_44 (i + 1) (by omega)
    by_cases hin : i + 1 < 8
    ·
     have hlt : decide (((i + 1 : Nat) : Int) < 8) = true := by simp; omega
     conv => whnf
     repeat (first | (refine Exists.intro _ (And.intro (sload_end (by first | rfl | (simp [hl, hwl]; done) | fail)) ?_); conv => whnf) | (refine Exists.intro _ (And.intro (sput_end (by first | rfl | (simp [hl, hwl]; done) | fail) rfl) ?_); conv => whnf) | (refine Exists.intro _ (And.intro (idx_i (m := 4 * (i + 1)) (by first | rfl | omega | fail)) ?_); conv => whnf) | (refine Exists.intro _ (And.intro (idx_i (m := 4 * (i + 1) + 4) (by first | rfl | omega | fail)) ?_); conv => whnf) | (refine Exists.intro _ (And.intro (sload_col (i := 4 * (i + 1)) (by first | rfl | omega | fail) (by first | omega | fail)) ?_); conv => whnf) | (refine gdT hlt ?_; conv => whnf) | (refine Exists.intro _ (And.intro rfl ?_); conv => whnf) | (refine And.intro (by first | omega | (simp; omega) | fail) ?_; conv => whnf) | (refine And.intro (by kernel_rfl) ?_; conv => whnf) | (refine And.intro ⟨by first | (simp [hl, hwl]; omega) | fail, by first | exact Nat.le_of_ble_eq_true rfl | fail, by first | (show _ * 4 ≤ _; omega) | fail⟩ ?_; conv => whnf) | fail)
     have hcol : (wSt key 8 (i + 1 + 1)).map SV.u8 = (wSt key 8 (i + 1)).map SV.u8 ++ [.u8 (key.getD (4 * (i + 1)) 0), .u8 (key.getD (4 * (i + 1) + 1) 0), .u8 (key.getD (4 * (i + 1) + 2) 0), .u8 (key.getD (4 * (i + 1) + 3) 0)] := by
      rw [wSt_s key 8 (i + 1)]
      unfold kcol; rw [if_pos hin]; simp [colN]
     have hpw : pwN ((i + 1 + 1 - 1) / 8) = pwN ((i + 1 - 1) / 8) := by
      rw [show (i + 1 + 1 - 1) / 8 = (i + 1 - 1) / 8 from by omega]
     have htk : List.take ((i + 1) * 4) ((wSt key 8 (i + 1)).map SV.u8) = (wSt key 8 (i + 1)).map SV.u8 := by
      rw [List.take_of_length_le]; simp; omega
     refine ⟨⟨i + 1 + 1, by omega⟩, by simp only; omega, ?_⟩
     refine Weak.sel [0, 1, 4] rfl rfl ?_ ?_ rfl rfl
     ·
      (repeat' (first | exact trivial | refine And.intro ?_ ?_ | fail)) <;> first | rfl | exact wk_i (by first | rfl | exact hp1.symm | fail) | exact wk_u8 (by first | exact hpw | fail) | fail
     ·
      (repeat' (first | exact trivial | refine And.intro ?_ ?_ | fail)) <;> first | rfl | exact ren_eq (by first | (simp; done) | fail) (by first | rfl | fail) | exact ren_app2 (by first | (simp; done) | fail) (by first | rfl | fail) rfl | exact ren_colapp (by omega) hcol | fail
    ·
     have hlt : decide (((i + 1 : Nat) : Int) < 8) = false := by simp; omega
     conv => whnf
     repeat (first | (refine Exists.intro _ (And.intro (sput_all rfl (by first | rfl | fail)) ?_); conv => whnf) | (refine Exists.intro _ (And.intro (sload_end (by first | rfl | (simp [hl, hwl]; done) | fail)) ?_); conv => whnf) | (refine Exists.intro _ (And.intro (idx_i (m := i) (by first | rfl | omega | fail)) ?_); conv => whnf) | (refine Exists.intro _ (And.intro (sload_col (i := 4 * i) (by first | rfl | omega | fail) (by first | omega | fail)) ?_); conv => whnf) | (refine gdF hlt ?_; conv => whnf) | (refine Exists.intro _ (And.intro rfl ?_); conv => whnf) | (refine And.intro (by first | omega | (simp; done) | fail) ?_; conv => whnf) | fail)
     have hf84 := fun a b c d => f84 a b c d (i + 1) false (wSt key 8 (i + 1))
     unfold ciB ciW at hf84
     have hs : w64 (((i + 1 : Nat) : Int) - 8) = ((i + 1 - 8 : Nat) : Int) := w64_sub (i + 1) 8 (by omega) (by omega)
     have htm : (((i + 1 : Nat) : Int)).tmod 8 = (((i + 1) % 8 : Nat) : Int) := tmod_n (i + 1) 8
     by_cases hz : (i + 1) % 8 = 0
     ·
      have hm : ((((i + 1 : Nat) : Int)).tmod 8 == 0) = true := by rw [htm, hz]; rfl
      refine brT hm ?_
      conv => whnf
      repeat (first | (refine Exists.intro _ (And.intro (idx_i (m := 1) (by first | rfl | fail)) ?_); conv => whnf) | (refine Exists.intro _ (And.intro (idx_i (m := 2) (by first | rfl | fail)) ?_); conv => whnf) | (refine Exists.intro _ (And.intro (idx_i (m := 3) (by first | rfl | fail)) ?_); conv => whnf) | (refine Exists.intro _ (And.intro (idx_i (m := 0) (by first | rfl | fail)) ?_); conv => whnf) | (refine Exists.intro _ (And.intro rfl ?_); conv => whnf) | (refine And.intro (by first | omega | fail) ?_; conv => whnf) | fail)
      refine ok1_callF [1, 2] [false, false] true (hf84 _ _ _ _) rfl rfl ⟨⟨rfl, by first | rfl | fail⟩, by (repeat' (first | exact trivial | refine And.intro ?_ ?_)) <;> first | exact ren_eq (by first | (simp; done) | fail) (by first | rfl | fail) | exact ren_app2 (by first | (simp; done) | fail) (by first | rfl | fail) (by first | rfl | fail), by first | rfl | fail, by first | rfl | fail, ?_⟩
      conv => whnf
      repeat (first | (refine Exists.intro _ (And.intro (sput_all rfl (by first | rfl | fail)) ?_); conv => whnf) | (refine Exists.intro _ (And.intro (idx_i (m := 0) (by first | rfl | fail)) ?_); conv => whnf) | (refine Exists.intro _ (And.intro rfl ?_); conv => whnf) | (refine And.intro (by first | omega | (simp; done) | fail) ?_; conv => whnf) | fail)
      refine ok1_callP [] (f85 (pwN ((i + 1 - 1) / 8))) rfl rfl ⟨⟨rfl, by first | rfl | fail⟩, trivial, by first | rfl | fail, ?_⟩
      conv => whnf
      repeat (first | (refine Exists.intro _ (And.intro (sload_all rfl (by first | rfl | fail)) ?_); conv => whnf) | (refine Exists.intro _ (And.intro (sload_end (by first | rfl | (simp [hl, hwl]; done) | fail)) ?_); conv => whnf) | (refine Exists.intro _ (And.intro (idx_i (m := i + 1 - 8) (by first | rfl | omega | fail)) ?_); conv => whnf) | (refine Exists.intro _ (And.intro (sload_col (i := 4 * (i + 1 - 8)) (by first | rfl | omega | fail) (by first | omega | fail)) ?_); conv => whnf) | (refine And.intro (by first | omega | fail) ?_; conv => whnf) | fail)
      refine ok1_callP [] (f86 _ _ _ _ _ _ _ _) rfl rfl ⟨⟨rfl, by first | rfl | fail⟩, trivial, by first | rfl | fail, ?_⟩
      conv => whnf
      repeat (first | (refine Exists.intro _ (And.intro (sput_end (by first | rfl | (simp [hl, hwl]; done) | fail) rfl) ?_); conv => whnf) | (refine Exists.intro _ (And.intro rfl ?_); conv => whnf) | (refine And.intro (by first | omega | (simp; omega) | fail) ?_; conv => whnf) | (refine And.intro (by kernel_rfl) ?_; conv => whnf) | (refine And.intro ⟨by first | (simp [hl, hwl]; omega) | fail, by first | exact Nat.le_of_ble_eq_true rfl | fail, by first | (show _ * 4 ≤ _; omega) | fail⟩ ?_; conv => whnf) | fail)
      have hpw : pwN ((i + 1 + 1 - 1) / 8) = dbl (pwN ((i + 1 - 1) / 8)) := by
       rw [show (i + 1 + 1 - 1) / 8 = (i + 1 - 1) / 8 + 1 from by omega]; rfl
      refine ⟨⟨i + 1 + 1, by omega⟩, by simp only; omega, ?_⟩
      refine Weak.sel [0, 1, 5] rfl rfl ?_ ?_ rfl rfl
      ·
       (repeat' (first | exact trivial | refine And.intro ?_ ?_ | fail)) <;> first | rfl | exact wk_i (by first | rfl | exact hp1.symm | fail) | exact wk_u8 (by first | exact hpw | fail) | fail
      ·
       (repeat' (first | exact trivial | refine And.intro ?_ ?_ | fail)) <;> first | rfl | exact ren_eq (by first | (simp; done) | fail) (by first | rfl | fail) | exact ren_app2 (by first | (simp; done) | fail) (by first | rfl | fail) rfl | exact ren_colapp (by omega) (kcol_rot hin hz) | fail
     ·
      have hm : ((((i + 1 : Nat) : Int)).tmod 8 == 0) = false := by rw [htm]; simp; omega
      refine brF hm ?_
      have hpw : pwN ((i + 1 + 1 - 1) / 8) = pwN ((i + 1 - 1) / 8) := by
       rw [show (i + 1 + 1 - 1) / 8 = (i + 1 - 1) / 8 from by omega]
      by_cases h8 : 8 = 8 ∧ (i + 1) % 8 = 4
      ·
       skip
       have hm4 : ((((i + 1 : Nat) : Int)).tmod 8 == 4) = true := by rw [htm, h8.2]; rfl
       conv => whnf
       repeat (first | (refine brT rfl ?_; conv => whnf) | (refine Exists.intro _ (And.intro (sload_all rfl (by first | rfl | fail)) ?_); conv => whnf) | (refine gdT hm4 ?_; conv => whnf) | (refine Exists.intro _ (And.intro rfl ?_); conv => whnf) | fail)
       refine ok1_callF [1, 2] [false, false] true (hf84 _ _ _ _) rfl rfl ⟨⟨rfl, by first | rfl | fail⟩, by (repeat' (first | exact trivial | refine And.intro ?_ ?_)) <;> first | exact ren_eq (by first | (simp; done) | fail) (by first | rfl | fail) | exact ren_app2 (by first | (simp; done) | fail) (by first | rfl | fail) (by first | rfl | fail), by first | rfl | fail, by first | rfl | fail, ?_⟩
       conv => whnf
       repeat (first | (refine Exists.intro _ (And.intro (sload_all rfl (by first | rfl | fail)) ?_); conv => whnf) | (refine Exists.intro _ (And.intro (sput_all rfl (by first | rfl | fail)) ?_); conv => whnf) | (refine Exists.intro _ (And.intro (sload_end (by first | rfl | (simp [hl, hwl]; done) | fail)) ?_); conv => whnf) | (refine Exists.intro _ (And.intro (idx_i (m := i + 1 - 8) (by first | rfl | omega | fail)) ?_); conv => whnf) | (refine Exists.intro _ (And.intro (sload_col (i := 4 * (i + 1 - 8)) (by first | rfl | omega | fail) (by first | omega | fail)) ?_); conv => whnf) | (refine And.intro (by first | omega | (simp; done) | fail) ?_; conv => whnf) | fail)
       refine ok1_callP [] (f86 _ _ _ _ _ _ _ _) rfl rfl ⟨⟨rfl, by first | rfl | fail⟩, trivial, by first | rfl | fail, ?_⟩
       conv => whnf
       repeat (first | (refine Exists.intro _ (And.intro (sput_end (by first | rfl | (simp [hl, hwl]; done) | fail) rfl) ?_); conv => whnf) | (refine Exists.intro _ (And.intro rfl ?_); conv => whnf) | (refine And.intro (by first | omega | (simp; omega) | fail) ?_; conv => whnf) | (refine And.intro (by kernel_rfl) ?_; conv => whnf) | (refine And.intro ⟨by first | (simp [hl, hwl]; omega) | fail, by first | exact Nat.le_of_ble_eq_true rfl | fail, by first | (show _ * 4 ≤ _; omega) | fail⟩ ?_; conv => whnf) | fail)
       refine ⟨⟨i + 1 + 1, by omega⟩, by simp only; omega, ?_⟩
       refine Weak.sel [0, 1, 5] rfl rfl ?_ ?_ rfl rfl
       ·
        (repeat' (first | exact trivial | refine And.intro ?_ ?_ | fail)) <;> first | rfl | exact wk_i (by first | rfl | exact hp1.symm | fail) | exact wk_u8 (by first | exact hpw | fail) | fail
       ·
        (repeat' (first | exact trivial | refine And.intro ?_ ?_ | fail)) <;> first | rfl | exact ren_eq (by first | (simp; done) | fail) (by first | rfl | fail) | exact ren_app2 (by first | (simp; done) | fail) (by first | rfl | fail) rfl | exact ren_colapp (by omega) (kcol_sub hin hz h8) | fail
      ·
       skip
       have hm4 : ((((i + 1 : Nat) : Int)).tmod 8 == 4) = false := by rw [htm]; simp; omega
       conv => whnf
       repeat (first | (refine brT rfl ?_; conv => whnf) | (refine Exists.intro _ (And.intro (sload_all rfl (by first | rfl | fail)) ?_); conv => whnf) | (refine Exists.intro _ (And.intro (sload_end (by first | rfl | (simp [hl, hwl]; done) | fail)) ?_); conv => whnf) | (refine gdF hm4 ?_; conv => whnf) | (refine Exists.intro _ (And.intro (idx_i (m := i + 1 - 8) (by first | rfl | omega | fail)) ?_); conv => whnf) | (refine Exists.intro _ (And.intro (sload_col (i := 4 * (i + 1 - 8)) (by first | rfl | omega | fail) (by first | omega | fail)) ?_); conv => whnf) | (refine Exists.intro _ (And.intro rfl ?_); conv => whnf) | (refine And.intro (by first | omega | fail) ?_; conv => whnf) | fail)
       refine ok1_callP [] (f86 _ _ _ _ _ _ _ _) rfl rfl ⟨⟨rfl, by first | rfl | fail⟩, trivial, by first | rfl | fail, ?_⟩
       conv => whnf
       repeat (first | (refine Exists.intro _ (And.intro (sput_end (by first | rfl | (simp [hl, hwl]; done) | fail) rfl) ?_); conv => whnf) | (refine Exists.intro _ (And.intro rfl ?_); conv => whnf) | (refine And.intro (by first | omega | (simp; omega) | fail) ?_; conv => whnf) | (refine And.intro (by kernel_rfl) ?_; conv => whnf) | (refine And.intro ⟨by first | (simp [hl, hwl]; omega) | fail, by first | exact Nat.le_of_ble_eq_true rfl | fail, by first | (show _ * 4 ≤ _; omega) | fail⟩ ?_; conv => whnf) | fail)
       refine ⟨⟨i + 1 + 1, by omega⟩, by simp only; omega, ?_⟩
       refine Weak.sel [0, 1, 5] rfl rfl ?_ ?_ rfl rfl
       ·
        (repeat' (first | exact trivial | refine And.intro ?_ ?_ | fail)) <;> first | rfl | exact wk_i (by first | rfl | exact hp1.symm | fail) | exact wk_u8 (by first | exact hpw | fail) | fail
       ·
        (repeat' (first | exact trivial | refine And.intro ?_ ?_ | fail)) <;> first | rfl | exact ren_eq (by first | (simp; done) | fail) (by first | rfl | fail) | exact ren_app2 (by first | (simp; done) | fail) (by first | rfl | fail) rfl | exact ren_colapp (by omega) (kcol_xor hin hz h8) | fail
   ·
    obtain rfl : i = 60 - 1 := by simp at hc; omega
    conv => whnf
    refine ⟨[0, 1, 2], ?_, rfl, rfl, ?_, rfl⟩
    ·
     (repeat' (first | (refine wk_tup ?_) | (refine wk_cons ?_ ?_))) <;> first | rfl | fail
    ·
     (repeat' (first | exact trivial | refine And.intro ?_ ?_ | fail)) <;> first | rfl | exact ren_eq (by first | (simp; done) | fail) (by first | rfl | fail) | exact ren_app2 (by first | (simp; done) | fail) (by first | rfl | fail) rfl | fail
end Go.Sh
namespace Go.Sh
open Go.Proofs
set_option maxHeartbeats 8000000
theorem w6_p1 (n : Nat) (h : n ≤ 1000) : w64 ((n : Int) + 1) = ((n + 1 : Nat) : Int) := by simp only [w64_eq]; omega
def pow2 : Nat → UInt8
 | 0 => 1
 | k + 1 => 2 * pow2 k
theorem f83 (n : Nat) (h : n ≤ 1000) : SCall Try.prog 83 [.i n] [] (.u8 (pow2 n)) [] := by
 refine scall_of ttOk (by kernel_rfl : Try.prog.funcs[83]? = some Try.f83) rfl rfl rfl ?_
 refine sw_ok ttOk mixed (by kernel_rfl) ?_
 conv => whnf
 repeat (fail)
 refine loop_rule ttOk mixed (by kernel_rfl) (ι := { i : Nat // i ≤ n }) (fun i => [(0, .i n), (3, .u8 (pow2 i.1)), (4, .i (i.1 : Int))]) (fun _ => []) (fun _ => 0) (fun i => n - i.1) ⟨0, by omega⟩ ?_ ?_
 ·
  refine Weak.sel [] rfl rfl ?_ ?_ rfl rfl
  ·
   (repeat' (first | exact trivial | refine And.intro ?_ ?_)) <;> first | rfl
  ·
   (repeat' (first | exact trivial)) <;> fail
 ·
  rintro ⟨i, hi⟩
  dsimp only
  conv => whnf
  refine ⟨fun hc => ?_, fun hc => ?_⟩
  ·
   have hi2 : i < n := by simp at hc; omega
   have hp1 := w6_p1 i (by omega)
   conv => whnf
   refine ⟨⟨i + 1, by omega⟩, by simp only; omega, ?_⟩
   refine Weak.sel [] rfl rfl ?_ ?_ rfl rfl
   ·
    (repeat' (first | exact trivial | refine And.intro ?_ ?_)) <;> first | rfl | exact wk_i (by first | exact hp1.symm)
   ·
    (repeat' (first | exact trivial)) <;> fail
  ·
   obtain rfl : i = n := by simp at hc; omega
   conv => whnf
   refine ⟨[], ?_, rfl, rfl, ?_, rfl⟩
   ·
    (repeat' (fail)) <;> first | rfl
   ·
    (repeat' (first | exact trivial)) <;> fail
theorem quo8 {a c : UInt8} (h : c ≠ 0) : sarith .quo (.u8 a) (.u8 c) = some (.u8 (a / c)) := by simp [sarith, h]
theorem pow2_ne (n : Nat) (h : n ≤ 7) : pow2 n ≠ 0 := by
 have : n = 0 ∨ n = 1 ∨ n = 2 ∨ n = 3 ∨ n = 4 ∨ n = 5 ∨ n = 6 ∨ n = 7 := by omega
 rcases this with rfl | rfl | rfl | rfl | rfl | rfl | rfl | rfl <;> decide
theorem f82 (b : UInt8) (n : Nat) (h : n ≤ 7) : SCall Try.prog 82 [.u8 b, .i n] [] (.i ((b / pow2 n % 2).toNat : Int)) [] := by
 refine scall_of ttOk (by kernel_rfl : Try.prog.funcs[82]? = some Try.f82) rfl rfl rfl ?_
 refine sw_ok ttOk mixed (by kernel_rfl) ?_
 conv => whnf
 refine ok1_callP [] (f83 n (by omega)) rfl rfl ⟨⟨rfl, by first | rfl⟩, trivial, by first | rfl, ?_⟩
 conv => whnf
 refine ⟨_, quo8 (pow2_ne n h), ?_⟩
 conv => whnf
 repeat (first | (refine Exists.intro _ (And.intro rfl ?_); conv => whnf))
 refine ⟨[], ?_, rfl, rfl, ?_, rfl⟩
 ·
  (repeat' (fail)) <;> first | rfl
 ·
  (repeat' (first | exact trivial)) <;> fail
def tmSt : Nat → UInt8 → UInt8 → UInt8 → UInt8
 | 0, out, _, _ => out
 | k + 1, out, a, b => tmSt k (if b % 2 = 1 then out ^^^ a else out) (if a ≥ 128 then 2 * a ^^^ 27 else 2 * a) (b / 2)
theorem tmSt_zero : ∀ (k : Nat) (o a : UInt8), tmSt k o a 0 = o
 | 0, _, _ => rfl
 | k + 1, o, a => by
  show tmSt k (if (0 : UInt8) % 2 = 1 then o ^^^ a else o) _ (0 / 2) = o
  rw [if_neg (by decide)]
  exact tmSt_zero k o _
theorem half_lt (k : Nat) (b : UInt8) (h : b.toNat < 2 ^ (k + 1)) : (b / 2).toNat < 2 ^ k := by
 rw [UInt8.toNat_div]
 show b.toNat / 2 < 2 ^ k
 rw [Nat.pow_succ] at h
 omega
structure TmI (a b : UInt8) where
 k : Nat
 o : UInt8
 x : UInt8
 y : UInt8
 lt : y.toNat < 2 ^ k
 eq : tmSt k o x y = tmSt 8 0 a b
theorem f81 (a b : UInt8) : SCall Try.prog 81 [.u8 a, .u8 b] [] (.u8 (tmSt 8 0 a b)) [] := by
 refine scall_of ttOk (by kernel_rfl : Try.prog.funcs[81]? = some Try.f81) rfl rfl rfl ?_
 refine sw_ok ttOk mixed (by kernel_rfl) ?_
 conv => whnf
 refine loop_rule ttOk mixed (by kernel_rfl) (ι := TmI a b) (fun t => [(0, .u8 t.x), (1, .u8 t.y), (5, .u8 t.o)]) (fun _ => []) (fun _ => 0) (fun t => t.k) ⟨8, 0, a, b, UInt8.toNat_lt _, rfl⟩ ?_ ?_
 ·
  refine Weak.sel [] rfl rfl ?_ ?_ rfl rfl
  ·
   (repeat' (first | exact trivial | refine And.intro ?_ ?_)) <;> first | rfl
  ·
   (repeat' (first | exact trivial)) <;> fail
 ·
  rintro ⟨k, o, x, y, hlt, heq⟩
  dsimp only
  conv => whnf
  refine ⟨fun hc => ?_, fun hc => ?_⟩
  ·
   obtain ⟨k, rfl⟩ : ∃ j, k = j + 1 := by
    rcases k with _ | k
    ·
     exfalso
     have : y.toNat = 0 := by simpa using hlt
     have : y = 0 := UInt8.toNat_inj.mp this
     subst this
     revert hc; decide
    ·
     exact ⟨k, rfl⟩
   have hl2 := half_lt k y hlt
   have heq2 : tmSt k (if y % 2 = 1 then o ^^^ x else o) (if x ≥ 128 then 2 * x ^^^ 27 else 2 * x) (y / 2) = tmSt 8 0 a b := heq
   conv => whnf
   repeat (first | (refine Exists.intro _ (And.intro rfl ?_); conv => whnf))
   by_cases h1 : y % 2 = 1
   ·
    rw [if_pos h1] at heq2
    have hb : (y % 2 == 1) = true := by simp [h1]
    by_cases h2 : x ≥ 128
    ·
     rw [if_pos h2] at heq2
     have hx : decide (x ≥ 128) = true := by simp [h2]
     conv => whnf
     repeat (first | (refine gdT hb ?_; conv => whnf) | (refine gdT hx ?_; conv => whnf) | (refine Exists.intro _ (And.intro rfl ?_); conv => whnf))
     refine ⟨⟨k, o ^^^ x, 2 * x ^^^ 27, y / 2, hl2, heq2⟩, by simp, ?_⟩
     refine Weak.sel [] rfl rfl ?_ ?_ rfl rfl
     ·
      (repeat' (first | exact trivial | refine And.intro ?_ ?_)) <;> first | rfl
     ·
      (repeat' (first | exact trivial)) <;> fail
    ·
     rw [if_neg h2] at heq2
     have hx : decide (x ≥ 128) = false := by simp only [decide_eq_false_iff_not]; exact h2
     conv => whnf
     repeat (first | (refine gdT hb ?_; conv => whnf) | (refine gdF hx ?_; conv => whnf) | (refine Exists.intro _ (And.intro rfl ?_); conv => whnf))
     refine ⟨⟨k, o ^^^ x, 2 * x, y / 2, hl2, heq2⟩, by simp, ?_⟩
     refine Weak.sel [] rfl rfl ?_ ?_ rfl rfl
     ·
      (repeat' (first | exact trivial | refine And.intro ?_ ?_)) <;> first | rfl
     ·
      (repeat' (first | exact trivial)) <;> fail
   ·
    rw [if_neg h1] at heq2
    have hb : (y % 2 == 1) = false := by simp [h1]
    by_cases h2 : x ≥ 128
    ·
     rw [if_pos h2] at heq2
     have hx : decide (x ≥ 128) = true := by simp [h2]
     conv => whnf
     repeat (first | (refine gdF hb ?_; conv => whnf) | (refine gdT hx ?_; conv => whnf) | (refine Exists.intro _ (And.intro rfl ?_); conv => whnf))
     refine ⟨⟨k, o, 2 * x ^^^ 27, y / 2, hl2, heq2⟩, by simp, ?_⟩
     refine Weak.sel [] rfl rfl ?_ ?_ rfl rfl
     ·
      (repeat' (first | exact trivial | refine And.intro ?_ ?_)) <;> first | rfl
     ·
      (repeat' (first | exact trivial)) <;> fail
    ·
     rw [if_neg h2] at heq2
     have hx : decide (x ≥ 128) = false := by simp only [decide_eq_false_iff_not]; exact h2
     conv => whnf
     repeat (first | (refine gdF hb ?_; conv => whnf) | (refine gdF hx ?_; conv => whnf) | (refine Exists.intro _ (And.intro rfl ?_); conv => whnf))
     refine ⟨⟨k, o, 2 * x, y / 2, hl2, heq2⟩, by simp, ?_⟩
     refine Weak.sel [] rfl rfl ?_ ?_ rfl rfl
     ·
      (repeat' (first | exact trivial | refine And.intro ?_ ?_)) <;> first | rfl
     ·
      (repeat' (first | exact trivial)) <;> fail
  ·
   have : y = 0 := by
    apply UInt8.toNat_inj.mp
    simp at hc
    rw [hc]
   subst this
   rw [tmSt_zero] at heq
   subst heq
   conv => whnf
   refine ⟨[], ?_, rfl, rfl, ?_, rfl⟩
   ·
    (repeat' (fail)) <;> first | rfl
   ·
    (repeat' (first | exact trivial)) <;> fail
end Go.Sh
namespace Go.Sh
variable {α : Type}
def fil (n i : Nat) (f g : Nat → α) : List α := (List.range n).map (fun j => if j < i then f j else g j)
theorem fil_len (n i : Nat) (f g : Nat → α) : (fil n i f g).length = n := by simp [fil]
theorem fil_zero (n : Nat) (f : Nat → α) (z : α) : fil n 0 f (fun _ => z) = List.replicate n z := by
 apply List.ext_getElem?; intro j; by_cases h : j < n <;> simp [fil, h]
theorem fil_full (n : Nat) (f g : Nat → α) : fil n n f g = (List.range n).map f := by
 unfold fil; apply List.map_congr_left; intro j hj; rw [if_pos (by simpa using hj)]
theorem fil_getD {n i j : Nat} {f g : Nat → α} {d : α} (h : j < n) : (fil n i f g).getD j d = if j < i then f j else g j := by
 rw [List.getD_eq_getElem?_getD]; simp [fil, h]
theorem fil_set {n i : Nat} {f g : Nat → α} (h : i < n) : (fil n i f g).set i (f i) = fil n (i + 1) f g := by
 apply List.ext_getElem?; intro j
 rw [List.getElem?_set]
 by_cases hj : i = j
 ·
  subst hj; simp [fil, h]
 ·
  rw [if_neg hj]
  by_cases h2 : j < n
  ·
   simp only [fil, List.getElem?_map, List.getElem?_range h2, Option.map_some]
   by_cases h3 : j < i
   ·
    rw [if_pos h3, if_pos (by omega)]
   ·
    rw [if_neg h3, if_neg (by omega)]
  ·
   simp [fil, h2]
theorem fil_setx {n i : Nat} {f g : Nat → α} {x : α} (h : i < n) (hx : x = f i) : (fil n i f g).set i x = fil n (i + 1) f g := by subst hx; exact fil_set h
theorem fil_same {n i : Nat} {f g : Nat → α} {x : α} (h : i < n) (hx : x = g i) : (fil n i f g).set i x = fil n i f g := by
 apply List.ext_getElem?; intro j
 rw [List.getElem?_set]
 by_cases hj : i = j
 ·
  subst hj; subst hx; simp [fil, h]
 ·
  rw [if_neg hj]
theorem fil_of_list {n : Nat} {f : Nat → α} {l : List α} {d : α} (h : l.length = n) : fil n 0 f (fun j => l.getD j d) = l := by
 apply List.ext_getElem?; intro j
 by_cases h2 : j < n
 ·
  simp only [fil, List.getElem?_map, List.getElem?_range h2, Option.map_some, Nat.not_lt_zero, if_false]
  rw [List.getD_eq_getElem?_getD, List.getElem?_eq_getElem (by omega)]; rfl
 ·
  rw [List.getElem?_eq_none (by simp [fil_len]; omega), List.getElem?_eq_none (by omega)]
theorem rng_getD {n j : Nat} {f : Nat → α} {d : α} (h : j < n) : ((List.range n).map f).getD j d = f j := by
 rw [List.getD_eq_getElem?_getD]; simp [h]
theorem rng_len {n : Nat} {f : Nat → α} : ((List.range n).map f).length = n := by simp
theorem rng_succ {n : Nat} {f : Nat → α} : (List.range (n + 1)).map f = (List.range n).map f ++ [f n] := by rw [List.range_succ]; simp
theorem set_get_set {l : List UInt8} {i : Nat} {x c : UInt8} (h : i < l.length) : (l.set i x).set i ((l.set i x).getD i 0 + c) = l.set i (x + c) := by
 rw [List.getD_eq_getElem?_getD, List.getElem?_set]; simp [h]
theorem getD_app_l {l m : List α} {i : Nat} {d : α} (h : i < l.length) : (l ++ m).getD i d = l.getD i d := by
 rw [List.getD_eq_getElem?_getD, List.getD_eq_getElem?_getD, List.getElem?_append_left h]
theorem getD_app_r {l m : List α} {i j : Nat} {d : α} (h : i = l.length + j) : (l ++ m).getD i d = m.getD j d := by
 subst h; rw [List.getD_eq_getElem?_getD, List.getD_eq_getElem?_getD, List.getElem?_append_right (by omega)]; congr 2; omega
theorem ren_m8 {sel : List Nat} {l m : List UInt8} (h : l = m) : renL sel (l.map .u8) = some (m.map .u8) := by subst h; exact renL_plain sel (plainL_u8 l)
theorem ren_m32 {sel : List Nat} {l m : List UInt32} (h : l = m) : renL sel (l.map .u32) = some (m.map .u32) := by subst h; exact renL_plain sel (plainL_u32 l)
theorem ren_m64 {sel : List Nat} {l m : List UInt64} (h : l = m) : renL sel (l.map .u64) = some (m.map .u64) := by subst h; exact renL_plain sel (plainL_u64 l)
theorem ren_mi {sel : List Nat} {l m : List Int} (h : l = m) : renL sel (l.map .i) = some (m.map .i) := by subst h; exact renL_plain sel (plainL_i l)
theorem app1 {l : List UInt8} {n : Nat} {y : UInt8} (h : l.length = n) : List.take (n * 1) (List.drop 0 (l.map SV.u8)) ++ List.take (1 * 1) (List.drop 0 [SV.u8 y]) = (l ++ [y]).map SV.u8 := by
 rw [List.drop_zero, List.take_of_length_le (by simp; omega)]; simp
end Go.Sh
namespace Go.Sh
open Go.Proofs
set_option maxHeartbeats 8000000
theorem w9_at : ∀ i : Nat, i < 16 → ∀ q : Nat, q < 4 → w64 (w64 (w64 ((i : Int).tdiv 4) * 4) + (w64 ((i : Int) + (q : Int))).tmod 4) = ((i / 4 * 4 + (i + q) % 4 : Nat) : Int) := by decide
theorem w9_sh : ∀ i : Nat, i < 16 → (w64 ((i : Int) + w64 (4 * (i : Int).tmod 4))).tmod 16 = (((i + 4 * (i % 4)) % 16 : Nat) : Int) := by decide
theorem w9_16 (n i : Nat) (h : n ≤ 1000) (hi : i ≤ 16) : w64 (w64 (16 * (n : Int)) + (i : Int)) = ((16 * n + i : Nat) : Int) := by simp only [w64_eq]; omega
theorem w9_div (R : Nat) (h : R ≤ 1000) : w64 (((16 * (R + 1) : Nat) : Int).tdiv 16) = ((R + 1 : Nat) : Int) := by
 rw [Int.tdiv_eq_ediv_of_nonneg (by omega)]; simp only [w64_eq]; omega
theorem w9_sub (R : Nat) (h : R ≤ 1000) : w64 (((R + 1 : Nat) : Int) - 1) = (R : Int) := by simp only [w64_eq]; omega
def tB (s : List UInt8) (j : Nat) : UInt8 := sb (s.getD ((j + 4 * (j % 4)) % 16) 0)
def rB (last : Bool) (w : List UInt8) (n : Nat) (s : List UInt8) (j : Nat) : UInt8 :=
 (if last then tB s j else tmSt 8 0 (tB s j) 2 ^^^ tmSt 8 0 (tB s (j / 4 * 4 + (j + 1) % 4)) 3 ^^^ tB s (j / 4 * 4 + (j + 2) % 4) ^^^ tB s (j / 4 * 4 + (j + 3) % 4)) ^^^ w.getD (16 * n + j) 0
theorem tm_2 : ∀ x : UInt8, tmSt 8 0 x 2 = dbl x := by
 have h : ∀ n : Nat, n < 256 → tmSt 8 0 (UInt8.ofNat n) 2 = dbl (UInt8.ofNat n) := by decide +kernel
 intro x
 have := h x.toNat (UInt8.toNat_lt _)
 simpa using this
theorem tm_3 : ∀ x : UInt8, tmSt 8 0 x 3 = dbl x ^^^ x := by
 have h : ∀ n : Nat, n < 256 → tmSt 8 0 (UInt8.ofNat n) 3 = dbl (UInt8.ofNat n) ^^^ UInt8.ofNat n := by decide +kernel
 intro x
 have := h x.toNat (UInt8.toNat_lt _)
 simpa using this
theorem dbl_x : ∀ x y : UInt8, dbl (x ^^^ y) = dbl x ^^^ dbl y := by
 have h : ∀ n : Nat, n < 256 → ∀ m : Nat, m < 256 → dbl (UInt8.ofNat n ^^^ UInt8.ofNat m) = dbl (UInt8.ofNat n) ^^^ dbl (UInt8.ofNat m) := by decide +kernel
 intro x y
 have := h x.toNat (UInt8.toNat_lt _) y.toNat (UInt8.toNat_lt _)
 simpa using this
theorem xx (x y : UInt8) : x ^^^ (x ^^^ y) = y := by rw [← UInt8.xor_assoc, UInt8.xor_self, UInt8.zero_xor]
theorem xc (x y z : UInt8) : x ^^^ (y ^^^ z) = y ^^^ (x ^^^ z) := by rw [← UInt8.xor_assoc, UInt8.xor_comm x y, UInt8.xor_assoc]
theorem mix_one (a b c d : UInt8) : a ^^^ (a ^^^ b ^^^ c ^^^ d) ^^^ dbl (a ^^^ b) = tmSt 8 0 a 2 ^^^ tmSt 8 0 b 3 ^^^ c ^^^ d := by
 simp only [tm_2, tm_3, dbl_x, UInt8.xor_assoc, xx]
 ac_rfl
theorem wcol16 (w : List UInt8) (n i : Nat) : wcol w (4 * n + i) = [w.getD (16 * n + 4 * i) 0, w.getD (16 * n + (4 * i + 1)) 0, w.getD (16 * n + (4 * i + 2)) 0, w.getD (16 * n + (4 * i + 3)) 0] := by
 unfold wcol; rw [show 4 * (4 * n + i) = 16 * n + 4 * i by omega]; rfl
theorem rB_rnd (last : Bool) (w : List UInt8) (n : Nat) (s : List UInt8) (hs : s.length = 16) : (List.range 16).map (rB last w n s) = rnd last w n s := by
 obtain ⟨s0, s1, s2, s3, s4, s5, s6, s7, s8, s9, s10, s11, s12, s13, s14, s15, rfl⟩ := ex16 hs
 have hr : List.range 16 = [0, 1, 2, 3, 4, 5, 6, 7, 8, 9, 10, 11, 12, 13, 14, 15] := by decide
 rw [hr]
 cases last with
 | true =>
  simp only [List.map_cons, List.map_nil, rB, if_true, tB, rnd, rndC, movC, wcol16, xorL, List.cons_append, List.nil_append]
  try rfl
 | false =>
  simp only [rnd, rndC, movC, mixC, Bool.false_eq_true, if_false, wcol16, xorL, mix_one]
  have e1 : ∀ c d a b : UInt8, c ^^^ (a ^^^ b ^^^ c ^^^ d) ^^^ dbl (c ^^^ d) = tmSt 8 0 c 2 ^^^ tmSt 8 0 d 3 ^^^ a ^^^ b := fun c d a b => by
   rw [show a ^^^ b ^^^ c ^^^ d = c ^^^ d ^^^ a ^^^ b by ac_rfl]; exact mix_one c d a b
  have e2 : ∀ b c d a : UInt8, b ^^^ (a ^^^ b ^^^ c ^^^ d) ^^^ dbl (b ^^^ c) = tmSt 8 0 b 2 ^^^ tmSt 8 0 c 3 ^^^ d ^^^ a := fun b c d a => by
   rw [show a ^^^ b ^^^ c ^^^ d = b ^^^ c ^^^ d ^^^ a by ac_rfl]; exact mix_one b c d a
  have e3 : ∀ d a b c : UInt8, d ^^^ (a ^^^ b ^^^ c ^^^ d) ^^^ dbl (d ^^^ a) = tmSt 8 0 d 2 ^^^ tmSt 8 0 a 3 ^^^ b ^^^ c := fun d a b c => by
   rw [show a ^^^ b ^^^ c ^^^ d = d ^^^ a ^^^ b ^^^ c by ac_rfl]; exact mix_one d a b c
  simp only [e1, e2, e3, List.map_cons, List.map_nil, rB, Bool.false_eq_true, if_false, tB, List.cons_append, List.nil_append]
  try rfl
theorem sealSt_0 (w : List UInt8) (R : Nat) (b : List UInt8) (hb : b.length = 16) : (List.range 16).map (fun j => b.getD j 0 ^^^ w.getD j 0) = sealSt w R b 0 := by
 obtain ⟨s0, s1, s2, s3, s4, s5, s6, s7, s8, s9, s10, s11, s12, s13, s14, s15, rfl⟩ := ex16 hb
 rfl
end Go.Sh
namespace Go.Sh
open Go.Proofs
set_option maxHeartbeats 8000000
theorem f49 (fb fw fk : Bool) (w block : List UInt8) (R : Nat) (hw : w.length = 16 * (R + 1)) (hR1 : 1 ≤ R) (hR2 : R ≤ 20) (hb : block.length = 16) :
  SCall Try.prog 49 [.sl 0 0 256 1 fb, .sl 1 0 (16 * (R + 1)) 1 fw, .sl 2 0 16 1 fk] [some (.ro (sbx.map .u8)), some (.ro (w.map .u8)), some (.ro (block.map .u8))]
   (.sl 3 0 16 1 true) [some (.ro (sbx.map .u8)), some (.ro (w.map .u8)), some (.ro (block.map .u8)), some (.row 5 ((sealSt w R block R).map .u8))] := by
 have hl := sbx_len
 obtain ⟨nw, hnw⟩ : ∃ nw, nw = 16 * (R + 1) := ⟨_, rfl⟩
 have hd := w9_div R (by omega)
 have hsb := w9_sub R (by omega)
 rw [← hnw] at hd hw
 rw [← hnw]
 have hnR : w64 (w64 ((nw : Int).tdiv 16) - 1) = (R : Int) := by rw [hd]; exact hsb
 refine scall_of ttOk (by kernel_rfl : Try.prog.funcs[49]? = some Try.f49) rfl rfl rfl ?_
 refine sw_ok ttOk mixed (by kernel_rfl) ?_
 conv => whnf
 repeat (first | (refine Exists.intro _ (And.intro rfl ?_); conv => whnf) | (refine And.intro ⟨by first | omega | fail, by first | decide | fail⟩ ?_; conv => whnf) | fail)
 refine loop_rule ttOk mixed (by kernel_rfl) (ι := { i : Nat // i ≤ 16 }) (fun i => [(0, .sl 0 0 256 1 fb), (1, .sl 1 0 nw 1 fw), (2, .sl 2 0 16 1 fk), (7, .i (R : Int)), (8, .sl 3 0 16 1 true), (9, .i (i.1 : Int))]) (fun i => [some (.ro (sbx.map .u8)), some (.ro (w.map .u8)), some (.ro (block.map .u8)), some (.row 5 ((fil 16 i.1 (fun j => block.getD j 0 ^^^ w.getD j 0) (fun _ => 0)).map .u8))]) (fun _ => 4) (fun i => 16 - i.1) ⟨0, by omega⟩ ?_ ?_
 ·
  have hz : fil 16 0 (fun j => block.getD j 0 ^^^ w.getD j 0) (fun _ => (0 : UInt8)) = List.replicate 16 0 := fil_zero ..
  refine Weak.sel [0, 1, 2, 3] rfl rfl ?_ ?_ rfl rfl
  ·
   (repeat' (first | exact trivial | refine And.intro ?_ ?_ | fail)) <;> first | rfl | exact wk_i (by first | exact hnR.symm | fail) | fail
  ·
   (repeat' (first | exact trivial | refine And.intro ?_ ?_ | (refine wk_cons ?_ ?_))) <;> first | rfl | exact ren_eq (by first | (simp; done) | fail) (by first | rfl | fail) | fail
 ·
  rintro ⟨i, hi⟩
  have hf := fil_len 16 i (fun j => block.getD j 0 ^^^ w.getD j 0) (fun _ => (0 : UInt8))
  dsimp only
  by_cases hi2 : i < 16
  ·
   have hlt : decide ((i : Int) < 16) = true := by simp; omega
   have hp1 := w6_p1 i (by omega)
   have hs := fil_set (f := fun j => block.getD j 0 ^^^ w.getD j 0) (g := fun _ => (0 : UInt8)) hi2
   conv => whnf
   first | refine brT (by exact hlt) ?_ | fail
   conv => whnf
   repeat (first | (refine Exists.intro _ (And.intro (sput_m8 (i := i) (by first | rfl | omega | fail)) ?_); conv => whnf) | (refine Exists.intro _ (And.intro (sload_u8 (i := i) (by first | rfl | omega | fail) (by first | omega | fail)) ?_); conv => whnf) | (refine Exists.intro _ (And.intro (idx_i (m := i) (by first | rfl | fail)) ?_); conv => whnf) | (refine And.intro (by first | omega | fail) ?_; conv => whnf) | (refine And.intro (by kernel_rfl) ?_; conv => whnf) | (refine And.intro ⟨by first | exact @rfl Nat _ | fail, by first | (simp only [hf, ti5, List.length_map]; omega) | fail⟩ ?_; conv => whnf) | fail)
   refine ⟨⟨i + 1, by omega⟩, by simp only; omega, ?_⟩
   refine Weak.sel [0, 1, 2, 3] rfl rfl ?_ ?_ rfl rfl
   ·
    (repeat' (first | exact trivial | refine And.intro ?_ ?_ | fail)) <;> first | rfl | exact wk_i (by first | exact hp1.symm | fail) | fail
   ·
    (repeat' (first | exact trivial | refine And.intro ?_ ?_ | fail)) <;> first | exact ren_m8 (by first | exact hs | exact hs.symm | fail) | rfl | exact ren_eq (by first | (simp; done) | fail) (by first | rfl | fail) | fail
  ·
   obtain rfl : i = 16 := by omega
   conv => whnf
   first | refine brF (by rfl) ?_ | fail
   conv => whnf
   repeat (fail)
   refine loop_rule ttOk mixed (by kernel_rfl) (ι := { n : Nat // 1 ≤ n ∧ n ≤ R + 1 }) (fun n => [(0, .sl 0 0 256 1 fb), (1, .sl 1 0 nw 1 fw), (7, .i (R : Int)), (8, .sl 3 0 16 1 true), (10, .i (n.1 : Int))]) (fun n => [some (.ro (sbx.map .u8)), some (.ro (w.map .u8)), some (.ro (block.map .u8)), some (.row 5 ((sealSt w R block (n.1 - 1)).map .u8))]) (fun _ => 4) (fun n => R + 1 - n.1) ⟨1, by omega⟩ ?_ ?_
   ·
    have h0 : fil 16 16 (fun j => block.getD j 0 ^^^ w.getD j 0) (fun _ => (0 : UInt8)) = sealSt w R block (1 - 1) := by rw [fil_full]; exact sealSt_0 w R block hb
    refine Weak.sel [0, 1, 2, 3] rfl rfl ?_ ?_ rfl rfl
    ·
     (repeat' (first | exact trivial | refine And.intro ?_ ?_ | fail)) <;> first | rfl | fail
    ·
     (repeat' (first | exact trivial | refine And.intro ?_ ?_ | fail)) <;> first | exact ren_m8 (by first | exact h0 | exact h0.symm | fail) | rfl | exact ren_eq (by first | (simp; done) | fail) (by first | rfl | fail) | fail
   ·
    rintro ⟨n, hn1, hn2⟩
    have hsl := sealSt_len w R block hb (n - 1)
    have hnx : n ≤ R → rnd (decide (n = R)) w n (sealSt w R block (n - 1)) = sealSt w R block (n + 1 - 1) := fun h => by
     obtain ⟨m, rfl⟩ : ∃ m, n = m + 1 := ⟨n - 1, by omega⟩
     rfl
    obtain ⟨s, hs⟩ : ∃ s, s = sealSt w R block (n - 1) := ⟨_, rfl⟩
    dsimp only
    rw [← hs] at hsl hnx ⊢
    by_cases hn : n ≤ R
    ·
     have hle : decide ((n : Int) ≤ (R : Int)) = true := by simp; omega
     conv => whnf
     first | refine brT (by exact hle) ?_ | fail
     conv => whnf
     repeat (first | (refine And.intro ⟨by first | omega | fail, by first | decide | fail⟩ ?_; conv => whnf) | fail)
     refine loop_rule ttOk mixed (by kernel_rfl) (ι := { i : Nat // i ≤ 16 }) (fun i => [(0, .sl 0 0 256 1 fb), (1, .sl 1 0 nw 1 fw), (7, .i (R : Int)), (8, .sl 3 0 16 1 true), (10, .i (n : Int)), (11, .sl 4 0 16 1 true), (12, .i (i.1 : Int))]) (fun i => [some (.ro (sbx.map .u8)), some (.ro (w.map .u8)), some (.ro (block.map .u8)), some (.row 5 (s.map .u8)), some (.row 5 ((fil 16 i.1 (tB s) (fun _ => 0)).map .u8))]) (fun _ => 5) (fun i => 16 - i.1) ⟨0, by omega⟩ ?_ ?_
     ·
      have hz : fil 16 0 (tB s) (fun _ => (0 : UInt8)) = List.replicate 16 0 := fil_zero ..
      refine Weak.sel [0, 1, 2, 3, 4] rfl rfl ?_ ?_ rfl rfl
      ·
       (repeat' (first | exact trivial | refine And.intro ?_ ?_ | fail)) <;> first | rfl | fail
      ·
       (repeat' (first | exact trivial | refine And.intro ?_ ?_ | (refine wk_cons ?_ ?_))) <;> first | rfl | exact ren_eq (by first | (simp; done) | fail) (by first | rfl | fail) | fail
     ·
      rintro ⟨i, hi⟩
      have hf := fil_len 16 i (tB s) (fun _ => (0 : UInt8))
      dsimp only
      by_cases hi2 : i < 16
      ·
       have hlt : decide ((i : Int) < 16) = true := by simp; omega
       have hp1 := w6_p1 i (by omega)
       have hsh := w9_sh i hi2
       have hst := fil_set (f := tB s) (g := fun _ => (0 : UInt8)) hi2
       have hx : (s.getD ((i + 4 * (i % 4)) % 16) 0).toNat < 256 := UInt8.toNat_lt _
       conv => whnf
       first | refine brT (by exact hlt) ?_ | fail
       conv => whnf
       repeat (first | (refine Exists.intro _ (And.intro (sload_u8 (i := (i + 4 * (i % 4)) % 16) (by first | rfl | omega | fail) (by first | omega | fail)) ?_); conv => whnf) | (refine Exists.intro _ (And.intro (idx_i (m := (i + 4 * (i % 4)) % 16) (by first | rfl | omega | fail)) ?_); conv => whnf) | (refine Exists.intro _ (And.intro (sload_u8 (i := (s.getD ((i + 4 * (i % 4)) % 16) 0).toNat) (by first | rfl | omega | fail) (by first | omega | fail)) ?_); conv => whnf) | (refine Exists.intro _ (And.intro (sput_m8 (i := i) (by first | rfl | omega | fail)) ?_); conv => whnf) | (refine Exists.intro _ (And.intro (idx_i (m := i) (by first | rfl | fail)) ?_); conv => whnf) | (refine Exists.intro _ (And.intro rfl ?_); conv => whnf) | (refine And.intro (by first | omega | (simp; omega) | fail) ?_; conv => whnf) | fail)
       refine ⟨⟨i + 1, by omega⟩, by simp only; omega, ?_⟩
       refine Weak.sel [0, 1, 2, 3, 4] rfl rfl ?_ ?_ rfl rfl
       ·
        (repeat' (first | exact trivial | refine And.intro ?_ ?_ | fail)) <;> first | rfl | exact wk_i (by first | exact hp1.symm | fail) | fail
       ·
        (repeat' (first | exact trivial | refine And.intro ?_ ?_ | fail)) <;> first | exact ren_m8 (by first | exact hst | exact hst.symm | fail) | rfl | exact ren_eq (by first | (simp; done) | fail) (by first | rfl | fail) | fail
      ·
       obtain rfl : i = 16 := by omega
       conv => whnf
       first | refine brF (by rfl) ?_ | fail
       conv => whnf
       repeat (fail)
       have ht : fil 16 16 (tB s) (fun _ => (0 : UInt8)) = (List.range 16).map (tB s) := fil_full ..
       obtain ⟨t, htt⟩ : ∃ t, t = fil 16 16 (tB s) (fun _ => (0 : UInt8)) := ⟨_, rfl⟩
       have htl : t.length = 16 := by rw [htt]; exact fil_len ..
       have htg : ∀ j, j < 16 → t.getD j 0 = tB s j := fun j hj => by rw [htt, ht]; exact rng_getD hj
       rw [← htt]
       have hR : decide (n = R) = !decide (n < R) := by by_cases h : n < R <;> simp [h] <;> omega
       refine loop_rule ttOk mixed (by kernel_rfl) (ι := { i : Nat // i ≤ 16 }) (fun i => [(0, .sl 0 0 256 1 fb), (1, .sl 1 0 nw 1 fw), (7, .i (R : Int)), (8, .sl 3 0 16 1 true), (10, .i (n : Int)), (11, .sl 4 0 16 1 true), (13, .i (i.1 : Int))]) (fun i => [some (.ro (sbx.map .u8)), some (.ro (w.map .u8)), some (.ro (block.map .u8)), some (.row 5 ((fil 16 i.1 (rB (decide (n = R)) w n s) (fun j => s.getD j 0)).map .u8)), some (.row 5 (t.map .u8))]) (fun _ => 5) (fun i => 16 - i.1) ⟨0, by omega⟩ ?_ ?_
       ·
        have hz : fil 16 0 (rB (decide (n = R)) w n s) (fun j => s.getD j 0) = s := fil_of_list hsl
        refine Weak.sel [0, 1, 2, 3, 4] rfl rfl ?_ ?_ rfl rfl
        ·
         (repeat' (first | exact trivial | refine And.intro ?_ ?_ | fail)) <;> first | rfl | fail
        ·
         (repeat' (first | exact trivial | refine And.intro ?_ ?_ | fail)) <;> first | exact ren_m8 (by first | exact hz | fail) | rfl | exact ren_eq (by first | (simp; done) | fail) (by first | rfl | fail) | fail
       ·
        rintro ⟨i, hi⟩
        have hf := fil_len 16 i (rB (decide (n = R)) w n s) (fun j => s.getD j 0)
        dsimp only
        by_cases hi2 : i < 16
        ·
         have hlt : decide ((i : Int) < 16) = true := by simp; omega
         have hp1 := w6_p1 i (by omega)
         have ha1 := w9_at i hi2 1 (by omega)
         have ha2 := w9_at i hi2 2 (by omega)
         have ha3 := w9_at i hi2 3 (by omega)
         have h16 := w9_16 n i (by omega) (by omega)
         by_cases hlast : n < R
         ·
          have hlr : decide ((n : Int) < (R : Int)) = true := by simp; omega
          have hrb : (tmSt 8 0 (t.getD i 0) 2 ^^^ tmSt 8 0 (t.getD (i / 4 * 4 + (i + 1) % 4) 0) 3 ^^^ t.getD (i / 4 * 4 + (i + 2) % 4) 0 ^^^ t.getD (i / 4 * 4 + (i + 3) % 4) 0) ^^^ w.getD (16 * n + i) 0 = rB (decide (n = R)) w n s i := by
           unfold rB
           rw [hR, show decide (n < R) = true by simp; omega]
           simp only [Bool.not_true, Bool.not_false, Bool.false_eq_true, if_false, if_true]
           first | rw [htg i hi2, htg _ (by omega), htg _ (by omega), htg _ (by omega)] | fail
          have hst := fil_setx (f := rB (decide (n = R)) w n s) (g := fun j => s.getD j 0) hi2 hrb
          conv => whnf
          first | refine brT (by exact hlt) ?_ | fail
          conv => whnf
          repeat (first | (refine Exists.intro _ (And.intro (sload_u8 (i := i) (by first | rfl | omega | fail) (by first | omega | fail)) ?_); conv => whnf) | (refine Exists.intro _ (And.intro (idx_i (m := i) (by first | rfl | fail)) ?_); conv => whnf) | (refine Exists.intro _ (And.intro (sload_u8 (i := i / 4 * 4 + (i + 1) % 4) (by first | rfl | omega | fail) (by first | omega | fail)) ?_); conv => whnf) | (refine Exists.intro _ (And.intro (idx_i (m := i / 4 * 4 + (i + 1) % 4) (by first | rfl | omega | fail)) ?_); conv => whnf) | (refine Exists.intro _ (And.intro (sload_u8 (i := i / 4 * 4 + (i + 2) % 4) (by first | rfl | omega | fail) (by first | omega | fail)) ?_); conv => whnf) | (refine Exists.intro _ (And.intro (idx_i (m := i / 4 * 4 + (i + 2) % 4) (by first | rfl | omega | fail)) ?_); conv => whnf) | (refine Exists.intro _ (And.intro (sload_u8 (i := i / 4 * 4 + (i + 3) % 4) (by first | rfl | omega | fail) (by first | omega | fail)) ?_); conv => whnf) | (refine Exists.intro _ (And.intro (idx_i (m := i / 4 * 4 + (i + 3) % 4) (by first | rfl | omega | fail)) ?_); conv => whnf) | (refine Exists.intro _ (And.intro rfl ?_); conv => whnf) | (refine And.intro (by first | omega | fail) ?_; conv => whnf) | (refine And.intro (by kernel_rfl) ?_; conv => whnf) | fail)
          first | refine brT (by exact hlr) ?_ | fail
          conv => whnf
          refine ok1_callP [] (f81 (t.getD i 0) 2) rfl rfl ⟨⟨rfl, by first | rfl | fail⟩, trivial, by first | rfl | fail, ?_⟩
          conv => whnf
          repeat (fail)
          refine ok1_callP [] (f81 (t.getD (i / 4 * 4 + (i + 1) % 4) 0) 3) rfl rfl ⟨⟨rfl, by first | rfl | fail⟩, trivial, by first | rfl | fail, ?_⟩
          conv => whnf
          repeat (first | (refine Exists.intro _ (And.intro (sput_m8 (i := i) (by first | rfl | omega | fail)) ?_); conv => whnf) | (refine Exists.intro _ (And.intro (idx_i (m := i) (by first | rfl | fail)) ?_); conv => whnf) | (refine Exists.intro _ (And.intro (sload_u8 (i := 16 * n + i) (by first | rfl | omega | fail) (by first | omega | fail)) ?_); conv => whnf) | (refine Exists.intro _ (And.intro (idx_i (m := 16 * n + i) (by first | rfl | omega | fail)) ?_); conv => whnf) | (refine And.intro (by first | omega | fail) ?_; conv => whnf) | (refine And.intro ⟨by first | exact @rfl Nat _ | fail, by first | (simp only [hf, hw, ti5, List.length_map]; omega) | fail⟩ ?_; conv => whnf) | fail)
          refine ⟨⟨i + 1, by omega⟩, by simp only; omega, ?_⟩
          refine Weak.sel [0, 1, 2, 3, 4] rfl rfl ?_ ?_ rfl rfl
          ·
           (repeat' (first | exact trivial | refine And.intro ?_ ?_ | fail)) <;> first | rfl | exact wk_i (by first | exact hp1.symm | fail) | fail
          ·
           (repeat' (first | exact trivial | refine And.intro ?_ ?_ | fail)) <;> first | exact ren_m8 (by first | exact hst | exact hst.symm | fail) | rfl | exact ren_eq (by first | (simp; done) | fail) (by first | rfl | fail) | fail
         ·
          have hlr : decide ((n : Int) < (R : Int)) = false := by simp; omega
          have hrb : (t.getD i 0) ^^^ w.getD (16 * n + i) 0 = rB (decide (n = R)) w n s i := by
           unfold rB
           rw [hR, show decide (n < R) = false by simp; omega]
           simp only [Bool.not_true, Bool.not_false, Bool.false_eq_true, if_false, if_true]
           first | rw [htg i hi2]
          have hst := fil_setx (f := rB (decide (n = R)) w n s) (g := fun j => s.getD j 0) hi2 hrb
          conv => whnf
          first | refine brT (by exact hlt) ?_ | fail
          conv => whnf
          repeat (first | (refine Exists.intro _ (And.intro (sload_u8 (i := i) (by first | rfl | omega | fail) (by first | omega | fail)) ?_); conv => whnf) | (refine Exists.intro _ (And.intro (idx_i (m := i) (by first | rfl | fail)) ?_); conv => whnf) | (refine Exists.intro _ (And.intro (sload_u8 (i := i / 4 * 4 + (i + 1) % 4) (by first | rfl | omega | fail) (by first | omega | fail)) ?_); conv => whnf) | (refine Exists.intro _ (And.intro (idx_i (m := i / 4 * 4 + (i + 1) % 4) (by first | rfl | omega | fail)) ?_); conv => whnf) | (refine Exists.intro _ (And.intro (sload_u8 (i := i / 4 * 4 + (i + 2) % 4) (by first | rfl | omega | fail) (by first | omega | fail)) ?_); conv => whnf) | (refine Exists.intro _ (And.intro (idx_i (m := i / 4 * 4 + (i + 2) % 4) (by first | rfl | omega | fail)) ?_); conv => whnf) | (refine Exists.intro _ (And.intro (sload_u8 (i := i / 4 * 4 + (i + 3) % 4) (by first | rfl | omega | fail) (by first | omega | fail)) ?_); conv => whnf) | (refine Exists.intro _ (And.intro (idx_i (m := i / 4 * 4 + (i + 3) % 4) (by first | rfl | omega | fail)) ?_); conv => whnf) | (refine Exists.intro _ (And.intro rfl ?_); conv => whnf) | (refine And.intro (by first | omega | (simp; omega) | fail) ?_; conv => whnf) | (refine And.intro (by kernel_rfl) ?_; conv => whnf) | fail)
          first | intro _
          conv => whnf
          repeat (first | (refine Exists.intro _ (And.intro (sput_m8 (i := i) (by first | rfl | omega | fail)) ?_); conv => whnf) | (refine Exists.intro _ (And.intro (idx_i (m := i) (by first | rfl | fail)) ?_); conv => whnf) | (refine Exists.intro _ (And.intro (sload_u8 (i := 16 * n + i) (by first | rfl | omega | fail) (by first | omega | fail)) ?_); conv => whnf) | (refine Exists.intro _ (And.intro (idx_i (m := 16 * n + i) (by first | rfl | omega | fail)) ?_); conv => whnf) | (refine And.intro (by first | omega | fail) ?_; conv => whnf) | (refine And.intro ⟨by first | exact @rfl Nat _ | fail, by first | (simp only [hf, hw, ti5, List.length_map]; omega) | fail⟩ ?_; conv => whnf) | fail)
          refine ⟨⟨i + 1, by omega⟩, by simp only; omega, ?_⟩
          refine Weak.sel [0, 1, 2, 3, 4] rfl rfl ?_ ?_ rfl rfl
          ·
           (repeat' (first | exact trivial | refine And.intro ?_ ?_ | fail)) <;> first | rfl | exact wk_i (by first | exact hp1.symm | fail) | fail
          ·
           (repeat' (first | exact trivial | refine And.intro ?_ ?_ | fail)) <;> first | exact ren_m8 (by first | exact hst | exact hst.symm | fail) | rfl | exact ren_eq (by first | (simp; done) | fail) (by first | rfl | fail) | fail
        ·
         obtain rfl : i = 16 := by omega
         have hfin : fil 16 16 (rB (decide (n = R)) w n s) (fun j => s.getD j 0) = sealSt w R block (n + 1 - 1) := by rw [fil_full, rB_rnd _ _ _ _ hsl]; exact hnx hn
         have hp1 := w6_p1 n (by omega)
         conv => whnf
         first | refine brF (by rfl) ?_ | fail
         conv => whnf
         repeat (fail)
         refine ⟨⟨n + 1, by omega, by omega⟩, by simp only; omega, ?_⟩
         refine Weak.sel [0, 1, 2, 3] rfl rfl ?_ ?_ rfl rfl
         ·
          (repeat' (first | exact trivial | refine And.intro ?_ ?_ | fail)) <;> first | rfl | exact wk_i (by first | exact hp1.symm | fail) | fail
         ·
          (repeat' (first | exact trivial | refine And.intro ?_ ?_ | fail)) <;> first | exact ren_m8 (by first | exact hfin | exact hfin.symm | fail) | rfl | exact ren_eq (by first | (simp; done) | fail) (by first | rfl | fail) | fail
    ·
     obtain rfl : n = R + 1 := by omega
     have hle : decide (((R + 1 : Nat) : Int) ≤ (R : Int)) = false := by simp; omega
     have hs2 : s = sealSt w R block R := hs
     conv => whnf
     first | refine brF (by exact hle) ?_ | fail
     conv => whnf
     repeat (fail)
     refine ⟨[0, 1, 2, 3], ?_, rfl, rfl, ?_, rfl⟩
     ·
      (repeat' (fail)) <;> first | rfl | fail
     ·
      (repeat' (first | exact trivial | refine And.intro ?_ ?_ | fail)) <;> first | exact ren_m8 (by first | exact hs2 | exact hs2.symm | fail) | rfl | exact ren_eq (by first | (simp; done) | fail) (by first | rfl | fail) | fail
end Go.Sh
namespace Go.Sh
open Go.Proofs
set_option maxHeartbeats 8000000
theorem app_one {l : List UInt8} {n : Nat} {y : UInt8} (h : l.length = n) : List.take (n * 1) (List.drop 0 (l.map SV.u8)) ++ List.take (1 * 1) (List.drop 0 [SV.u8 y]) = (l ++ [y]).map SV.u8 := by
 rw [List.drop_zero, List.take_of_length_le (by simp; omega)]; simp
def tK (key : List UInt8) (n i : Nat) : List UInt8 :=
 if i % n = 0 then rotC (pwN ((i - 1) / n)) (colN (wSt key n i) (i - 1)) else if n = 8 ∧ i % n = 4 then subC (colN (wSt key n i) (i - 1)) else colN (wSt key n i) (i - 1)
theorem tK_len (key : List UInt8) (n i : Nat) : (tK key n i).length = 4 := by
 unfold tK
 split
 ·
  rfl
 ·
  split <;> rfl
def xK (key : List UInt8) (n i : Nat) (k : Nat) : UInt8 := (tK key n i).getD k 0 ^^^ (wSt key n i).getD (4 * (i - n) + k) 0
def wK (key : List UInt8) (n i k : Nat) : List UInt8 := wSt key n i ++ (List.range k).map (xK key n i)
theorem wK_len (key : List UInt8) (n i k : Nat) : (wK key n i k).length = 4 * i + k := by unfold wK; rw [List.length_append, wSt_len, rng_len]
theorem wK_s (key : List UInt8) (n i k : Nat) : wK key n i k ++ [xK key n i k] = wK key n i (k + 1) := by unfold wK; rw [rng_succ, List.append_assoc]
theorem wK_4 (key : List UInt8) (n i : Nat) (h : n ≤ i) : wK key n i 4 = wSt key n (i + 1) := by
 rw [wSt_s]
 unfold wK kcol
 rw [if_neg (by omega)]
 have : (List.range 4).map (xK key n i) = xor4 (tK key n i) (colN (wSt key n i) (i - n)) := by
  have ht := tK_len key n i
  obtain ⟨a, b, c, d, h4⟩ := ex4 ht
  have hr : List.range 4 = [0, 1, 2, 3] := by decide
  rw [hr]
  simp only [List.map_cons, List.map_nil, xK, h4, xor4, colN]
  rfl
 rw [this]
 rfl
theorem wK_getD (key : List UInt8) (n i k j : Nat) (h : j < 4 * i) : (wK key n i k).getD j 0 = (wSt key n i).getD j 0 := by
 unfold wK; rw [getD_app_l]; rw [wSt_len]; exact h
theorem colN_key (key : List UInt8) (i : Nat) (h : 4 * i + 4 ≤ key.length) : key.take (4 * i) ++ colN key i = key.take (4 * (i + 1)) := by
 apply List.ext_getElem?
 intro j
 by_cases h1 : j < 4 * i
 ·
  rw [List.getElem?_append_left (by simp; omega), List.getElem?_take_of_lt h1, List.getElem?_take_of_lt (by omega)]
 ·
  rw [List.getElem?_append_right (by simp; omega)]
  have hl : (key.take (4 * i)).length = 4 * i := by simp; omega
  rw [hl]
  by_cases h2 : j < 4 * (i + 1)
  ·
   rw [List.getElem?_take_of_lt h2]
   have : j = 4 * i + 0 ∨ j = 4 * i + 1 ∨ j = 4 * i + 2 ∨ j = 4 * i + 3 := by omega
   have e : ∀ q, q < 4 → key[4 * i + q]? = some (key.getD (4 * i + q) 0) := fun q hq => by
    rw [List.getD_eq_getElem?_getD, List.getElem?_eq_getElem (by omega)]; rfl
   rcases this with rfl | rfl | rfl | rfl
   ·
    rw [e 0 (by omega), show 4 * i + 0 - 4 * i = 0 by omega]; rfl
   ·
    rw [e 1 (by omega), show 4 * i + 1 - 4 * i = 1 by omega]; rfl
   ·
    rw [e 2 (by omega), show 4 * i + 2 - 4 * i = 2 by omega]; rfl
   ·
    rw [e 3 (by omega), show 4 * i + 3 - 4 * i = 3 by omega]; rfl
  ·
   rw [List.getElem?_eq_none (by simp [colN]; omega), List.getElem?_eq_none (by simp; omega)]
theorem wSt_key (key : List UInt8) (n : Nat) (h : key.length = 4 * n) : ∀ i, i ≤ n → wSt key n i = key.take (4 * i)
 | 0, _ => by rw [wSt_z]; rfl
 | i + 1, hi => by
  rw [wSt_s, wSt_key key n h i (by omega)]
  unfold kcol
  rw [if_pos (by omega)]
  exact colN_key key i (by omega)
theorem wSt_key' (key : List UInt8) (n : Nat) (h : key.length = 4 * n) : wSt key n n = key := by
 rw [wSt_key key n h n (Nat.le_refl _), ← h, List.take_length]
theorem cut_col {l : List UInt8} {a b : Nat} (i : Nat) (ha : a = 4 * i) (hb : b = 4) (h : 4 * i + 4 ≤ l.length) : List.take b (List.drop a (l.map SV.u8)) = (colN l i).map SV.u8 := by
 subst ha; subst hb
 have := sload_col (l := l) (k := 4 * i) rfl h
 simp only [sload, if_true] at this
 rw [if_pos (by simpa using h)] at this
 simp only [Option.some.injEq, SV.agg.injEq] at this
 rw [this]; rfl
theorem w10_4 (i n k : Nat) (h : i ≤ 1000) (hn : n ≤ i) (hk : k ≤ 4) : w64 (w64 (4 * w64 ((i : Int) - (n : Int))) + (k : Int)) = ((4 * (i - n) + k : Nat) : Int) := by simp only [w64_eq]; omega
theorem w10_44 (i : Nat) (h : i ≤ 1000) (hn : 1 ≤ i) : w64 (w64 (4 * (i : Int)) - 4) = ((4 * i - 4 : Nat) : Int) := by simp only [w64_eq]; omega
theorem f50_4 (fb fk : Bool) (key : List UInt8) (hk : key.length = 16) : SCall Try.prog 50 [.sl 0 0 256 1 fb, .sl 1 0 16 1 fk] [some (.ro (sbx.map .u8)), some (.ro (key.map .u8))] (.sl 2 0 (4 * 44) 1 false) [some (.ro (sbx.map .u8)), some (.ro (key.map .u8)), some (.row 5 ((wSt key 4 44).map .u8))] := by
 have hl := sbx_len
 refine scall_of ttOk (by kernel_rfl : Try.prog.funcs[50]? = some Try.f50) rfl rfl rfl ?_
 refine sw_ok ttOk mixed (by kernel_rfl) ?_
 conv => whnf
 repeat (first | (refine Exists.intro _ (And.intro rfl ?_); conv => whnf) | (refine And.intro (by first | omega | (simp [ti5]; omega)) ?_; conv => whnf) | fail)
 refine loop_rule ttOk mixed (by kernel_rfl) (ι := { i : Nat // 4 ≤ i ∧ i ≤ 44 }) (fun i => [(0, .sl 0 0 256 1 fb), (1, .sl 1 0 16 1 fk), (5, .i 4), (6, .sl 2 0 (4 * i.1) 1 false), (7, .u8 (pwN ((i.1 - 1) / 4))), (8, .i (i.1 : Int))]) (fun i => [some (.ro (sbx.map .u8)), some (.ro (key.map .u8)), some (.row 5 ((wSt key 4 i.1).map .u8))]) (fun _ => 3) (fun i => 44 - i.1) ⟨4, by omega, by omega⟩ ?_ ?_
 ·
  have hk0 : (wSt key 4 4).map SV.u8 = List.take 16 (List.drop 0 (key.map SV.u8)) := by
   rw [wSt_key' key 4 (by omega), List.drop_zero, List.take_of_length_le (by simp; omega)]
  refine Weak.sel [0, 1, 3] rfl rfl ?_ ?_ rfl rfl
  ·
   (repeat' (first | exact trivial | refine And.intro ?_ ?_ | fail)) <;> first | rfl | exact wk_u8 (by first | (simp [hk0, pwN]; done) | fail) | fail
  ·
   (repeat' (first | exact trivial | refine And.intro ?_ ?_ | fail)) <;> first | rfl | exact ren_eq (by first | (simp; done) | fail) (by first | rfl | exact hk0 | fail) | fail
 ·
  rintro ⟨i, hi1, hi⟩
  have hwl := wSt_len key 4 i
  dsimp only
  by_cases hi2 : i < 44
  ·
   have hlt : decide ((i : Int) < w64 (4 * w64 (4 + 7))) = true := by rw [show w64 (4 * w64 (4 + 7)) = 44 by decide]; simp; omega
   have hp1 := w6_p1 i (by omega)
   have h4 := w64_4 i (by omega)
   have h44 := w10_44 i (by omega) (by omega)
   have htm : ((i : Int)).tmod 4 = ((i % 4 : Nat) : Int) := tmod_n i 4
   have htl := tK_len key 4 i
   have hw0 : wK key 4 i 0 = wSt key 4 i := by unfold wK; simp
   conv => whnf
   first | refine brT (by exact hlt) ?_ | fail
   conv => whnf
   repeat (first | (refine Exists.intro _ (And.intro (idx_i (m := 4 * i - 4) (by first | rfl | omega | fail)) ?_); conv => whnf) | (refine Exists.intro _ (And.intro (idx_i (m := 4 * i) (by first | rfl | omega | fail)) ?_); conv => whnf) | (refine Exists.intro _ (And.intro rfl ?_); conv => whnf) | (refine And.intro (by first | omega | (simp [ti5]; omega)) ?_; conv => whnf) | fail)
   have hcut : List.take (0 * ti5.sz) (List.drop 0 (reps 0 (SV.u8 0).cells)) ++ List.take ((4 * i - (4 * i - 4)) * ti5.sz) (List.drop (0 + (4 * i - 4) * 1) (SB.row 5 (List.map SV.u8 (wSt key 4 i))).cells) = (colN (wSt key 4 i) (i - 1)).map SV.u8 := cut_col (i - 1) (by omega) (show (4 * i - (4 * i - 4)) * 1 = 4 by omega) (by omega)
   rw [hcut]
   have hcl : (colN (wSt key 4 i) (i - 1)).length = 4 := rfl
   have hb0 : ((colN (wSt key 4 i) (i - 1)).getD 0 0).toNat < 256 := UInt8.toNat_lt _
   have hb1 : ((colN (wSt key 4 i) (i - 1)).getD 1 0).toNat < 256 := UInt8.toNat_lt _
   have hb2 : ((colN (wSt key 4 i) (i - 1)).getD 2 0).toNat < 256 := UInt8.toNat_lt _
   have hb3 : ((colN (wSt key 4 i) (i - 1)).getD 3 0).toNat < 256 := UInt8.toNat_lt _
   by_cases hz : i % 4 = 0
   ·
    have hm : ((i : Int).tmod 4 == 0) = true := by rw [htm, hz]; rfl
    have hpw : pwN (i / 4) = tmSt 8 0 (pwN ((i - 1) / 4)) 2 := by
     rw [tm_2, show i / 4 = (i - 1) / 4 + 1 from by omega]; rfl
    have htk : tK key 4 i = [sb ((colN (wSt key 4 i) (i - 1)).getD 1 0) ^^^ pwN ((i - 1) / 4), sb ((colN (wSt key 4 i) (i - 1)).getD 2 0), sb ((colN (wSt key 4 i) (i - 1)).getD 3 0), sb ((colN (wSt key 4 i) (i - 1)).getD 0 0)] := by
     unfold tK; rw [if_pos hz]; rfl
    have htk2 := congrArg (List.map SV.u8) htk
    first | refine brT (by exact hm) ?_ | fail
    conv => whnf
    repeat (first | (refine Exists.intro _ (And.intro (sload_u8 (i := 1) (by first | rfl | fail) (by first | omega | fail)) ?_); conv => whnf) | (refine Exists.intro _ (And.intro (idx_i (m := 1) (by first | rfl | fail)) ?_); conv => whnf) | (refine Exists.intro _ (And.intro (sload_u8 (i := 2) (by first | rfl | fail) (by first | omega | fail)) ?_); conv => whnf) | (refine Exists.intro _ (And.intro (idx_i (m := 2) (by first | rfl | fail)) ?_); conv => whnf) | (refine Exists.intro _ (And.intro (sload_u8 (i := 3) (by first | rfl | fail) (by first | omega | fail)) ?_); conv => whnf) | (refine Exists.intro _ (And.intro (idx_i (m := 3) (by first | rfl | fail)) ?_); conv => whnf) | (refine Exists.intro _ (And.intro (sload_u8 (i := 0) (by first | rfl | fail) (by first | omega | fail)) ?_); conv => whnf) | (refine Exists.intro _ (And.intro (idx_i (m := 0) (by first | rfl | fail)) ?_); conv => whnf) | (refine Exists.intro _ (And.intro (sload_u8 (i := ((colN (wSt key 4 i) (i - 1)).getD 1 0).toNat) (by first | rfl | omega | fail) (by first | omega | fail)) ?_); conv => whnf) | (refine Exists.intro _ (And.intro (sload_u8 (i := ((colN (wSt key 4 i) (i - 1)).getD 2 0).toNat) (by first | rfl | omega | fail) (by first | omega | fail)) ?_); conv => whnf) | (refine Exists.intro _ (And.intro (sload_u8 (i := ((colN (wSt key 4 i) (i - 1)).getD 3 0).toNat) (by first | rfl | omega | fail) (by first | omega | fail)) ?_); conv => whnf) | (refine Exists.intro _ (And.intro (sload_u8 (i := ((colN (wSt key 4 i) (i - 1)).getD 0 0).toNat) (by first | rfl | omega | fail) (by first | omega | fail)) ?_); conv => whnf) | (refine Exists.intro _ (And.intro rfl ?_); conv => whnf) | (refine And.intro (by first | omega | fail) ?_; conv => whnf) | (refine And.intro (by kernel_rfl) ?_; conv => whnf) | fail)
    refine ok1_callP [] (f81 (pwN ((i - 1) / 4)) 2) rfl rfl ⟨⟨rfl, by first | rfl | fail⟩, trivial, by first | rfl | fail, ?_⟩
    conv => whnf
    repeat (fail)
    refine loop_rule ttOk mixed (by kernel_rfl) (ι := { k : Nat // k ≤ 4 }) (fun k => [(0, .sl 0 0 256 1 fb), (1, .sl 1 0 16 1 fk), (5, .i 4), (6, .sl 2 0 (4 * i + k.1) 1 false), (7, .u8 (pwN (i / 4))), (8, .i (i : Int)), (9, .sl 3 0 4 1 true), (10, .i (k.1 : Int))]) (fun k => [some (.ro (sbx.map .u8)), some (.ro (key.map .u8)), some (.row 5 ((wK key 4 i k.1).map .u8)), some (.row 5 ((tK key 4 i).map .u8))]) (fun _ => 4) (fun k => 4 - k.1) ⟨0, by omega⟩ ?_ ?_
    ·
     refine Weak.sel [0, 1, 2, 5] rfl rfl ?_ ?_ rfl rfl
     ·
      (repeat' (first | exact trivial | refine And.intro ?_ ?_ | fail)) <;> first | rfl | exact wk_u8 (by first | exact hpw | fail) | fail
     ·
      (repeat' (first | exact trivial | refine And.intro ?_ ?_ | fail)) <;> first | exact ren_m8 (by first | exact hw0 | fail) | rfl | exact ren_eq (by first | (simp; done) | fail) (by first | rfl | fail) | exact ren_eq (plainL_u8 _) htk2 | fail
    ·
     rintro ⟨k, hk⟩
     have hwk := wK_len key 4 i k
     dsimp only
     by_cases hk2 : k < 4
     ·
      have hlt2 : decide ((k : Int) < 4) = true := by simp; omega
      have hp2 := w6_p1 k (by omega)
      have h10 := w10_4 i 4 k (by omega) (by omega) (by omega)
      have hx : (tK key 4 i).getD k 0 ^^^ (wK key 4 i k).getD (4 * (i - 4) + k) 0 = xK key 4 i k := by
       unfold xK; rw [wK_getD]; omega
      have happ : List.take ((4 * i + k) * 1) (List.drop 0 ((wK key 4 i k).map SV.u8)) ++ List.take (1 * 1) (List.drop 0 [SV.u8 ((tK key 4 i).getD k 0 ^^^ (wK key 4 i k).getD (4 * (i - 4) + k) 0)]) = (wK key 4 i (k + 1)).map SV.u8 := by
       rw [app_one hwk, hx, wK_s]
      conv => whnf
      first | refine brT (by exact hlt2) ?_ | fail
      conv => whnf
      repeat (first | (refine Exists.intro _ (And.intro (sload_u8 (i := k) (by first | rfl | omega | fail) (by first | omega | fail)) ?_); conv => whnf) | (refine Exists.intro _ (And.intro (idx_i (m := k) (by first | rfl | fail)) ?_); conv => whnf) | (refine Exists.intro _ (And.intro (sload_u8 (i := 4 * (i - 4) + k) (by first | rfl | omega | fail) (by first | omega | fail)) ?_); conv => whnf) | (refine Exists.intro _ (And.intro (idx_i (m := 4 * (i - 4) + k) (by first | rfl | omega | fail)) ?_); conv => whnf) | (refine Exists.intro _ (And.intro rfl ?_); conv => whnf) | (refine And.intro (by first | omega | (simp [ti5]; omega)) ?_; conv => whnf) | (refine And.intro (by kernel_rfl) ?_; conv => whnf) | fail)
      refine ⟨⟨k + 1, by omega⟩, by simp only; omega, ?_⟩
      refine Weak.sel [0, 1, 5, 3] rfl rfl ?_ ?_ rfl rfl
      ·
       (repeat' (first | exact trivial | refine And.intro ?_ ?_ | fail)) <;> first | rfl | exact wk_i (by first | exact hp2.symm | fail) | fail
      ·
       (repeat' (first | exact trivial | refine And.intro ?_ ?_ | fail)) <;> first | rfl | exact ren_eq (by first | (simp; done) | fail) (by first | rfl | exact happ.symm | fail) | fail
     ·
      obtain rfl : k = 4 := by omega
      conv => whnf
      first | refine brF (by rfl) ?_ | fail
      conv => whnf
      repeat (fail)
      have hw4 : wSt key 4 (i + 1) = wK key 4 i 4 := (wK_4 key 4 i (by omega)).symm
      refine ⟨⟨i + 1, by omega, by omega⟩, by simp only; omega, ?_⟩
      refine Weak.sel [0, 1, 2] rfl rfl ?_ ?_ rfl rfl
      ·
       (repeat' (first | exact trivial | refine And.intro ?_ ?_ | fail)) <;> first | rfl | exact wk_i (by first | exact hp1.symm | fail) | fail
      ·
       (repeat' (first | exact trivial | refine And.intro ?_ ?_ | fail)) <;> first | exact ren_m8 (by first | exact hw4 | fail) | rfl | exact ren_eq (by first | (simp; done) | fail) (by first | rfl | fail) | fail
   ·
    have hm : ((i : Int).tmod 4 == 0) = false := by rw [htm]; simp; omega
    have hpw : pwN (i / 4) = pwN ((i - 1) / 4) := by
     rw [show i / 4 = (i - 1) / 4 from by omega]
    by_cases h8 : 4 = 8 ∧ i % 4 = 4
    ·
     skip
     exact absurd h8.1 (by decide)
    ·
     skip
     have htk : tK key 4 i = colN (wSt key 4 i) (i - 1) := by unfold tK; rw [if_neg hz, if_neg h8]
     have htk2 := congrArg (List.map SV.u8) htk
     first | refine brF (by exact hm) ?_ | fail
     conv => whnf
     repeat (first | (refine brF rfl ?_; conv => whnf) | (refine Exists.intro _ (And.intro rfl ?_); conv => whnf) | fail)
     refine loop_rule ttOk mixed (by kernel_rfl) (ι := { k : Nat // k ≤ 4 }) (fun k => [(0, .sl 0 0 256 1 fb), (1, .sl 1 0 16 1 fk), (5, .i 4), (6, .sl 2 0 (4 * i + k.1) 1 false), (7, .u8 (pwN (i / 4))), (8, .i (i : Int)), (9, .sl 3 0 4 1 false), (10, .i (k.1 : Int))]) (fun k => [some (.ro (sbx.map .u8)), some (.ro (key.map .u8)), some (.row 5 ((wK key 4 i k.1).map .u8)), some (.row 5 ((tK key 4 i).map .u8))]) (fun _ => 4) (fun k => 4 - k.1) ⟨0, by omega⟩ ?_ ?_
     ·
      refine Weak.sel [0, 1, 2, 4] rfl rfl ?_ ?_ rfl rfl
      ·
       (repeat' (first | exact trivial | refine And.intro ?_ ?_ | fail)) <;> first | rfl | exact wk_sl rfl (by first | rfl | fail) (by first | rfl | omega | fail) | exact wk_u8 (by first | exact hpw | fail) | fail
      ·
       (repeat' (first | exact trivial | refine And.intro ?_ ?_ | fail)) <;> first | exact ren_m8 (by first | exact hw0 | exact htk | fail) | rfl | exact ren_eq (by first | (simp; done) | fail) (by first | rfl | fail) | fail
     ·
      rintro ⟨k, hk⟩
      have hwk := wK_len key 4 i k
      dsimp only
      by_cases hk2 : k < 4
      ·
       have hlt2 : decide ((k : Int) < 4) = true := by simp; omega
       have hp2 := w6_p1 k (by omega)
       have h10 := w10_4 i 4 k (by omega) (by omega) (by omega)
       have hx : (tK key 4 i).getD k 0 ^^^ (wK key 4 i k).getD (4 * (i - 4) + k) 0 = xK key 4 i k := by
        unfold xK; rw [wK_getD]; omega
       have happ : List.take ((4 * i + k) * 1) (List.drop 0 ((wK key 4 i k).map SV.u8)) ++ List.take (1 * 1) (List.drop 0 [SV.u8 ((tK key 4 i).getD k 0 ^^^ (wK key 4 i k).getD (4 * (i - 4) + k) 0)]) = (wK key 4 i (k + 1)).map SV.u8 := by
        rw [app_one hwk, hx, wK_s]
       conv => whnf
       first | refine brT (by exact hlt2) ?_ | fail
       conv => whnf
       repeat (first | (refine Exists.intro _ (And.intro (sload_u8 (i := k) (by first | rfl | omega | fail) (by first | omega | fail)) ?_); conv => whnf) | (refine Exists.intro _ (And.intro (idx_i (m := k) (by first | rfl | fail)) ?_); conv => whnf) | (refine Exists.intro _ (And.intro (sload_u8 (i := 4 * (i - 4) + k) (by first | rfl | omega | fail) (by first | omega | fail)) ?_); conv => whnf) | (refine Exists.intro _ (And.intro (idx_i (m := 4 * (i - 4) + k) (by first | rfl | omega | fail)) ?_); conv => whnf) | (refine Exists.intro _ (And.intro rfl ?_); conv => whnf) | (refine And.intro (by first | omega | (simp [ti5]; omega)) ?_; conv => whnf) | (refine And.intro (by kernel_rfl) ?_; conv => whnf) | fail)
       refine ⟨⟨k + 1, by omega⟩, by simp only; omega, ?_⟩
       refine Weak.sel [0, 1, 5, 3] rfl rfl ?_ ?_ rfl rfl
       ·
        (repeat' (first | exact trivial | refine And.intro ?_ ?_ | fail)) <;> first | rfl | exact wk_i (by first | exact hp2.symm | fail) | fail
       ·
        (repeat' (first | exact trivial | refine And.intro ?_ ?_ | fail)) <;> first | rfl | exact ren_eq (by first | (simp; done) | fail) (by first | rfl | exact happ.symm | fail) | fail
      ·
       obtain rfl : k = 4 := by omega
       conv => whnf
       first | refine brF (by rfl) ?_ | fail
       conv => whnf
       repeat (fail)
       have hw4 : wSt key 4 (i + 1) = wK key 4 i 4 := (wK_4 key 4 i (by omega)).symm
       refine ⟨⟨i + 1, by omega, by omega⟩, by simp only; omega, ?_⟩
       refine Weak.sel [0, 1, 2] rfl rfl ?_ ?_ rfl rfl
       ·
        (repeat' (first | exact trivial | refine And.intro ?_ ?_ | fail)) <;> first | rfl | exact wk_i (by first | exact hp1.symm | fail) | fail
       ·
        (repeat' (first | exact trivial | refine And.intro ?_ ?_ | fail)) <;> first | exact ren_m8 (by first | exact hw4 | fail) | rfl | exact ren_eq (by first | (simp; done) | fail) (by first | rfl | fail) | fail
  ·
   obtain rfl : i = 44 := by omega
   conv => whnf
   first | refine brF (by rfl) ?_ | fail
   conv => whnf
   repeat (fail)
   refine ⟨[0, 1, 2], ?_, rfl, rfl, ?_, rfl⟩
   ·
    (repeat' (fail)) <;> first | rfl | fail
   ·
    (repeat' (first | exact trivial | refine And.intro ?_ ?_ | fail)) <;> first | rfl | exact ren_eq (by first | (simp; done) | fail) (by first | rfl | fail) | fail
theorem f50_8 (fb fk : Bool) (key : List UInt8) (hk : key.length = 32) : SCall Try.prog 50 [.sl 0 0 256 1 fb, .sl 1 0 32 1 fk] [some (.ro (sbx.map .u8)), some (.ro (key.map .u8))] (.sl 2 0 (4 * 60) 1 false) [some (.ro (sbx.map .u8)), some (.ro (key.map .u8)), some (.row 5 ((wSt key 8 60).map .u8))] := by
 have hl := sbx_len
 refine scall_of ttOk (by kernel_rfl : Try.prog.funcs[50]? = some Try.f50) rfl rfl rfl ?_
 refine sw_ok ttOk mixed (by kernel_rfl) ?_
 conv => whnf
 repeat (first | (refine Exists.intro _ (And.intro rfl ?_); conv => whnf) | (refine And.intro (by first | omega | (simp [ti5]; omega)) ?_; conv => whnf) | fail)
 refine loop_rule ttOk mixed (by kernel_rfl) (ι := { i : Nat // 8 ≤ i ∧ i ≤ 60 }) (fun i => [(0, .sl 0 0 256 1 fb), (1, .sl 1 0 32 1 fk), (5, .i 8), (6, .sl 2 0 (4 * i.1) 1 false), (7, .u8 (pwN ((i.1 - 1) / 8))), (8, .i (i.1 : Int))]) (fun i => [some (.ro (sbx.map .u8)), some (.ro (key.map .u8)), some (.row 5 ((wSt key 8 i.1).map .u8))]) (fun _ => 3) (fun i => 60 - i.1) ⟨8, by omega, by omega⟩ ?_ ?_
 ·
  have hk0 : (wSt key 8 8).map SV.u8 = List.take 32 (List.drop 0 (key.map SV.u8)) := by
   rw [wSt_key' key 8 (by omega), List.drop_zero, List.take_of_length_le (by simp; omega)]
  refine Weak.sel [0, 1, 3] rfl rfl ?_ ?_ rfl rfl
  ·
   (repeat' (first | exact trivial | refine And.intro ?_ ?_ | fail)) <;> first | rfl | exact wk_u8 (by first | (simp [hk0, pwN]; done) | fail) | fail
  ·
   (repeat' (first | exact trivial | refine And.intro ?_ ?_ | fail)) <;> first | rfl | exact ren_eq (by first | (simp; done) | fail) (by first | rfl | exact hk0 | fail) | fail
 ·
  rintro ⟨i, hi1, hi⟩
  have hwl := wSt_len key 8 i
  dsimp only
  by_cases hi2 : i < 60
  ·
   have hlt : decide ((i : Int) < w64 (4 * w64 (8 + 7))) = true := by rw [show w64 (4 * w64 (8 + 7)) = 60 by decide]; simp; omega
   have hp1 := w6_p1 i (by omega)
   have h4 := w64_4 i (by omega)
   have h44 := w10_44 i (by omega) (by omega)
   have htm : ((i : Int)).tmod 8 = ((i % 8 : Nat) : Int) := tmod_n i 8
   have htl := tK_len key 8 i
   have hw0 : wK key 8 i 0 = wSt key 8 i := by unfold wK; simp
   conv => whnf
   first | refine brT (by exact hlt) ?_ | fail
   conv => whnf
   repeat (first | (refine Exists.intro _ (And.intro (idx_i (m := 4 * i - 4) (by first | rfl | omega | fail)) ?_); conv => whnf) | (refine Exists.intro _ (And.intro (idx_i (m := 4 * i) (by first | rfl | omega | fail)) ?_); conv => whnf) | (refine Exists.intro _ (And.intro rfl ?_); conv => whnf) | (refine And.intro (by first | omega | (simp [ti5]; omega)) ?_; conv => whnf) | fail)
   have hcut : List.take (0 * ti5.sz) (List.drop 0 (reps 0 (SV.u8 0).cells)) ++ List.take ((4 * i - (4 * i - 4)) * ti5.sz) (List.drop (0 + (4 * i - 4) * 1) (SB.row 5 (List.map SV.u8 (wSt key 8 i))).cells) = (colN (wSt key 8 i) (i - 1)).map SV.u8 := cut_col (i - 1) (by omega) (show (4 * i - (4 * i - 4)) * 1 = 4 by omega) (by omega)
   rw [hcut]
   have hcl : (colN (wSt key 8 i) (i - 1)).length = 4 := rfl
   have hb0 : ((colN (wSt key 8 i) (i - 1)).getD 0 0).toNat < 256 := UInt8.toNat_lt _
   have hb1 : ((colN (wSt key 8 i) (i - 1)).getD 1 0).toNat < 256 := UInt8.toNat_lt _
   have hb2 : ((colN (wSt key 8 i) (i - 1)).getD 2 0).toNat < 256 := UInt8.toNat_lt _
   have hb3 : ((colN (wSt key 8 i) (i - 1)).getD 3 0).toNat < 256 := UInt8.toNat_lt _
   by_cases hz : i % 8 = 0
   ·
    have hm : ((i : Int).tmod 8 == 0) = true := by rw [htm, hz]; rfl
    have hpw : pwN (i / 8) = tmSt 8 0 (pwN ((i - 1) / 8)) 2 := by
     rw [tm_2, show i / 8 = (i - 1) / 8 + 1 from by omega]; rfl
    have htk : tK key 8 i = [sb ((colN (wSt key 8 i) (i - 1)).getD 1 0) ^^^ pwN ((i - 1) / 8), sb ((colN (wSt key 8 i) (i - 1)).getD 2 0), sb ((colN (wSt key 8 i) (i - 1)).getD 3 0), sb ((colN (wSt key 8 i) (i - 1)).getD 0 0)] := by
     unfold tK; rw [if_pos hz]; rfl
    have htk2 := congrArg (List.map SV.u8) htk
    first | refine brT (by exact hm) ?_ | fail
    conv => whnf
    repeat (first | (refine Exists.intro _ (And.intro (sload_u8 (i := 1) (by first | rfl | fail) (by first | omega | fail)) ?_); conv => whnf) | (refine Exists.intro _ (And.intro (idx_i (m := 1) (by first | rfl | fail)) ?_); conv => whnf) | (refine Exists.intro _ (And.intro (sload_u8 (i := 2) (by first | rfl | fail) (by first | omega | fail)) ?_); conv => whnf) | (refine Exists.intro _ (And.intro (idx_i (m := 2) (by first | rfl | fail)) ?_); conv => whnf) | (refine Exists.intro _ (And.intro (sload_u8 (i := 3) (by first | rfl | fail) (by first | omega | fail)) ?_); conv => whnf) | (refine Exists.intro _ (And.intro (idx_i (m := 3) (by first | rfl | fail)) ?_); conv => whnf) | (refine Exists.intro _ (And.intro (sload_u8 (i := 0) (by first | rfl | fail) (by first | omega | fail)) ?_); conv => whnf) | (refine Exists.intro _ (And.intro (idx_i (m := 0) (by first | rfl | fail)) ?_); conv => whnf) | (refine Exists.intro _ (And.intro (sload_u8 (i := ((colN (wSt key 8 i) (i - 1)).getD 1 0).toNat) (by first | rfl | omega | fail) (by first | omega | fail)) ?_); conv => whnf) | (refine Exists.intro _ (And.intro (sload_u8 (i := ((colN (wSt key 8 i) (i - 1)).getD 2 0).toNat) (by first | rfl | omega | fail) (by first | omega | fail)) ?_); conv => whnf) | (refine Exists.intro _ (And.intro (sload_u8 (i := ((colN (wSt key 8 i) (i - 1)).getD 3 0).toNat) (by first | rfl | omega | fail) (by first | omega | fail)) ?_); conv => whnf) | (refine Exists.intro _ (And.intro (sload_u8 (i := ((colN (wSt key 8 i) (i - 1)).getD 0 0).toNat) (by first | rfl | omega | fail) (by first | omega | fail)) ?_); conv => whnf) | (refine Exists.intro _ (And.intro rfl ?_); conv => whnf) | (refine And.intro (by first | omega | fail) ?_; conv => whnf) | (refine And.intro (by kernel_rfl) ?_; conv => whnf) | fail)
    refine ok1_callP [] (f81 (pwN ((i - 1) / 8)) 2) rfl rfl ⟨⟨rfl, by first | rfl | fail⟩, trivial, by first | rfl | fail, ?_⟩
    conv => whnf
    repeat (fail)
    refine loop_rule ttOk mixed (by kernel_rfl) (ι := { k : Nat // k ≤ 4 }) (fun k => [(0, .sl 0 0 256 1 fb), (1, .sl 1 0 32 1 fk), (5, .i 8), (6, .sl 2 0 (4 * i + k.1) 1 false), (7, .u8 (pwN (i / 8))), (8, .i (i : Int)), (9, .sl 3 0 4 1 true), (10, .i (k.1 : Int))]) (fun k => [some (.ro (sbx.map .u8)), some (.ro (key.map .u8)), some (.row 5 ((wK key 8 i k.1).map .u8)), some (.row 5 ((tK key 8 i).map .u8))]) (fun _ => 4) (fun k => 4 - k.1) ⟨0, by omega⟩ ?_ ?_
    ·
     refine Weak.sel [0, 1, 2, 5] rfl rfl ?_ ?_ rfl rfl
     ·
      (repeat' (first | exact trivial | refine And.intro ?_ ?_ | fail)) <;> first | rfl | exact wk_u8 (by first | exact hpw | fail) | fail
     ·
      (repeat' (first | exact trivial | refine And.intro ?_ ?_ | fail)) <;> first | exact ren_m8 (by first | exact hw0 | fail) | rfl | exact ren_eq (by first | (simp; done) | fail) (by first | rfl | fail) | exact ren_eq (plainL_u8 _) htk2 | fail
    ·
     rintro ⟨k, hk⟩
     have hwk := wK_len key 8 i k
     dsimp only
     by_cases hk2 : k < 4
     ·
      have hlt2 : decide ((k : Int) < 4) = true := by simp; omega
      have hp2 := w6_p1 k (by omega)
      have h10 := w10_4 i 8 k (by omega) (by omega) (by omega)
      have hx : (tK key 8 i).getD k 0 ^^^ (wK key 8 i k).getD (4 * (i - 8) + k) 0 = xK key 8 i k := by
       unfold xK; rw [wK_getD]; omega
      have happ : List.take ((4 * i + k) * 1) (List.drop 0 ((wK key 8 i k).map SV.u8)) ++ List.take (1 * 1) (List.drop 0 [SV.u8 ((tK key 8 i).getD k 0 ^^^ (wK key 8 i k).getD (4 * (i - 8) + k) 0)]) = (wK key 8 i (k + 1)).map SV.u8 := by
       rw [app_one hwk, hx, wK_s]
      conv => whnf
      first | refine brT (by exact hlt2) ?_ | fail
      conv => whnf
      repeat (first | (refine Exists.intro _ (And.intro (sload_u8 (i := k) (by first | rfl | omega | fail) (by first | omega | fail)) ?_); conv => whnf) | (refine Exists.intro _ (And.intro (idx_i (m := k) (by first | rfl | fail)) ?_); conv => whnf) | (refine Exists.intro _ (And.intro (sload_u8 (i := 4 * (i - 8) + k) (by first | rfl | omega | fail) (by first | omega | fail)) ?_); conv => whnf) | (refine Exists.intro _ (And.intro (idx_i (m := 4 * (i - 8) + k) (by first | rfl | omega | fail)) ?_); conv => whnf) | (refine Exists.intro _ (And.intro rfl ?_); conv => whnf) | (refine And.intro (by first | omega | (simp [ti5]; omega)) ?_; conv => whnf) | (refine And.intro (by kernel_rfl) ?_; conv => whnf) | fail)
      refine ⟨⟨k + 1, by omega⟩, by simp only; omega, ?_⟩
      refine Weak.sel [0, 1, 5, 3] rfl rfl ?_ ?_ rfl rfl
      ·
       (repeat' (first | exact trivial | refine And.intro ?_ ?_ | fail)) <;> first | rfl | exact wk_i (by first | exact hp2.symm | fail) | fail
      ·
       (repeat' (first | exact trivial | refine And.intro ?_ ?_ | fail)) <;> first | rfl | exact ren_eq (by first | (simp; done) | fail) (by first | rfl | exact happ.symm | fail) | fail
     ·
      obtain rfl : k = 4 := by omega
      conv => whnf
      first | refine brF (by rfl) ?_ | fail
      conv => whnf
      repeat (fail)
      have hw4 : wSt key 8 (i + 1) = wK key 8 i 4 := (wK_4 key 8 i (by omega)).symm
      refine ⟨⟨i + 1, by omega, by omega⟩, by simp only; omega, ?_⟩
      refine Weak.sel [0, 1, 2] rfl rfl ?_ ?_ rfl rfl
      ·
       (repeat' (first | exact trivial | refine And.intro ?_ ?_ | fail)) <;> first | rfl | exact wk_i (by first | exact hp1.symm | fail) | fail
      ·
       (repeat' (first | exact trivial | refine And.intro ?_ ?_ | fail)) <;> first | exact ren_m8 (by first | exact hw4 | fail) | rfl | exact ren_eq (by first | (simp; done) | fail) (by first | rfl | fail) | fail
   ·
    have hm : ((i : Int).tmod 8 == 0) = false := by rw [htm]; simp; omega
    have hpw : pwN (i / 8) = pwN ((i - 1) / 8) := by
     rw [show i / 8 = (i - 1) / 8 from by omega]
    by_cases h8 : 8 = 8 ∧ i % 8 = 4
    ·
     skip
     have hm4 : ((i : Int).tmod 8 == 4) = true := by rw [htm, h8.2]; rfl
     have htk : tK key 8 i = [sb ((colN (wSt key 8 i) (i - 1)).getD 0 0), sb ((colN (wSt key 8 i) (i - 1)).getD 1 0), sb ((colN (wSt key 8 i) (i - 1)).getD 2 0), sb ((colN (wSt key 8 i) (i - 1)).getD 3 0)] := by unfold tK; rw [if_neg hz, if_pos h8]; rfl
     have htk2 := congrArg (List.map SV.u8) htk
     first | refine brF (by exact hm) ?_ | fail
     conv => whnf
     repeat (first | (refine brT rfl ?_; conv => whnf) | (refine Exists.intro _ (And.intro (sload_u8 (i := 1) (by first | rfl | fail) (by first | omega | fail)) ?_); conv => whnf) | (refine Exists.intro _ (And.intro (idx_i (m := 1) (by first | rfl | fail)) ?_); conv => whnf) | (refine Exists.intro _ (And.intro (sload_u8 (i := 2) (by first | rfl | fail) (by first | omega | fail)) ?_); conv => whnf) | (refine Exists.intro _ (And.intro (idx_i (m := 2) (by first | rfl | fail)) ?_); conv => whnf) | (refine Exists.intro _ (And.intro (sload_u8 (i := 3) (by first | rfl | fail) (by first | omega | fail)) ?_); conv => whnf) | (refine Exists.intro _ (And.intro (idx_i (m := 3) (by first | rfl | fail)) ?_); conv => whnf) | (refine Exists.intro _ (And.intro (sload_u8 (i := 0) (by first | rfl | fail) (by first | omega | fail)) ?_); conv => whnf) | (refine Exists.intro _ (And.intro (idx_i (m := 0) (by first | rfl | fail)) ?_); conv => whnf) | (refine Exists.intro _ (And.intro (sload_u8 (i := ((colN (wSt key 8 i) (i - 1)).getD 1 0).toNat) (by first | rfl | omega | fail) (by first | omega | fail)) ?_); conv => whnf) | (refine Exists.intro _ (And.intro (sload_u8 (i := ((colN (wSt key 8 i) (i - 1)).getD 2 0).toNat) (by first | rfl | omega | fail) (by first | omega | fail)) ?_); conv => whnf) | (refine Exists.intro _ (And.intro (sload_u8 (i := ((colN (wSt key 8 i) (i - 1)).getD 3 0).toNat) (by first | rfl | omega | fail) (by first | omega | fail)) ?_); conv => whnf) | (refine Exists.intro _ (And.intro (sload_u8 (i := ((colN (wSt key 8 i) (i - 1)).getD 0 0).toNat) (by first | rfl | omega | fail) (by first | omega | fail)) ?_); conv => whnf) | (refine gdT hm4 ?_; conv => whnf) | (refine Exists.intro _ (And.intro rfl ?_); conv => whnf) | (refine And.intro (by first | omega | fail) ?_; conv => whnf) | (refine And.intro (by kernel_rfl) ?_; conv => whnf) | fail)
     refine loop_rule ttOk mixed (by kernel_rfl) (ι := { k : Nat // k ≤ 4 }) (fun k => [(0, .sl 0 0 256 1 fb), (1, .sl 1 0 32 1 fk), (5, .i 8), (6, .sl 2 0 (4 * i + k.1) 1 false), (7, .u8 (pwN (i / 8))), (8, .i (i : Int)), (9, .sl 3 0 4 1 true), (10, .i (k.1 : Int))]) (fun k => [some (.ro (sbx.map .u8)), some (.ro (key.map .u8)), some (.row 5 ((wK key 8 i k.1).map .u8)), some (.row 5 ((tK key 8 i).map .u8))]) (fun _ => 4) (fun k => 4 - k.1) ⟨0, by omega⟩ ?_ ?_
     ·
      refine Weak.sel [0, 1, 2, 5] rfl rfl ?_ ?_ rfl rfl
      ·
       (repeat' (first | exact trivial | refine And.intro ?_ ?_ | fail)) <;> first | rfl | exact wk_u8 (by first | exact hpw | fail) | fail
      ·
       (repeat' (first | exact trivial | refine And.intro ?_ ?_ | fail)) <;> first | exact ren_m8 (by first | exact hw0 | fail) | rfl | exact ren_eq (by first | (simp; done) | fail) (by first | rfl | fail) | exact ren_eq (plainL_u8 _) htk2 | fail
     ·
      rintro ⟨k, hk⟩
      have hwk := wK_len key 8 i k
      dsimp only
      by_cases hk2 : k < 4
      ·
       have hlt2 : decide ((k : Int) < 4) = true := by simp; omega
       have hp2 := w6_p1 k (by omega)
       have h10 := w10_4 i 8 k (by omega) (by omega) (by omega)
       have hx : (tK key 8 i).getD k 0 ^^^ (wK key 8 i k).getD (4 * (i - 8) + k) 0 = xK key 8 i k := by
        unfold xK; rw [wK_getD]; omega
       have happ : List.take ((4 * i + k) * 1) (List.drop 0 ((wK key 8 i k).map SV.u8)) ++ List.take (1 * 1) (List.drop 0 [SV.u8 ((tK key 8 i).getD k 0 ^^^ (wK key 8 i k).getD (4 * (i - 8) + k) 0)]) = (wK key 8 i (k + 1)).map SV.u8 := by
        rw [app_one hwk, hx, wK_s]
       conv => whnf
       first | refine brT (by exact hlt2) ?_ | fail
       conv => whnf
       repeat (first | (refine Exists.intro _ (And.intro (sload_u8 (i := k) (by first | rfl | omega | fail) (by first | omega | fail)) ?_); conv => whnf) | (refine Exists.intro _ (And.intro (idx_i (m := k) (by first | rfl | fail)) ?_); conv => whnf) | (refine Exists.intro _ (And.intro (sload_u8 (i := 4 * (i - 8) + k) (by first | rfl | omega | fail) (by first | omega | fail)) ?_); conv => whnf) | (refine Exists.intro _ (And.intro (idx_i (m := 4 * (i - 8) + k) (by first | rfl | omega | fail)) ?_); conv => whnf) | (refine Exists.intro _ (And.intro rfl ?_); conv => whnf) | (refine And.intro (by first | omega | (simp [ti5]; omega)) ?_; conv => whnf) | (refine And.intro (by kernel_rfl) ?_; conv => whnf) | fail)
       refine ⟨⟨k + 1, by omega⟩, by simp only; omega, ?_⟩
       refine Weak.sel [0, 1, 5, 3] rfl rfl ?_ ?_ rfl rfl
       ·
        (repeat' (first | exact trivial | refine And.intro ?_ ?_ | fail)) <;> first | rfl | exact wk_i (by first | exact hp2.symm | fail) | fail
       ·
        (repeat' (first | exact trivial | refine And.intro ?_ ?_ | fail)) <;> first | rfl | exact ren_eq (by first | (simp; done) | fail) (by first | rfl | exact happ.symm | fail) | fail
      ·
       obtain rfl : k = 4 := by omega
       conv => whnf
       first | refine brF (by rfl) ?_ | fail
       conv => whnf
       repeat (fail)
       have hw4 : wSt key 8 (i + 1) = wK key 8 i 4 := (wK_4 key 8 i (by omega)).symm
       refine ⟨⟨i + 1, by omega, by omega⟩, by simp only; omega, ?_⟩
       refine Weak.sel [0, 1, 2] rfl rfl ?_ ?_ rfl rfl
       ·
        (repeat' (first | exact trivial | refine And.intro ?_ ?_ | fail)) <;> first | rfl | exact wk_i (by first | exact hp1.symm | fail) | fail
       ·
        (repeat' (first | exact trivial | refine And.intro ?_ ?_ | fail)) <;> first | exact ren_m8 (by first | exact hw4 | fail) | rfl | exact ren_eq (by first | (simp; done) | fail) (by first | rfl | fail) | fail
    ·
     skip
     have hm4 : ((i : Int).tmod 8 == 4) = false := by rw [htm]; simp; omega
     have htk : tK key 8 i = colN (wSt key 8 i) (i - 1) := by unfold tK; rw [if_neg hz, if_neg h8]
     have htk2 := congrArg (List.map SV.u8) htk
     first | refine brF (by exact hm) ?_ | fail
     conv => whnf
     repeat (first | (refine brT rfl ?_; conv => whnf) | (refine gdF hm4 ?_; conv => whnf) | (refine Exists.intro _ (And.intro rfl ?_); conv => whnf) | fail)
     refine loop_rule ttOk mixed (by kernel_rfl) (ι := { k : Nat // k ≤ 4 }) (fun k => [(0, .sl 0 0 256 1 fb), (1, .sl 1 0 32 1 fk), (5, .i 8), (6, .sl 2 0 (4 * i + k.1) 1 false), (7, .u8 (pwN (i / 8))), (8, .i (i : Int)), (9, .sl 3 0 4 1 false), (10, .i (k.1 : Int))]) (fun k => [some (.ro (sbx.map .u8)), some (.ro (key.map .u8)), some (.row 5 ((wK key 8 i k.1).map .u8)), some (.row 5 ((tK key 8 i).map .u8))]) (fun _ => 4) (fun k => 4 - k.1) ⟨0, by omega⟩ ?_ ?_
     ·
      refine Weak.sel [0, 1, 2, 4] rfl rfl ?_ ?_ rfl rfl
      ·
       (repeat' (first | exact trivial | refine And.intro ?_ ?_ | fail)) <;> first | rfl | exact wk_sl rfl (by first | rfl | fail) (by first | rfl | omega | fail) | exact wk_u8 (by first | exact hpw | fail) | fail
      ·
       (repeat' (first | exact trivial | refine And.intro ?_ ?_ | fail)) <;> first | exact ren_m8 (by first | exact hw0 | exact htk | fail) | rfl | exact ren_eq (by first | (simp; done) | fail) (by first | rfl | fail) | fail
     ·
      rintro ⟨k, hk⟩
      have hwk := wK_len key 8 i k
      dsimp only
      by_cases hk2 : k < 4
      ·
       have hlt2 : decide ((k : Int) < 4) = true := by simp; omega
       have hp2 := w6_p1 k (by omega)
       have h10 := w10_4 i 8 k (by omega) (by omega) (by omega)
       have hx : (tK key 8 i).getD k 0 ^^^ (wK key 8 i k).getD (4 * (i - 8) + k) 0 = xK key 8 i k := by
        unfold xK; rw [wK_getD]; omega
       have happ : List.take ((4 * i + k) * 1) (List.drop 0 ((wK key 8 i k).map SV.u8)) ++ List.take (1 * 1) (List.drop 0 [SV.u8 ((tK key 8 i).getD k 0 ^^^ (wK key 8 i k).getD (4 * (i - 8) + k) 0)]) = (wK key 8 i (k + 1)).map SV.u8 := by
        rw [app_one hwk, hx, wK_s]
       conv => whnf
       first | refine brT (by exact hlt2) ?_ | fail
       conv => whnf
       repeat (first | (refine Exists.intro _ (And.intro (sload_u8 (i := k) (by first | rfl | omega | fail) (by first | omega | fail)) ?_); conv => whnf) | (refine Exists.intro _ (And.intro (idx_i (m := k) (by first | rfl | fail)) ?_); conv => whnf) | (refine Exists.intro _ (And.intro (sload_u8 (i := 4 * (i - 8) + k) (by first | rfl | omega | fail) (by first | omega | fail)) ?_); conv => whnf) | (refine Exists.intro _ (And.intro (idx_i (m := 4 * (i - 8) + k) (by first | rfl | omega | fail)) ?_); conv => whnf) | (refine Exists.intro _ (And.intro rfl ?_); conv => whnf) | (refine And.intro (by first | omega | (simp [ti5]; omega)) ?_; conv => whnf) | (refine And.intro (by kernel_rfl) ?_; conv => whnf) | fail)
       refine ⟨⟨k + 1, by omega⟩, by simp only; omega, ?_⟩
       refine Weak.sel [0, 1, 5, 3] rfl rfl ?_ ?_ rfl rfl
       ·
        (repeat' (first | exact trivial | refine And.intro ?_ ?_ | fail)) <;> first | rfl | exact wk_i (by first | exact hp2.symm | fail) | fail
       ·
        (repeat' (first | exact trivial | refine And.intro ?_ ?_ | fail)) <;> first | rfl | exact ren_eq (by first | (simp; done) | fail) (by first | rfl | exact happ.symm | fail) | fail
      ·
       obtain rfl : k = 4 := by omega
       conv => whnf
       first | refine brF (by rfl) ?_ | fail
       conv => whnf
       repeat (fail)
       have hw4 : wSt key 8 (i + 1) = wK key 8 i 4 := (wK_4 key 8 i (by omega)).symm
       refine ⟨⟨i + 1, by omega, by omega⟩, by simp only; omega, ?_⟩
       refine Weak.sel [0, 1, 2] rfl rfl ?_ ?_ rfl rfl
       ·
        (repeat' (first | exact trivial | refine And.intro ?_ ?_ | fail)) <;> first | rfl | exact wk_i (by first | exact hp1.symm | fail) | fail
       ·
        (repeat' (first | exact trivial | refine And.intro ?_ ?_ | fail)) <;> first | exact ren_m8 (by first | exact hw4 | fail) | rfl | exact ren_eq (by first | (simp; done) | fail) (by first | rfl | fail) | fail
  ·
   obtain rfl : i = 60 := by omega
   conv => whnf
   first | refine brF (by rfl) ?_ | fail
   conv => whnf
   repeat (fail)
   refine ⟨[0, 1, 2], ?_, rfl, rfl, ?_, rfl⟩
   ·
    (repeat' (fail)) <;> first | rfl | fail
   ·
    (repeat' (first | exact trivial | refine And.intro ?_ ?_ | fail)) <;> first | rfl | exact ren_eq (by first | (simp; done) | fail) (by first | rfl | fail) | fail
end Go.Sh
