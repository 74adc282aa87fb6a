/- Calls whose blocks are told outright. -/
import Derived.Test.YtaknbogocnkmnaaSh24
namespace Go.Sh
set_option linter.unusedSimpArgs false

/-- The blocks under the caller's names. -/
def renHs (sel : List Nat) : HL → HL → Prop
  | [], [] => True
  | none :: a, none :: b => renHs sel a b
  | some x :: a, some y :: b => (y.own = x.own ∧ match x.own with | true => renB sel x = some y | false => True) ∧ renHs sel a b
  | _, _ => False

theorem cW_renHs {sel : List Nat} : ∀ (ss : List Nat) (H0 H1 H1r : HL) (W : Upd), renHs sel H1 H1r → cWp ss H0 H1r = some W → cW sel ss H0 H1 = some W
  | s :: ss, some b0 :: H0, none :: H1, none :: H1r, W, h, hw => by
    simp only [renHs] at h
    simp only [cWp] at hw
    split at hw
    · rename_i W2 hw2
      simp only [cW, cW_renHs ss H0 H1 H1r W2 h hw2]
      exact hw
    · cases hw
  | s :: ss, some b0 :: H0, some x :: H1, some y :: H1r, W, h, hw => by
    simp only [renHs] at h
    obtain ⟨⟨h1, h2⟩, h3⟩ := h
    simp only [cWp] at hw
    split at hw
    · rename_i W2 hw2
      simp only [cW, cW_renHs ss H0 H1 H1r W2 h3 hw2]
      cases hb : b0.own with
      | false => rw [hb] at hw; exact hw
      | true =>
        rw [hb] at hw
        simp only at hw ⊢
        rw [h1] at hw
        cases hx : x.own with
        | true => rw [hx] at h2 hw; simp only at h2 hw ⊢; rw [h2]; exact hw
        | false => rw [hx] at hw; cases hw
    · cases hw
  | s :: ss, [], none :: H1, none :: H1r, W, h, hw => by
    simp only [renHs] at h
    simp only [cWp] at hw
    split at hw
    · rename_i W2 hw2
      simp only [cW, cW_renHs ss [] H1 H1r W2 h hw2]
      exact hw
    · cases hw
  | s :: ss, [], some x :: H1, some y :: H1r, W, h, hw => by
    simp only [renHs] at h
    obtain ⟨⟨h1, h2⟩, h3⟩ := h
    simp only [cWp] at hw
    split at hw
    · rename_i W2 hw2
      simp only [cW, cW_renHs ss [] H1 H1r W2 h3 hw2]
      rw [h1] at hw
      cases hx : x.own with
      | true => rw [hx] at h2 hw; simp only at h2 hw ⊢; rw [h2]; exact hw
      | false => rw [hx] at hw; cases hw
    · cases hw
  | [], [], [], [], W, _, hw => by simpa only [cW, cWp] using hw
  | _, _, [], _ :: _, _, h, _ => by simp only [renHs] at h
  | _, _, _ :: _, [], _, h, _ => by simp [renHs] at h
  | _, _, none :: _, some _ :: _, _, h, _ => by simp only [renHs] at h
  | _, _, some _ :: _, none :: _, _, h, _ => by simp only [renHs] at h
  | [], _ :: _, [], [], _, _, hw => by simp [cWp] at hw
  | [], _, none :: _, none :: _, _, _, hw => by simp [cWp] at hw
  | [], _, some _ :: _, some _ :: _, _, _, hw => by simp [cWp] at hw
  | _ :: _, none :: _, _, _, _, _, hw => by simp [cWp] at hw
  | _ :: _, [], [], [], _, _, hw => by simp [cWp] at hw
  | _ :: _, some _ :: _, [], [], _, _, hw => by simp [cWp] at hw

theorem rb_boxa {sel : List Nat} {a b c : List SV} (ha : plainL a = true) (h : renL sel b = some c) : renB sel (.box (a ++ b)) = some (.box (a ++ c)) := by
  simp only [renB, ren_app ha h]

def sopCallE (H1r : HL) (z : SV) (R : RL) (H : HL) (L : Nat) (x : Operand) (args : List Operand) (f : Nat) (sel : List Nat) (args0 : List SV) (H0 : HL) (ret : SV) (H1 : HL) (k : K1) : Prop :=
  (match ev R x with
    | some (.fn g caps) => match evs R args with
      | some zs => g = f ∧ renL sel args0 = some (zs ++ caps)
      | none => False
    | _ => False) ∧ okH sel H sel H0 ∧ renHs (sel ++ newSel L (H1.length - H0.length)) H1 H1r ∧ renV (sel ++ newSel L (H1.length - H0.length)) ret = some z ∧
  match Nat.beq sel.length H0.length with
  | true => match dupOk sel 0 sel H0 with
    | true => match cWp (sel ++ newSel L (H1.length - H0.length)) H0 H1r with
      | some W => k (some z) W sel (L + (H1.length - H0.length))
      | none => False
    | false => False
  | false => False

theorem ok1_callE {P : Program} {o : Oper} {R : RL} {H : HL} {L : Nat} {k : K1} {x : Operand} {args : Array Operand} {tys : Array TypeId} {f : Nat} {args0 : List SV} {H0 H1 : HL} {ret : SV} (sel : List Nat) (H1r : HL) (z : SV)
    (hc : SCall P f args0 H0 ret H1) (ho : o.op = .call ⟨.value x, args, tys⟩) (hle : Nat.ble H.length L = true) (h : sopCallE H1r z R H L x args.toList f sel args0 H0 ret H1 k) : Ok1 P o R H L k := by
  obtain ⟨h1, h2, hp, hr, h3⟩ := h
  refine ok1_call sel hc ho hle ⟨h1, h2, ?_⟩
  cases hl : Nat.beq sel.length H0.length with
  | false => rw [hl] at h3; exact h3.elim
  | true =>
    rw [hl] at h3
    simp only at h3 ⊢
    cases hd : dupOk sel 0 sel H0 with
    | false => rw [hd] at h3; exact h3.elim
    | true =>
      rw [hd] at h3
      simp only at h3 ⊢
      cases hw : cWp (sel ++ newSel L (H1.length - H0.length)) H0 H1r with
      | none => rw [hw] at h3; exact h3.elim
      | some W =>
        rw [hw] at h3
        rw [cW_renHs _ _ _ _ _ hp hw]
        simp only [hr]
        exact h3
end Go.Sh
