/- Yield, reckoned. -/
import Derived.Test.YtaknbogocnkmnaaSh21
import Derived.Test.YtaknbogocnkmnaaSh19
namespace Go.Sh

def sopYield (fl : List Bool) (R : RL) (H : HL) (L : Nat) (x : Operand) (args : List Operand) (id : Nat) (ss : List Nat) (args0 : List SV) (H0 : HL) (ret : SV) (H1 : HL) (k : K1) : Prop :=
  (match ev R x with
    | some (.yld i) => match evs R args with
      | some zs => i = id ∧ renL (id :: ss) args0 = some zs
      | none => False
    | _ => False) ∧ okH (id :: ss) H (id :: ss) H0 ∧ plainHf fl H1 = true ∧
  match Nat.beq (id :: ss).length H0.length with
  | true => match dupOk (id :: ss) 0 (id :: ss) H0 with
    | true => match cWf (id :: ss ++ newSel L (H1.length - H0.length)) fl (id :: ss ++ newSel L (H1.length - H0.length)) H0 H1 with
      | some W => match renV (id :: ss ++ newSel L (H1.length - H0.length)) ret with
        | some z => k (some z) W (id :: ss) (L + (H1.length - H0.length))
        | none => False
      | none => False
    | false => False
  | false => False

theorem ok1_yield {P : Program} {o : Oper} {R : RL} {H : HL} {L : Nat} {k : K1} {x : Operand} {args : Array Operand} {tys : Array TypeId} {args0 : List SV} {H0 H1 : HL} {ret : SV} (id : Nat) (ss : List Nat) (fl : List Bool)
    (hc : SYield P args0 H0 ret H1) (ho : o.op = .call ⟨.value x, args, tys⟩) (hle : Nat.ble H.length L = true) (h : sopYield fl R H L x args.toList id ss args0 H0 ret H1 k) : Ok1 P o R H L k := by
  have hl := Nat.le_of_ble_eq_true hle
  obtain ⟨h1, h2, hp, h3⟩ := h
  split at h1
  · rename_i i hx
    split at h1
    · rename_i zs hzs
      obtain ⟨rfl, hren⟩ := h1
      split at h3
      · rename_i hlen
        split at h3
        · rename_i hd
          split at h3
          · rename_i W hWf
            split at h3
            · rename_i z hz
              have hW := cWf_eq _ _ _ _ _ _ hp hWf
              obtain ⟨w1, w2, w3, w4, w5⟩ := cW_spec hW
              refine ⟨_, _, _, _, lt_yield hl ho (ev_some hx) (evs_eq hzs) hc hren (beqE hlen) h2 hd hW hz, by omega, ?_, h3⟩
              intro j ob hm
              obtain ⟨q, hj, hent⟩ := w3 j ob hm
              have hl0 := beqE hlen
              by_cases hjs : q < H0.length
              · rw [List.getElem?_append_left (by omega)] at hj
                obtain ⟨b0, hb0⟩ := w5 q hjs
                obtain ⟨s, b, e1, e2, _⟩ := okH_get h2 hb0
                rw [hj] at e1; cases e1
                have := hk_lt hl (by rw [hk_eq]; exact e2 : hk H _ = some b)
                exact ⟨by omega, fun hn => absurd (List.mem_of_getElem? hj) hn⟩
              · rw [List.getElem?_append_right (by omega), newSel_get] at hj
                split at hj
                · have := Option.some.inj hj
                  exact ⟨by omega, fun _ => by omega⟩
                · cases hj
            · exact h3.elim
          · exact h3.elim
        · exact h3.elim
      · exact h3.elim
    · exact h1.elim
  · exact h1.elim
end Go.Sh
