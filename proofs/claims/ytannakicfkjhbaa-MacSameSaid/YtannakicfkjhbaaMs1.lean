/- Merged for a claim: Sh33, M20, M21. -/
import Derived.Test.YtannakicfkjhbaaMf6
/- append onto a row that goes on being used: in place, or into a new one. -/
namespace Go.Sh
open Go.Proofs
set_option linter.unusedSimpArgs false
set_option linter.unusedVariables false

section
variable {P : Program} {ρ : Ren} {H : Heap} {w : World}
theorem app_row2 {o : Oper} {x y : Operand} {t xT el sz by_ id nid n m : Nat} {full : Bool} {z : SV} {l ys : List SV} {rb : RB} {e : Operand → Value} (ho : o.op = .call { callee := .builtin .append, args := #[x, y], argTypes := #[t, xT] })
    (hty : AppTy P t xT el sz by_ z) (hx : Rel ρ (.sl id 0 n sz full) (e x)) (hid : H id = some (.row el l)) (hr : ρ id = some rb) (hb : BRel ρ w rb (.row el l)) (hln : n * sz = l.length) (hsrc : Src P ρ w (e y) sz m ys)
    (hm : (n + m) * by_ ≤ 140737488355328) (hm0 : 0 < m) (hn : ρ nid = none) :
    ∃ v w', (execOp e o).run P w = .ok (.value v) w' ∧ ((Chg ρ H w [(id, some (.row el (l ++ ys)))] ρ w' ∧ Rel ρ (.sl id 0 (n + m) sz false) v) ∨ (∃ ρ', Chg ρ H w [(nid, some (.row el (l ++ ys)))] ρ' w' ∧ Rel ρ' (.sl nid 0 (n + m) sz false) v)) := by
  obtain ⟨i, v, dx, hi, hv, hvs, his, hib, hdx, hdx2⟩ := hty.facts
  have hsrcx : Src P ρ w (e x) sz n ((l.drop 0).take (n * sz)) := src_sl hx hr hb (by show 0 + n * sz ≤ l.length; omega)
  rw [List.drop_zero, hln, List.take_length] at hsrcx
  obtain ⟨news, hl, hf, hrn, ha, hlen, _⟩ := hsrc
  obtain ⟨olds, _, hfo, hro, hao, hleno, _⟩ := hsrcx
  have hl0 := hl w.drawn
  have hf0 := hf w.drawn
  have hf1 := hf (w.drawn + 1)
  have hfo1 := hfo (w.drawn + 1)
  have hnl := hrn.length
  have hx0 := hx
  simp only [Rel] at hx
  obtain ⟨rb', a, c, hr', he, hnc, hfull, hdis⟩ := hx
  rw [hr] at hr'; cases hr'
  by_cases hroom : n + m ≤ c
  · have hc0 : c ≠ 0 := by omega
    obtain ⟨hvirt, ha2, hcap⟩ := hdis.resolve_left hc0
    rcases hb with ⟨hv1, _⟩ | ⟨_, ca, fz, hca, hz, hcs, hla, hlr, hll⟩
    · rw [hvirt] at hv1; cases hv1
    have hcm : (n + m) * sz ≤ c * sz := Nat.mul_le_mul_right _ hroom
    rw [Nat.add_mul] at hcm
    have hst := run_puts (P := P) (o := rb.off + n * sz) news 0 hca hz (by omega) (hrn.oneCell ha)
    have hps : (putAt ca (rb.off + n * sz) news).size = ca.size := putAt_size _ _ _ (by omega)
    refine ⟨.slice a (n + m) c, World.putCells w rb.blk (rb.off + n * sz) news, app_run ho ?_, .inl ⟨?_, ?_⟩⟩
    · rw [he, app_room hty.hT hdx hdx2 hty.hs hl0 hf0 hroom, ha2]
      simp only [add_addr, Nat.add_zero, hst]
      rfl
    · refine Chg.put hid hr rfl ?_ (.inr ⟨hvirt, _, fz, World.putCells_heap w rb.blk _ news hca, hz.put _ _ (by omega), ?_, ?_, ?_, ?_⟩) ?_
      · rintro i o2 ⟨h1, h2, h3⟩
        exact ⟨h1, h2, h3⟩
      · rw [hps]; omega
      · simp [atoms] at hao ha ⊢; exact ⟨hao, ha⟩
      · have e1 : ((putAt ca (rb.off + n * sz) news).toList.drop rb.off).take (l ++ ys).length = List.take l.length (ca.toList.drop rb.off) ++ news := by
          have h1 : (l ++ ys).length = n * sz + news.length := by rw [List.length_append, hnl, hln]
          rw [h1]
          apply List.ext_getElem?
          intro j
          by_cases hj : j < n * sz + news.length
          · rw [drop_take_get hj, Array.getElem?_toList, putAt_getElem? _ _ _ (by omega)]
            by_cases h2 : j < n * sz
            · rw [if_neg (by omega)]
              rw [List.getElem?_append_left (by simp; omega), List.getElem?_take_of_lt (by omega), List.getElem?_drop, Array.getElem?_toList]
            · rw [if_pos (by omega)]
              rw [List.getElem?_append_right (by simp; omega)]
              congr 1
              simp; omega
          · rw [List.getElem?_eq_none (by simp; omega)]
            rw [List.getElem?_eq_none (by simp; omega)]
        rw [e1]
        exact hlr.append hrn
      · simp only [List.length_append, hlen]; omega
      · exact Fr.putCells _ _ _ _ _ hca (by omega) (fun o2 h1 h2 => ⟨hvirt, rfl, by omega⟩)
    · simp only [Rel]
      refine ⟨_, a, c, hr, rfl, hroom, fun h => (by cases h), .inr ⟨hvirt, by rw [ha2], by omega⟩⟩
  · rw [he] at hfo1
    have hg := app_grow (ty := o.type) (a := a) (n := n) (c := c) hty.hT hdx hdx2 hi hv his hl0 hf1 hfo1 (by omega) (by rw [hib]; exact hty.hb0) (by rw [hib]; exact growslice_fits (by omega) hm)
    have hge := grownCap_ge w (n + m) c el
    obtain ⟨g1, g2⟩ := grown_row (ρ := ρ) (w := w) (nid := nid) (el := el) hro hao hrn ha hln.symm hlen hvs hge
    exact ⟨_, _, app_run ho (by rw [he]; exact hg), .inr ⟨_, Chg.new (w.drawn + 1) hn rfl g1, g2⟩⟩
end

section
variable {T : TT} {P : Program} {N : Nat} {ops : Array Oper}
theorem wanted_of_gpass {B L : Nat} {o : Oper} {R : Env} {H : Heap} {ρ : Ren} {a : Act} {w : World} {t : Bool} (hs : Sim N B L ρ R H a w) (ht : gpass ops o R = some t) : Region.wanted o (yielded ops a.tmps) = t := by
  unfold gpass at ht
  unfold Region.wanted
  split at ht
  · rename_i hgd; simp only [hgd]; cases ht; rfl
  · rename_i j want hgd
    simp only [hgd]
    cases hsl : (ops[j]?).bind (·.dst) with
    | none => rw [hsl] at ht; cases ht
    | some s =>
      rw [hsl] at ht
      simp only [Option.bind_some] at ht
      cases hRs : R s with
      | none => rw [hRs] at ht; cases ht
      | some v =>
        rw [hRs] at ht
        cases v <;> (try (cases ht; done))
        rename_i b
        have hrel := hs.regs s _ hRs
        simp only [Rel] at hrel
        have hyi : yielded ops a.tmps j = some b := by
          unfold yielded
          rw [hsl, Option.bind_some]
          have hsz : s < a.tmps.size := by
            refine Nat.lt_of_not_le fun hlt => ?_
            rw [Array.getD_eq_getD_getElem?, Array.getElem?_eq_none hlt] at hrel
            cases hrel
          have : a.tmps[s]? = some (.bool b) := by
            rw [Array.getD_eq_getD_getElem?, Array.getElem?_eq_getElem hsz] at hrel
            rw [Array.getElem?_eq_getElem hsz]; exact congrArg some hrel
          rw [this]
        rw [hyi]
        cases ht
        cases b <;> cases want <;> rfl

/-- An append whose first operand is used later on, too. -/
theorem sops_app2 {Q : RL → HL → Nat → Prop} {o : Oper} {os : List Oper} {R : RL} {H : HL} {L d t xT el sz by_ id id2 n m o2 : Nat} {full full2 : Bool} {x y : Operand} {z : SV} {l : List SV} {b : SB} (hd : dstOk N ops = true)
    (ho : o.op = .call { callee := .builtin .append, args := #[x, y], argTypes := #[t, xT] }) (hgp : gpass ops o (rg R) = some true) (hdst : o.dst = some d) (hty : AppTy P t xT el sz by_ z)
    (hx : evO (rg R) x = some (.sl id 0 n sz full)) (hid : hg H id = some (.row el l)) (hln : n * sz = l.length) (hy : evO (rg R) y = some (.sl id2 o2 m sz full2)) (hb : hg H id2 = some b) (hin : o2 + m * sz ≤ b.cells.length)
    (hm : (n + m) * by_ ≤ 140737488355328) (hm0 : 0 < m) (hidL : id < L)
    (hA : SOps P N ops Q os ((d, .sl id 0 (n + m) sz false) :: R) (hupd H [(id, some (.row el (l ++ (b.cells.drop o2).take (m * sz))))]) L)
    (hB : SOps P N ops Q os ((d, .sl L 0 (n + m) sz false) :: R) (hupd H [(L, some (.row el (l ++ (b.cells.drop o2).take (m * sz))))]) (L + 1)) : SOps P N ops Q (o :: os) R H L := by
  refine ⟨fun r nn B ρ a w k K hos hsim hl hK => ?_⟩
  have hN : ∀ (i : Nat) (o : Oper) (d : Nat), ops[i]? = some o → o.dst = some d → d < N := by
    intro i o d ho hdst
    simp only [dstOk, List.all_eq_true] at hd
    have := hd o (by simpa using Array.mem_of_getElem? ho)
    simpa [hdst] using this
  have e1 : ops[k]? = some o := by have := hos 0; simpa using this.symm
  have h1 : ∀ x v, evO (rg R) x = some v → Rel ρ v (a.eval x) := fun x v hv => by
    cases x with
    | tmp t => exact hsim.regs t v hv
    | const u => exact (ofVal_rel hv).1
    | func f => simp only [evO, Option.some.injEq] at hv; subst hv; simp only [Rel]; exact ⟨[], rfl, Rels.nil_iff.2 rfl⟩
    | global g => cases hv
  obtain ⟨rb, hr, hbr⟩ := hsim.heap id _ hid
  obtain ⟨rb2, hr2, hbr2⟩ := hsim.heap id2 _ hb
  obtain ⟨v, w', hrun, hcase⟩ := app_row2 (e := a.eval) (nid := L) ho hty (h1 x _ hx) hid hr hbr hln (src_sl (h1 y _ hy) hr2 hbr2 hin) hm hm0 (hsim.fresh L (Nat.le_refl _))
  rw [List.length_cons, List.range'_succ, wpOpsIn_cons]
  have hw1 := wanted_of_gpass hsim hgp
  unfold wpOpIn
  simp only [e1, hw1, if_true]
  refine ⟨fun _ _ => trivial, ?_⟩
  rw [Oper.semAt_eq _ _ _ (by simp [ho]), hrun]
  show wpOpsIn (Fw r) nn P ops K (List.range' (k + 1) os.length) (a.put o.dst v) w'
  have hos' : ∀ j, os[j]? = ops[k + 1 + j]? := fun j => by
    have := hos (j + 1)
    simp only [List.getElem?_cons_succ] at this
    rw [this]; congr 1; omega
  rcases hcase with ⟨hch, hrel⟩ | ⟨ρ', hch, hrel⟩
  · have hnL : ∀ i ob, (i, ob) ∈ [(id, some (SB.row el (l ++ (b.cells.drop o2).take (m * sz))))] → i < L := fun i ob hm => by simp at hm; omega
    obtain ⟨s1, ev1⟩ := step_put (o := o) (e := ⟨⟨o.dst, [], [], [id]⟩, some (.sl id 0 (n + m) sz false), [(id, some (.row el (l ++ (b.cells.drop o2).take (m * sz))))]⟩) (L' := L) rfl (fun d hd => hN k o d e1 hd) hsim (Nat.le_refl _) hnL hch (rv := v) (fun v hv => by cases hv; exact hrel)
    rw [appL_wr rfl, ← updW_app, ← hg_hupd] at s1
    rw [← updW_app, ← hg_hupd] at ev1
    have hr1 : rput R o.dst (some (.sl id 0 (n + m) sz false)) = (d, .sl id 0 (n + m) sz false) :: R := by rw [hdst]; rfl
    rw [hr1] at s1
    exact hA.run r nn B _ _ _ (k + 1) K hos' s1 (hupd_le hl hnL) (fun a2 w2 R3 H3 L3 ρ3 hq3 hl3 hs3 hev3 => hK a2 w2 R3 H3 L3 ρ3 hq3 hl3 hs3 (ev1.trans hev3))
  · have hnL : ∀ i ob, (i, ob) ∈ [(L, some (SB.row el (l ++ (b.cells.drop o2).take (m * sz))))] → i < L + 1 := fun i ob hm => by simp at hm; omega
    obtain ⟨s1, ev1⟩ := step_put (o := o) (e := ⟨⟨o.dst, [], [], [L]⟩, some (.sl L 0 (n + m) sz false), [(L, some (.row el (l ++ (b.cells.drop o2).take (m * sz))))]⟩) (L' := L + 1) rfl (fun d hd => hN k o d e1 hd) hsim (by omega) hnL hch (rv := v) (fun v hv => by cases hv; exact hrel)
    rw [appL_wr rfl, ← updW_app, ← hg_hupd] at s1
    rw [← updW_app, ← hg_hupd] at ev1
    have hr1 : rput R o.dst (some (.sl L 0 (n + m) sz false)) = (d, .sl L 0 (n + m) sz false) :: R := by rw [hdst]; rfl
    rw [hr1] at s1
    exact hB.run r nn B _ _ _ (k + 1) K hos' s1 (hupd_le (by omega) hnL) (fun a2 w2 R3 H3 L3 ρ3 hq3 hl3 hs3 hev3 => hK a2 w2 R3 H3 L3 ρ3 hq3 hl3 hs3 (ev1.trans hev3))
end
end Go.Sh
/- mac's laws: MacSame (f12), walked. -/
namespace Go.Sh
open Go.Proofs
set_option maxHeartbeats 4000000
set_option linter.unusedSimpArgs false
set_option linter.unusedVariables false

theorem shl_nz : ∀ j : Nat, j < 8 → shl8 1 j ≠ 0 := by decide
theorem xor_ne {x y : UInt8} (h : y ≠ 0) : x ^^^ y ≠ x := by
  intro e
  apply h
  have : x ^^^ (x ^^^ y) = x ^^^ x := by rw [e]
  rwa [← UInt8.xor_assoc, UInt8.xor_self, UInt8.zero_xor] at this
def flipB (b : List UInt8) (t : Nat) : List UInt8 := b.set (t / 8 % b.length) (b.getD (t / 8 % b.length) 0 ^^^ shl8 1 (t % 8))
theorem flipB_len (b : List UInt8) (t : Nat) : (flipB b t).length = b.length := by unfold flipB; rw [List.length_set]
theorem flipB_ne {b : List UInt8} (h : 0 < b.length) (t : Nat) : flipB b t ≠ b := by
  intro e
  have hq : t / 8 % b.length < b.length := Nat.mod_lt _ h
  have h1 : (flipB b t).getD (t / 8 % b.length) 0 = b.getD (t / 8 % b.length) 0 ^^^ shl8 1 (t % 8) := by
    unfold flipB
    rw [List.getD_eq_getElem?_getD, List.getElem?_set_self hq]; rfl
  rw [e] at h1
  exact xor_ne (shl_nz (t % 8) (Nat.mod_lt _ (by decide))) h1.symm
theorem mcut0 (b X : List UInt8) : List.take (b.map SV.u8).length (List.drop 0 ((b ++ X).map SV.u8)) = b.map SV.u8 := by
  rw [List.drop_zero, List.map_append, List.take_left' rfl]
theorem f12x (b : List UInt8) (t : Int) (hx : 1000 < b.length ∨ t < 0) : SCall Try.prog 12 [.sl 0 0 b.length 1 false, .i t] [some (.ro (b.map .u8))] (.b true) [some (.ro (b.map .u8))] := by
  refine scall_of ttOk (by kernel_rfl : Try.prog.funcs[12]? = some Try.f12) rfl rfl rfl ?_
  try simp only [List.length_cons, List.length_nil, Nat.zero_add, Nat.reduceAdd]
  refine sw_ok ttOk mixed (by kernel_rfl) ?_
  conv => whnf
  repeat (fail)
  refine ok1_callF [] [] true (f45) rfl rfl ⟨⟨rfl, by first | rfl | fail⟩, trivial, by first | rfl | fail, by first | rfl | fail, ?_⟩
  conv => whnf
  by_cases c1 : 1000 < b.length
  · have e1 : decide ((b.length : Int) > 1000) = true := by simp; omega
    repeat (first | (refine brT rfl ?_; conv => whnf) | (refine brF rfl ?_; conv => whnf) | (refine gdF e1 ?_; conv => whnf) | (refine pkT e1 ?_; conv => whnf) | fail)
    refine ⟨[0], ?_, rfl, rfl, ?_, rfl⟩
    · (repeat' (fail)) <;> first | rfl | fail
    · (repeat' (first | exact trivial | refine And.intro ?_ ?_ | fail)) <;> first | exact ren_eq (by first | (simp; done) | fail) (by first | rfl | fail) | fail
  have e1 : decide ((b.length : Int) > 1000) = false := by simp; omega
  have e2 : decide (t < 0) = true := by simp; omega
  repeat (first | (refine brF rfl ?_; conv => whnf) | (refine gdT e1 ?_; conv => whnf) | (refine pkF e1 ?_; conv => whnf) | (refine gdT e2 ?_; conv => whnf) | fail)
  refine ⟨[0], ?_, rfl, rfl, ?_, rfl⟩
  · (repeat' (fail)) <;> first | rfl | fail
  · (repeat' (first | exact trivial | refine And.intro ?_ ?_ | fail)) <;> first | exact ren_eq (by first | (simp; done) | fail) (by first | rfl | fail) | fail
theorem w64_nat (u : Nat) (h : u < 9223372036854775808) : w64 (u : Int) = (u : Int) := by simp only [w64_eq]; omega
theorem sarith_rem {a b : Int} (h : b ≠ 0) : sarith .rem (.i a) (.i b) = some (.i (a.tmod b)) := by simp [sarith, h]
theorem f12m (b : List UInt8) (t : Nat) (h1 : b.length ≤ 1000) (ht : t < 9223372036854775808) : SCall Try.prog 12 [.sl 0 0 b.length 1 false, .i (t : Int)] [some (.ro (b.map .u8))] (.b true) [some (.ro (b.map .u8))] := by
  have e1 : decide ((b.length : Int) > 1000) = false := by simp; omega
  have e2 : decide ((t : Int) < 0) = false := by simp
  have hz0 : 0 + b.length = b.length := Nat.zero_add _
  have hb0 : List.take (0 * ti5.sz) (List.drop 0 (reps 0 (SV.u8 0).cells)) ++ List.take (b.length * ti5.sz) (List.drop 0 (SB.ro (List.map SV.u8 b)).cells) = b.map SV.u8 := by
    show ([] : List SV) ++ List.take (b.length * 1) (b.map SV.u8) = _
    simp
  have q1 := f53 b b (by omega) (by omega) false false
  rw [show decide (b = b) = true from by simp] at q1
  have hbk : b.map SV.u8 ++ List.take (1 * 1) (List.drop 0 (SB.row 5 (sput (reps 1 (SV.u8 0).cells) (0 * ti5.sz) (SV.u8 (UInt8.ofNat (Int.toNat 0))))).cells) = (b ++ [0]).map SV.u8 := by rw [List.map_append]; rfl
  have hbl : (b ++ [0]).length = b.length + 1 := by simp
  have q2 := f53 b (b ++ [0]) (by omega) (by omega) false false
  rw [hbl, show decide (b = b ++ [0]) = false from by simp] at q2
  refine scall_of ttOk (by kernel_rfl : Try.prog.funcs[12]? = some Try.f12) rfl rfl rfl ?_
  try simp only [List.length_cons, List.length_nil, Nat.zero_add, Nat.reduceAdd]
  refine swxs_ok (J := [6]) ttOk mixed (by kernel_rfl) ?_
  conv => whnf
  refine ok1_callF [] [] true (f45) rfl rfl ⟨⟨rfl, by first | rfl | fail⟩, trivial, by first | rfl | fail, by first | rfl | fail, ?_⟩
  conv => whnf
  repeat (first | (refine brF rfl ?_; conv => whnf) | (refine gdT e1 ?_; conv => whnf) | (refine pkF e1 ?_; conv => whnf) | (refine Exists.intro _ (And.intro rfl ?_); conv => whnf) | (refine And.intro (by first | omega | (simp [ti5]; omega)) ?_; conv => whnf) | fail)
  rw [hb0, hz0]
  refine swp_sops rfl ?_
  refine sops_pre (pre := [_, _, _, _, _, _, _, _]) ttOk (by kernel_rfl) ?_
  conv => whnf
  refine ok1_callF [0, 2] [false, false] true (q1) rfl rfl ⟨⟨rfl, by first | rfl | fail⟩, by (repeat' (first | exact trivial | refine And.intro ?_ ?_)) <;> first | exact ren_eq (by first | (simp; done) | fail) (by first | rfl | fail) | fail, by first | rfl | fail, by first | rfl | fail, ?_⟩
  conv => whnf
  repeat (first | (refine gdT rfl ?_; conv => whnf) | (refine Exists.intro _ (And.intro rfl ?_); conv => whnf) | fail)
  have hty : AppTy Try.prog 34 34 5 1 1 (.u8 0) := ⟨by kernel_rfl, .inl ⟨5, by kernel_rfl⟩, by kernel_rfl, by kernel_rfl, rfl, by kernel_rfl, by decide⟩
  refine sops_app2 (el := 5) (sz := 1) (by_ := 1) (z := .u8 0) (id := 2) (id2 := 3) (n := b.length) (m := 1) (o2 := 0) (l := b.map .u8) (by kernel_rfl) rfl rfl rfl hty rfl rfl (by simp) rfl rfl (by decide) (by omega) (by decide) (by decide) ?_ ?_
  ·
    rw [hbk]
    show SOps _ _ _ _ _ _ [some (.ro (b.map .u8)), none, some (.row 5 ((b ++ [0]).map .u8)), some (.row 5 [.u8 0])] _
    refine sops_end ttOk (by kernel_rfl) ?_
    conv => whnf
    repeat (first | (refine gdT rfl ?_; conv => whnf) | fail)
    refine ok1_callF [0, 2] [false, false] true (q2) rfl rfl ⟨⟨rfl, by first | rfl | fail⟩, by (repeat' (first | exact trivial | refine And.intro ?_ ?_)) <;> first | exact ren_eq (by first | (simp; done) | fail) (by first | rfl | fail) | fail, by first | rfl | fail, by first | rfl | fail, ?_⟩
    conv => whnf
    repeat (first | (refine brF rfl ?_; conv => whnf) | (refine Exists.intro _ (And.intro rfl ?_); conv => whnf) | fail)
    by_cases c0 : 0 < b.length
    · have g0 : decide ((b.length : Int) > 0) = true := by rw [decide_eq_true_iff]; omega
      have hq8 : w64 ((t : Int).tdiv 8) = ((t / 8 : Nat) : Int) := by
        rw [show (t : Int).tdiv 8 = ((t / 8 : Nat) : Int) from rfl]; exact w64_nat _ (Nat.lt_of_le_of_lt (Nat.div_le_self _ _) ht)
      have hqi : (w64 ((t : Int).tdiv 8)).tmod (b.length : Int) = ((t / 8 % b.length : Nat) : Int) := by rw [hq8]; rfl
      have hqn : t / 8 % b.length < b.length := Nat.mod_lt _ c0
      have hXl : b.length ≤ (b ++ [0]).length := by simp
      have hbn : (b.length : Int) ≠ 0 := by omega
      have hset : (b ++ [0]).set (t / 8 % b.length) ((b ++ [0]).getD (t / 8 % b.length) 0 ^^^ shl8 (UInt8.ofNat (Int.toNat 1)) ((t : Int).tmod 8).toNat) = flipB b t ++ [0] := by
        have hg : (b ++ [0]).getD (t / 8 % b.length) 0 = b.getD (t / 8 % b.length) 0 := by
          first | (rw [List.getD_eq_getElem?_getD, List.getD_eq_getElem?_getD, List.getElem?_append_left hqn])
        rw [hg]
        unfold flipB
        first | (rw [List.set_append_left _ _ hqn]; rfl)
      have hne := flipB_ne c0 t
      have hfl := flipB_len b t
      obtain ⟨F, hF⟩ : ∃ F, F = flipB b t := ⟨_, rfl⟩
      rw [← hF] at hset hne hfl
      have q3 := (f53 b F (by omega) (by omega) false false).sub 1 0 ((F ++ [0]).map .u8) (F.map .u8) 3 rfl rfl (mcut0 F [0]) (plainL_u8 _) (plainL_u8 _) (by decide) ⟨.inr ⟨rfl, rfl⟩, .inl rfl, trivial⟩ rfl ⟨.inr (.inl (by simp [plainB])), .inl rfl, trivial⟩ ⟨.inr (.inl (by simp [plainB])), .inl rfl, trivial⟩
      have q4 := (f53 F b (by omega) (by omega) false false).sub 0 0 ((F ++ [0]).map .u8) (F.map .u8) 3 rfl rfl (mcut0 F [0]) (plainL_u8 _) (plainL_u8 _) (by decide) ⟨.inl rfl, .inr ⟨rfl, rfl⟩, trivial⟩ rfl ⟨.inl rfl, .inr (.inl (by simp [plainB])), trivial⟩ ⟨.inl rfl, .inr (.inl (by simp [plainB])), trivial⟩
      rw [hfl, show decide (b = F) = false from by simp; exact fun e => hne e.symm] at q3
      rw [hfl, show decide (F = b) = false from by simp; exact hne] at q4
      first | refine brT (by exact g0) ?_ | fail
      conv => whnf
      repeat (first | (refine Exists.intro _ (And.intro rfl ?_); conv => whnf) | fail)
      refine ⟨_, sarith_rem hbn, ?_⟩
      conv => whnf
      repeat (first | (refine Exists.intro _ (And.intro (sput_m8 (i := t / 8 % b.length) (by first | rfl | (simp; done) | fail)) ?_); conv => whnf) | (refine Exists.intro _ (And.intro (sload_u8 (i := t / 8 % b.length) (by first | rfl | (simp; done) | fail) (by first | omega | fail)) ?_); conv => whnf) | (refine Exists.intro _ (And.intro (idx_i (m := t / 8 % b.length) (by first | rfl | omega | fail)) ?_); conv => whnf) | (refine Exists.intro _ (And.intro rfl ?_); conv => whnf) | (refine And.intro (by first | omega | (simp; omega) | fail) ?_; conv => whnf) | (refine And.intro (by kernel_rfl) ?_; conv => whnf) | fail)
      rw [hset]
      refine ok1_callF [0, 2] [false, false] true (q3) rfl rfl ⟨⟨rfl, by first | rfl | fail⟩, by (repeat' (first | exact trivial | refine And.intro ?_ ?_)) <;> first | exact ren_eq (by first | (simp; done) | fail) (by first | rfl | fail) | fail, by first | rfl | fail, by first | rfl | fail, ?_⟩
      conv => whnf
      repeat (first | (refine brT rfl ?_; conv => whnf) | fail)
      refine ok1_callF [2, 0] [false, false] true (q4) rfl rfl ⟨⟨rfl, by first | rfl | fail⟩, by (repeat' (first | exact trivial | refine And.intro ?_ ?_)) <;> first | exact ren_eq (by first | (simp; done) | fail) (by first | rfl | fail) | fail, by first | rfl | fail, by first | rfl | fail, ?_⟩
      conv => whnf
      repeat (first | (refine brT rfl ?_; conv => whnf) | (refine Exists.intro _ (And.intro rfl ?_); conv => whnf) | fail)
      refine ⟨[0], ?_, rfl, rfl, ?_, rfl⟩
      · (repeat' (fail)) <;> first | rfl | fail
      · (repeat' (first | exact trivial | refine And.intro ?_ ?_ | fail)) <;> first | exact ren_eq (by first | (simp; done) | fail) (by first | rfl | fail) | fail
    · have g0 : decide ((b.length : Int) > 0) = false := by rw [decide_eq_false_iff_not]; omega
      first | refine brF (by exact g0) ?_ | fail
      conv => whnf
      repeat (fail)
      refine ⟨[0], ?_, rfl, rfl, ?_, rfl⟩
      · (repeat' (fail)) <;> first | rfl | fail
      · (repeat' (first | exact trivial | refine And.intro ?_ ?_ | fail)) <;> first | exact ren_eq (by first | (simp; done) | fail) (by first | rfl | fail) | fail
  ·
    rw [hbk]
    show SOps _ _ _ _ _ _ [some (.ro (b.map .u8)), none, some (.row 5 (b.map .u8)), some (.row 5 [.u8 0]), some (.row 5 ((b ++ [0]).map .u8))] _
    refine sops_end ttOk (by kernel_rfl) ?_
    conv => whnf
    repeat (first | (refine gdT rfl ?_; conv => whnf) | fail)
    refine ok1_callF [0, 4] [false, false] true (q2) rfl rfl ⟨⟨rfl, by first | rfl | fail⟩, by (repeat' (first | exact trivial | refine And.intro ?_ ?_)) <;> first | exact ren_eq (by first | (simp; done) | fail) (by first | rfl | fail) | fail, by first | rfl | fail, by first | rfl | fail, ?_⟩
    conv => whnf
    repeat (first | (refine brF rfl ?_; conv => whnf) | (refine Exists.intro _ (And.intro rfl ?_); conv => whnf) | fail)
    by_cases c0 : 0 < b.length
    · have g0 : decide ((b.length : Int) > 0) = true := by rw [decide_eq_true_iff]; omega
      have hq8 : w64 ((t : Int).tdiv 8) = ((t / 8 : Nat) : Int) := by
        rw [show (t : Int).tdiv 8 = ((t / 8 : Nat) : Int) from rfl]; exact w64_nat _ (Nat.lt_of_le_of_lt (Nat.div_le_self _ _) ht)
      have hqi : (w64 ((t : Int).tdiv 8)).tmod (b.length : Int) = ((t / 8 % b.length : Nat) : Int) := by rw [hq8]; rfl
      have hqn : t / 8 % b.length < b.length := Nat.mod_lt _ c0
      have hXl : b.length ≤ (b).length := by simp
      have hbn : (b.length : Int) ≠ 0 := by omega
      have hset : (b).set (t / 8 % b.length) ((b).getD (t / 8 % b.length) 0 ^^^ shl8 (UInt8.ofNat (Int.toNat 1)) ((t : Int).tmod 8).toNat) = flipB b t := by
        have hg : (b).getD (t / 8 % b.length) 0 = b.getD (t / 8 % b.length) 0 := by
          first | rfl | fail
        rw [hg]
        unfold flipB
        first | rfl | fail
      have hne := flipB_ne c0 t
      have hfl := flipB_len b t
      obtain ⟨F, hF⟩ : ∃ F, F = flipB b t := ⟨_, rfl⟩
      rw [← hF] at hset hne hfl
      have q3 := f53 b F (by omega) (by omega) false false
      have q4 := f53 F b (by omega) (by omega) false false
      rw [hfl, show decide (b = F) = false from by simp; exact fun e => hne e.symm] at q3
      rw [hfl, show decide (F = b) = false from by simp; exact hne] at q4
      first | refine brT (by exact g0) ?_ | fail
      conv => whnf
      repeat (first | (refine Exists.intro _ (And.intro rfl ?_); conv => whnf) | fail)
      refine ⟨_, sarith_rem hbn, ?_⟩
      conv => whnf
      repeat (first | (refine Exists.intro _ (And.intro (sput_m8 (i := t / 8 % b.length) (by first | rfl | (simp; done) | fail)) ?_); conv => whnf) | (refine Exists.intro _ (And.intro (sload_u8 (i := t / 8 % b.length) (by first | rfl | (simp; done) | fail) (by first | omega | fail)) ?_); conv => whnf) | (refine Exists.intro _ (And.intro (idx_i (m := t / 8 % b.length) (by first | rfl | omega | fail)) ?_); conv => whnf) | (refine Exists.intro _ (And.intro rfl ?_); conv => whnf) | (refine And.intro (by first | omega | (simp; omega) | fail) ?_; conv => whnf) | (refine And.intro (by kernel_rfl) ?_; conv => whnf) | fail)
      rw [hset]
      refine ok1_callF [0, 2] [false, false] true (q3) rfl rfl ⟨⟨rfl, by first | rfl | fail⟩, by (repeat' (first | exact trivial | refine And.intro ?_ ?_)) <;> first | exact ren_eq (by first | (simp; done) | fail) (by first | rfl | fail) | fail, by first | rfl | fail, by first | rfl | fail, ?_⟩
      conv => whnf
      repeat (first | (refine brT rfl ?_; conv => whnf) | fail)
      refine ok1_callF [2, 0] [false, false] true (q4) rfl rfl ⟨⟨rfl, by first | rfl | fail⟩, by (repeat' (first | exact trivial | refine And.intro ?_ ?_)) <;> first | exact ren_eq (by first | (simp; done) | fail) (by first | rfl | fail) | fail, by first | rfl | fail, by first | rfl | fail, ?_⟩
      conv => whnf
      repeat (first | (refine brT rfl ?_; conv => whnf) | (refine Exists.intro _ (And.intro rfl ?_); conv => whnf) | fail)
      refine ⟨[0], ?_, rfl, rfl, ?_, rfl⟩
      · (repeat' (fail)) <;> first | rfl | fail
      · (repeat' (first | exact trivial | refine And.intro ?_ ?_ | fail)) <;> first | exact ren_eq (by first | (simp; done) | fail) (by first | rfl | fail) | fail
    · have g0 : decide ((b.length : Int) > 0) = false := by rw [decide_eq_false_iff_not]; omega
      first | refine brF (by exact g0) ?_ | fail
      conv => whnf
      repeat (fail)
      refine ⟨[0], ?_, rfl, rfl, ?_, rfl⟩
      · (repeat' (fail)) <;> first | rfl | fail
      · (repeat' (first | exact trivial | refine And.intro ?_ ?_ | fail)) <;> first | exact ren_eq (by first | (simp; done) | fail) (by first | rfl | fail) | fail
end Go.Sh
/- mac's laws: MacSame (f12), in all cases. -/
namespace Go.Sh
open Go.Proofs
theorem f12 (b : List UInt8) (t : Int) (ht : t < 9223372036854775808) : SCall Try.prog 12 [.sl 0 0 b.length 1 false, .i t] [some (.ro (b.map .u8))] (.b true) [some (.ro (b.map .u8))] := by
  by_cases hx : 1000 < b.length ∨ t < 0
  · exact f12x b t hx
  · obtain ⟨a, rfl⟩ := Int.eq_ofNat_of_zero_le (show 0 ≤ t by omega)
    exact f12m b a (by omega) (by omega)
end Go.Sh
