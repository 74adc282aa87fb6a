/- clear, of a slice of one-cell values. -/
import Derived.Test.YtaknbogocnkmnaaSh25
namespace Go.Sh
section
variable {P : Program} {ρ : Ren} {H : Heap} {w : World}

theorem zeroCells_one (v : Value) (n : Nat) : (Builtin.zeroCells #[v] n).toList = List.replicate n v := by
  apply List.ext_getElem?
  intro j
  unfold Builtin.zeroCells
  by_cases h : j < n
  · simp [h, Nat.mod_one]
  · simp [h]

theorem clear_ok {o : Oper} {x : Operand} {t el id k n : Nat} {full : Bool} {b : SB} {z : SV} {rb : RB} {e : Operand → Value} (ho : o.op = .call { callee := .builtin .clear, args := #[x], argTypes := #[t] })
    (hT : P.underlying t = some (.slice el)) (hz : pzero P el = some z) (hza : z.atom = true) (hx : Rel ρ (.sl id k n 1 full) (e x)) (hid : H id = some b) (hr : ρ id = some rb) (hb : BRel ρ w rb b) (hown : b.own = true) (hin : k + n ≤ b.cells.length)
    (h0 : 0 < b.cells.length) :
    ∃ w', (execOp e o).run P w = .ok (.value (.tuple #[])) w' ∧ Chg ρ H w [(id, some (b.with (sput b.cells k (.agg (List.replicate n z)))))] ρ w' := by
  obtain ⟨zv, hzv, hzr, _⟩ := run_zero (w := w) hz
  have hrel : Rel ρ (.agg (List.replicate n z)) (.agg ⟨List.replicate n zv⟩) := by
    simp only [Rel]
    refine ⟨_, rfl, ?_, Rels.replicate (hzr ρ) n⟩
    simp only [atoms, List.all_eq_true]
    exact fun y hy => by rw [(List.mem_replicate.1 hy).2]; exact hza
  obtain ⟨p1, p2, p3⟩ := hb.put (k := k) hown hrel (by simp) (by simpa [SV.cells] using hin) h0
  simp only [Rel] at hx
  obtain ⟨rb', a, cap, hr', he, hnc, hfull, hdis⟩ := hx
  rw [hr] at hr'; cases hr'
  have hzc : zv.cells = #[zv] := (hzr ρ).cells hza
  have hclear : ∀ w', (match a with | some a => if n = 0 then Result.ok () w else (storeCells a (List.replicate n zv)).run P w | none => Result.ok () w) = .ok () w' → (execOp e o).run P w = .ok (.value (.tuple #[])) w' := fun w' hst => by
    simp only [execOp, ho, resolve, invoke, builtin, Sem.run_bind, Sem.run_pure, Result.andThen_ok, List.map_toArray, List.map_cons, List.map_nil, Builtin.clear_, List.getElem?_toArray, List.getElem?_cons_zero, run_und hT, he]
    cases a with
    | none => simp only at hst; cases hst; rfl
    | some a =>
      cases n with
      | zero => simp only [if_true] at hst; cases hst; rfl
      | succ n =>
        simp only [Nat.add_one_ne_zero, if_false] at hst
        simp only [Sem.run_bind, hzv, Result.andThen_ok, hzc, zeroCells_one, hst, Sem.run_pure]
  by_cases hz0 : n = 0
  · subst hz0
    refine ⟨w, hclear w ?_, ?_⟩
    · cases a <;> rfl
    · have : World.putCells w rb.blk (rb.off + k) (Value.cells (.agg ⟨List.replicate 0 zv⟩)).toList = w := putCells_nil w _ _
      rw [this] at p1 p2
      exact Chg.put hid hr hown p3 p1 p2
  · obtain ⟨hv, ha2, hcapb⟩ := hdis.resolve_left (by omega)
    obtain ⟨⟨ca, ty, fz, hca, _, hrl, hzz, hsz⟩, _⟩ := hb.cellsAt h0
    rw [hown] at hzz
    have hst := run_puts (P := P) (o := rb.off + k) (List.replicate n zv) 0 hca (hzz rfl) (by have := hrl.length; simp at this ⊢; omega) (fun v hv => by rw [(List.mem_replicate.1 hv).2]; exact (hzr ρ).oneCell hza)
    exact ⟨_, hclear _ (by rw [ha2]; simp only [hz0, if_false]; exact hst), Chg.put hid hr hown p3 p1 p2⟩
end
theorem lt_clear {P : Program} {H : Heap} {o : Oper} {R : Env} {x : Operand} {t el n id k : Nat} {full : Bool} {b : SB} {z : SV} (ho : o.op = .call { callee := .builtin .clear, args := #[x], argTypes := #[t] })
    (hT : P.underlying t = some (.slice el)) (hz : pzero P el = some z) (hza : z.atom = true) (hx : evO R x = some (.sl id k n 1 full)) (hid : H id = some b) (hown : b.own = true) (hin : k + n ≤ b.cells.length) (h0 : 0 < b.cells.length) :
    LT P o R H [id] [(id, some (b.with (sput b.cells k (.agg (List.replicate n z)))))] (some (.tup [])) := by
  refine LT.of_run (by simp [ho]) fun e w ρ h1 h2 _ hfresh => ?_
  have hx2 := h1 x (by simp [ho, Op.operands, Call.operands]) _ hx
  obtain ⟨rb, hr, hbr⟩ := h2 id (by simp) _ hid
  obtain ⟨w', a1, a2⟩ := clear_ok (w := w) (H := H) ho hT hz hza hx2 hid hr hbr hown hin h0
  exact ⟨_, w', ρ, a1, a2, .inl ⟨_, rfl, fun u hu => by cases hu; simp only [Rel]; exact ⟨[], rfl, by simp only [Rels]⟩⟩⟩

/-- clear, in a walk. -/
theorem ok1_clear {P : Program} {o : Oper} {R : RL} {H : HL} {L : Nat} {k : K1} {x : Operand} {t : Nat} (el id off n e : Nat) (full : Bool) (l : List SV) (z : SV) (ho : o.op = .call { callee := .builtin .clear, args := #[x], argTypes := #[t] })
    (hT : P.underlying t = some (.slice el)) (hz : pzero P el = some z) (hza : z.atom = true) (hx : ev R x = some (.sl id off n 1 full)) (hid : hk H id = some (.row e l)) (hin : off + n ≤ l.length) (h0 : 0 < l.length) (hl : H.length ≤ L)
    (h : k (some (.tup [])) [(id, some (.row e (sput l off (.agg (List.replicate n z)))))] [id] L) : Ok1 P o R H L k :=
  ok1_put (hk_lt hl hid) (by simp) (lt_clear ho hT hz hza (ev_some hx) (hk_some hid) rfl hin h0) h
end Go.Sh
