/- The reckoning of an operation is sound. -/
import Derived.Test.YtaknbogocnkmnaaSh11
namespace Go.Sh
set_option linter.unusedSimpArgs false

section
variable {P : Program} {T : TT} {o : Oper} {R : RL} {H : HL} {L : Nat} {k : K1}

theorem ok1_pure {z : SV} {F : List Nat} (h : LT P o (rg R) (hg H) F [] (some z)) (hk : k (some z) [] F L) : Ok1 P o R H L k :=
  ⟨_, _, _, _, h, Nat.le_refl _, fun _ _ hm => (by simp at hm), hk⟩

theorem ok1_new {z : SV} {F : List Nat} {b : SB} (h : LT P o (rg R) (hg H) F [(L, some b)] (some z)) (hk : k (some z) [(L, some b)] F (L + 1)) : Ok1 P o R H L k :=
  ⟨_, _, _, _, h, by omega, fun id ob hm => (by simp at hm; omega), hk⟩

theorem ok1_put {id : Nat} {out : Option SV} {F : List Nat} {b : SB} (hid : id < L) (hF : id ∈ F) (h : LT P o (rg R) (hg H) F [(id, some b)] out) (hk : k out [(id, some b)] F L) : Ok1 P o R H L k :=
  ⟨_, _, _, _, h, Nat.le_refl _, fun i ob hm => (by simp at hm; obtain ⟨rfl, _⟩ := hm; exact ⟨hid, fun h => absurd hF h⟩), hk⟩

theorem ok1_move {id : Nat} {z : SV} {F : List Nat} {b : SB} (hid : id < L) (hF : id ∈ F) (h : LT P o (rg R) (hg H) F [(id, none), (L, some b)] (some z)) (hk : k (some z) [(id, none), (L, some b)] F (L + 1)) : Ok1 P o R H L k :=
  ⟨_, _, _, _, h, by omega, fun i ob hm => (by
    simp at hm
    rcases hm with ⟨rfl, _⟩ | ⟨rfl, _⟩
    · exact ⟨by omega, fun h => absurd hF h⟩
    · exact ⟨by omega, fun _ => Nat.le_refl _⟩), hk⟩

theorem ev_some {x : Operand} {z : SV} (h : ev R x = some z) : evO (rg R) x = some z := by rw [← ev_eq]; exact h
theorem hk_some {id : Nat} {b : SB} (h : hk H id = some b) : hg H id = some b := by rw [← hk_eq]; exact h
theorem ble1 {n : Nat} (h : Nat.ble 1 n = true) : 0 < n := Nat.le_of_ble_eq_true h
theorem beqE {n m : Nat} (h : Nat.beq n m = true) : n = m := Nat.eq_of_beq_eq_true h

theorem okLoad (hT : TOk P T) {t : Nat} {x : Operand} (ho : o.op = .load t x) (h : sopLoad T R H L t x k) : Ok1 P o R H L k := by
  unfold sopLoad at h
  split at h
  · rename_i id off hx
    split at h
    · rename_i ti ht
      split at h
      · rename_i b hb
        split at h
        · rename_i h1
          obtain ⟨z, hz, hk⟩ := h
          have ft := hT _ _ ht
          exact ok1_pure (lt_load ho (ev_some hx) (hk_some hb) ft.agg ft.sz (ble1 h1) hz) hk
        · exact h.elim
      · exact h.elim
    · exact h.elim
  · exact h.elim

theorem okStore (hT : TOk P T) (hl : H.length ≤ L) {t : Nat} {x y : Operand} (ho : o.op = .store t x y) (h : sopStore T R H L t x y k) : Ok1 P o R H L k := by
  unfold sopStore at h
  split at h
  · rename_i id off hx
    split at h
    · rename_i z hy
      split at h
      · rename_i ti ht
        split at h
        · rename_i htup
          split at h
          · rename_i h1
            have ft := hT _ _ ht
            split at h
            · rename_i l hb
              obtain ⟨⟨h2, h3⟩, m, rfl, hk⟩ := h
              exact ok1_put (hk_lt hl hb) (by simp) (lt_store ho (ev_some hx) (ev_some hy) (hk_some hb) rfl ft.sz (ble1 h1) htup h2 h3) hk
            · rename_i e l hb
              obtain ⟨⟨h2, h3⟩, m, rfl, hk⟩ := h
              exact ok1_put (hk_lt hl hb) (by simp) (lt_store ho (ev_some hx) (ev_some hy) (hk_some hb) rfl ft.sz (ble1 h1) htup h2 h3) hk
            · exact h.elim
          · exact h.elim
        · exact h.elim
      · exact h.elim
    · exact h.elim
  · exact h.elim

theorem okBox {t : Nat} {x : Operand} (ho : o.op = .box t x) (h : sopBox R L x k) : Ok1 P o R H L k := by
  unfold sopBox at h
  split at h
  · exact h.elim
  · rename_i l hx
    exact ok1_new (lt_box ho (ev_some hx) rfl) h
  · rename_i z h1 h2 hx
    have e : z.cells = [z] := by cases z <;> first | rfl | exact absurd rfl (h2 _)
    have et : z.isTup = false := by cases z <;> first | rfl | exact absurd rfl (h1 _)
    refine ok1_new (b := .box z.cells) (lt_box ho (ev_some hx) et) ?_
    rw [e]; exact h
  · exact h.elim

theorem okAlloc (hT : TOk P T) {t : Nat} (ho : o.op = .alloc t) (h : sopAlloc T L t k) : Ok1 P o R H L k := by
  unfold sopAlloc at h
  split at h
  · rename_i ti ht
    have ft := hT _ _ ht
    split at h
    · rename_i l hz
      exact ok1_new (lt_alloc ho (ft.zero _ hz)) h
    · rename_i z _ hz
      exact ok1_new (lt_alloc ho (ft.zero _ hz)) h
    · exact h.elim
  · exact h.elim

theorem snum_of_sarith {op : BinOp} {a b z : SV} (h1 : op ≠ .shl) (h2 : op ≠ .shr) (h : sarith op a b = some z) : snum op a b = some z := by
  cases op <;> first | exact absurd rfl h1 | exact absurd rfl h2 | exact h

theorem okEq (hT : TOk P T) {t t2 : Nat} {x y : Operand} {a b : SV} {ne : Bool} (ho : o.op = .binOp (if ne then .neq else .eql) t x y t2) (hx : ev R x = some a) (hy : ev R y = some b)
    (h : sopEq T L ne t a b k) : Ok1 P o R H L k := by
  unfold sopEq at h
  split at h
  · rename_i xs ys
    split at h
    · rename_i ti ht
      have ft := hT _ _ ht
      split at h
      · rename_i ks hks
        obtain ⟨⟨h1, h2⟩, hk⟩ := h
        obtain ⟨f1, f2, f3⟩ := ft.ks _ hks
        have := lt_eq_agg (H := hg H) 12 ho (ev_some hx) (ev_some hy) f1 (by omega) f2 f3 h1 h2
        cases ne
        · exact ok1_pure (by simpa using this) hk
        · exact ok1_pure (by simpa using this) hk
      · exact h.elim
    · exact h.elim
  · 
    split at h
    · split at h
      · rename_i z hz
        exact ok1_pure (lt_num (op := .neq) ho (ev_some hx) (ev_some hy) (snum_of_sarith (by simp) (by simp) hz)) h
      · split at h
        · rename_i ti ht
          have ft := hT _ _ ht
          split at h
          · rename_i r hr
            obtain ⟨hs, hk⟩ := h
            obtain ⟨ds, hd, hsq⟩ := ft.sq
            have := lt_eq (H := hg H) ho (ev_some hx) (ev_some hy) hd (hsq.trans hs) hr
            exact ok1_pure (by simpa using this) hk
          · exact h.elim
        · exact h.elim
    · split at h
      · rename_i z hz
        exact ok1_pure (lt_num (op := .eql) ho (ev_some hx) (ev_some hy) (snum_of_sarith (by simp) (by simp) hz)) h
      · split at h
        · rename_i ti ht
          have ft := hT _ _ ht
          split at h
          · rename_i r hr
            obtain ⟨hs, hk⟩ := h
            obtain ⟨ds, hd, hsq⟩ := ft.sq
            have := lt_eq (H := hg H) ho (ev_some hx) (ev_some hy) hd (hsq.trans hs) hr
            exact ok1_pure (by simpa using this) hk
          · exact h.elim
        · exact h.elim

theorem okBin (hT : TOk P T) {t t2 : Nat} {op : BinOp} {x y : Operand} (ho : o.op = .binOp op t x y t2) (h : sopBin T R L op t x y k) : Ok1 P o R H L k := by
  unfold sopBin at h
  split at h
  · rename_i a hx
    split at h
    · rename_i b hy
      split at h
      · split at h
        · obtain ⟨z, hz, hk⟩ := h
          exact ok1_pure (lt_num ho (ev_some hx) (ev_some hy) hz) hk
        · split at h
          · rename_i z hz
            exact ok1_pure (lt_num ho (ev_some hx) (ev_some hy) hz) h
          · exact h.elim
      · split at h
        · obtain ⟨z, hz, hk⟩ := h
          exact ok1_pure (lt_num ho (ev_some hx) (ev_some hy) hz) hk
        · split at h
          · rename_i z hz
            exact ok1_pure (lt_num ho (ev_some hx) (ev_some hy) hz) h
          · exact h.elim
      · obtain ⟨z, hz, hk⟩ := h
        exact ok1_pure (lt_num ho (ev_some hx) (ev_some hy) (snum_of_sarith (by simp) (by simp) hz)) hk
      · obtain ⟨z, hz, hk⟩ := h
        exact ok1_pure (lt_num ho (ev_some hx) (ev_some hy) (snum_of_sarith (by simp) (by simp) hz)) hk
      · exact okEq (ne := false) hT (by simpa using ho) hx hy h
      · exact okEq (ne := true) hT (by simpa using ho) hx hy h
      · rename_i op h1 h2 h3 h4 h5 h6
        split at h
        · rename_i z hz
          exact ok1_pure (lt_num ho (ev_some hx) (ev_some hy) (snum_of_sarith (fun e => h1 e) (fun e => h2 e) hz)) h
        · exact h.elim
    · exact h.elim
  · exact h.elim

theorem okUn {t : Nat} {op : UnOp} {x : Operand} (ho : o.op = .unOp op t x) (h : sopUn R L op x k) : Ok1 P o R H L k := by
  unfold sopUn at h
  split at h
  · rename_i a hx
    split at h
    · rename_i z hz
      exact ok1_pure (lt_un ho (ev_some hx) hz) h
    · exact h.elim
  · exact h.elim

theorem und_int {t : Nat} {ti : TI} {ik : IntKind} (ft : TIOk P t ti) (h : ti.und = .int ik) : P.underlying t = some (.int ik) := by have := ft.und; rw [h] at this; exact this
theorem und_str {t : Nat} {ti : TI} (ft : TIOk P t ti) (h : ti.und = .str) : P.underlying t = some .string := by have := ft.und; rw [h] at this; exact this
theorem und_slc {t el : Nat} {ti : TI} (ft : TIOk P t ti) (h : ti.und = .slc el) : P.underlying t = some (.slice el) := by have := ft.und; rw [h] at this; exact this
theorem und_arr {t n el : Nat} {ti : TI} (ft : TIOk P t ti) (h : ti.und = .arr n el) : P.underlying t = some (.array n el) := by have := ft.und; rw [h] at this; exact this

theorem okConv (hT : TOk P T) {s d : Nat} {x : Operand} (ho : o.op = .convert s d x) (h : sopConv T R H L s d x k) : Ok1 P o R H L k := by
  unfold sopConv at h
  split at h
  · rename_i ts hs
    have fs := hT _ _ hs
    obtain ⟨ds, hds, _⟩ := fs.sq
    split at h
    · rename_i td hd
      have fd := hT _ _ hd
      split at h
      · rename_i a hx
        split at h
        · rename_i ik hu
          split at h
          · rename_i z hz
            exact ok1_pure (lt_conv ho hds (und_int fd hu) (ev_some hx) hz) h
          · exact h.elim
        · rename_i hu
          split at h
          · exact ok1_pure (lt_conv_str ho hds (und_str fd hu) (ev_some hx)) h
          · split at h
            · rename_i el hus
              split at h
              · rename_i te hte
                have fe := hT _ _ hte
                split at h
                · rename_i hue
                  split at h
                  · rename_i hsz
                    have := beqE hsz
                    subst this
                    split at h
                    · rename_i b hb
                      obtain ⟨h1, l, h2, hk⟩ := h
                      exact ok1_pure (lt_b2s ho (und_slc fs hus) (und_int fe hue) (und_str fd hu) (ev_some hx) (hk_some hb) h1 h2) hk
                    · exact h.elim
                  · exact h.elim
                · exact h.elim
              · exact h.elim
            · exact h.elim
          · split at h
            · rename_i el hus
              split at h
              · rename_i te hte
                have fe := hT _ _ hte
                split at h
                · rename_i hue
                  exact ok1_pure (lt_b2s_nil ho (und_slc fs hus) (und_int fe hue) (und_str fd hu) (ev_some hx)) h
                · exact h.elim
              · exact h.elim
            · exact h.elim
          · exact h.elim
        · rename_i el hu
          split at h
          · split at h
            · rename_i hus
              split at h
              · rename_i te hte
                have fe := hT _ _ hte
                split at h
                · rename_i hue
                  exact ok1_new (lt_s2b ho (und_str fs hus) (und_int fe hue) (und_slc fd hu) (ev_some hx)) h
                · exact h.elim
              · exact h.elim
            · exact h.elim
          · exact h.elim
        · exact h.elim
      · exact h.elim
    · exact h.elim
  · exact h.elim

theorem okField (hT : TOk P T) {t f : Nat} {x : Operand} (ho : o.op = .fieldAddr t x f) (h : sopField T R L t x f k) : Ok1 P o R H L k := by
  unfold sopField at h
  split at h
  · rename_i id off hx
    split at h
    · rename_i ti ht
      have ft := hT _ _ ht
      split at h
      · rename_i fs hu
        split at h
        · rename_i o2 ftt sz hf
          split at h
          · rename_i h1
            have := (ft.st hu).2 _ _ hf
            exact ok1_pure (lt_fieldAddr ho (ev_some hx) this.1 this.2 (ble1 h1)) h
          · exact h.elim
        · exact h.elim
      · exact h.elim
    · exact h.elim
  · exact h.elim

theorem okIndexAddr (hT : TOk P T) {t : Nat} {x y : Operand} (ho : o.op = .indexAddr t x y) (h : sopIndexAddr T R L t x y k) : Ok1 P o R H L k := by
  unfold sopIndexAddr at h
  split at h
  · rename_i ti ht
    have ft := hT _ _ ht
    split at h
    · rename_i len el hu
      split at h
      · rename_i te hte
        have fe := hT _ _ hte
        split at h
        · rename_i id off hx
          split at h
          · rename_i z hy
            obtain ⟨i, hi, hlt, hk⟩ := h
            exact ok1_pure (lt_index_arrU ho (ev_some hx) (ev_some hy) hi (und_arr ft hu) fe.sz hlt) hk
          · exact h.elim
        · exact h.elim
      · exact h.elim
    · rename_i el hu
      split at h
      · rename_i te hte
        have fe := hT _ _ hte
        split at h
        · rename_i id off n sz full hx
          split at h
          · rename_i hsz
            have := beqE hsz
            subst this
            split at h
            · rename_i z hy
              obtain ⟨i, hi, hlt, hk⟩ := h
              exact ok1_pure (lt_index_sl ho (ev_some hx) (ev_some hy) hi (und_slc ft hu) fe.sz hlt) hk
            · exact h.elim
          · exact h.elim
        · exact h.elim
      · exact h.elim
    · exact h.elim
  · exact h.elim

theorem okIndex (hT : TOk P T) {t : Nat} {x y : Operand} (ho : o.op = .index t x y) (h : sopIndex T R L t x y k) : Ok1 P o R H L k := by
  unfold sopIndex at h
  split at h
  · rename_i ti ht
    have ft := hT _ _ ht
    split at h
    · rename_i len el hu
      split at h
      · rename_i te hte
        have fe := hT _ _ hte
        split at h
        · rename_i l hx
          split at h
          · rename_i z hy
            obtain ⟨i, hi, hlt, r, hr, hk⟩ := h
            exact ok1_pure (lt_index_agg ho (ev_some hx) (ev_some hy) hi (und_arr ft hu) fe.agg fe.sz hlt hr) hk
          · exact h.elim
        · exact h.elim
      · exact h.elim
    · rename_i hu
      split at h
      · rename_i l hx
        split at h
        · rename_i z hy
          obtain ⟨i, hi, c, hc, hk⟩ := h
          exact ok1_pure (lt_index_str ho (ev_some hx) (ev_some hy) hi (und_str ft hu) hc) hk
        · exact h.elim
      · exact h.elim
    · exact h.elim
  · exact h.elim

theorem okExtract {i : Nat} {x : Operand} (ho : o.op = .extract x i) (h : sopExtract R L x i k) : Ok1 P o R H L k := by
  unfold sopExtract at h
  split at h
  · rename_i l hx
    split at h
    · rename_i z hz
      exact ok1_pure (lt_extract ho (ev_some hx) hz) h
    · exact h.elim
  · exact h.elim

theorem okNil {x : Operand} (ho : o.op = .nilCheck x) (h : sopNil R L x k) : Ok1 P o R H L k := by
  unfold sopNil at h
  split at h
  · rename_i id off hx
    exact ok1_pure (lt_nilCheck ho (ev_some hx)) h
  · exact h.elim

theorem okFunc {fn : Fn} {first cap : Array Operand} (ho : o.op = .makeFunc fn first cap) (h : sopFunc R L fn first cap k) : Ok1 P o R H L k := by
  unfold sopFunc at h
  split at h
  · split at h
    · rename_i f hf
      split at h
      · rename_i zs hz
        have e : first = #[] := by cases first; simp_all
        subst e
        exact ok1_pure (lt_makeFunc ho (evs_eq hz)) h
      · exact h.elim
    · exact h.elim
  · exact h.elim

theorem okArrAt (hT : TOk P T) {t : Nat} {x : Operand} (ho : o.op = .sliceToArrayPointer t x) (h : sopArrAt T R L t x k) : Ok1 P o R H L k := by
  unfold sopArrAt at h
  split at h
  · rename_i ti ht
    have ft := hT _ _ ht
    split at h
    · rename_i len el hu
      split at h
      · rename_i id off n sz full hx
        split at h
        · rename_i h1
          obtain ⟨h2, hk⟩ := h
          exact ok1_pure (lt_arrayAt ho (ev_some hx) (und_arr ft hu) (ble1 h1) h2) hk
        · exact h.elim
      · exact h.elim
    · exact h.elim
  · exact h.elim

theorem okBuild (hT : TOk P T) {t : Nat} {parts : Array (Nat × Operand)} (ho : o.op = .build t parts) (h : sopBuild T R L t parts k) : Ok1 P o R H L k := by
  unfold sopBuild at h
  split at h
  · rename_i xs hxs
    split at h
    · rename_i ti ht
      have ft := hT _ _ ht
      split at h
      · rename_i z hz
        split at h
        · rename_i fs hu
          obtain ⟨l, hl, hk⟩ := h
          exact ok1_pure (lt_build_struct ho (evp_eq hxs) (ft.zero _ hz) (ft.st hu).1 hl) hk
        · rename_i n el hu
          split at h
          · rename_i te hte
            have fe := hT _ _ hte
            obtain ⟨l, hl, hk⟩ := h
            exact ok1_pure (lt_build_array ho (evp_eq hxs) (und_arr ft hu) (ft.zero _ hz) fe.sz hl) hk
          · exact h.elim
        · exact h.elim
      · exact h.elim
    · exact h.elim
  · exact h.elim

theorem okBuildSlice (hT : TOk P T) {t n : Nat} {parts : Array (Nat × Operand)} (ho : o.op = .buildSlice t n parts) (h : sopBuildSlice T R L t n parts k) : Ok1 P o R H L k := by
  unfold sopBuildSlice at h
  split at h
  · rename_i xs hxs
    split at h
    · rename_i ti ht
      have ft := hT _ _ ht
      split at h
      · rename_i el hu
        split at h
        · rename_i te hte
          have fe := hT _ _ hte
          split at h
          · rename_i z hz
            split at h
            · rename_i hn
              split at h
              · rename_i hzs
                obtain ⟨l, hl, hk⟩ := h
                exact ok1_new (lt_buildSlice ho (evp_eq hxs) (und_slc ft hu) (fe.zero _ hz) fe.sz (beqE hzs) (Nat.le_of_ble_eq_true hn) hl) hk
              · exact h.elim
            · exact h.elim
          · exact h.elim
        · exact h.elim
      · exact h.elim
    · exact h.elim
  · exact h.elim

theorem okMake (hT : TOk P T) {t : Nat} {x y : Operand} (ho : o.op = .makeSlice t x y) (h : sopMake T R L t x y k) : Ok1 P o R H L k := by
  unfold sopMake at h
  split at h
  · rename_i n hx
    split at h
    · rename_i m hy
      split at h
      · rename_i ti ht
        have ft := hT _ _ ht
        split at h
        · rename_i el hu
          split at h
          · rename_i te hte
            have fe := hT _ _ hte
            split at h
            · rename_i z hz
              split at h
              · rename_i hzs
                obtain ⟨⟨h1, h2, h3, h4⟩, hk⟩ := h
                exact ok1_new (lt_makeSlice ho (ev_some hx) (ev_some hy) (und_slc ft hu) (fe.zero _ hz) fe.sz (beqE hzs) fe.byt h1 h2 h3 h4) hk
              · exact h.elim
            · exact h.elim
          · exact h.elim
        · exact h.elim
      · exact h.elim
    · exact h.elim
  · exact h.elim

theorem okSlice (hT : TOk P T) {t : Nat} {x : Operand} {lo hi mx : Option Operand} (ho : o.op = .slice t x lo hi mx) (h : sopSlice T R H L t x lo hi mx k) : Ok1 P o R H L k := by
  unfold sopSlice at h
  split at h
  · rename_i ti ht
    have ft := hT _ _ ht
    split at h
    · rename_i el hu
      split at h
      · rename_i te hte
        have fe := hT _ _ hte
        split at h
        · rename_i id off n sz full hx
          split at h
          · rename_i hsz
            have := beqE hsz
            subst this
            split at h
            · obtain ⟨l, h1, u, h2, ⟨h3, h4⟩, hk⟩ := h
              rw [evb_eq] at h1 h2
              exact ok1_pure (lt_slice_sl ho (ev_some hx) (und_slc ft hu) fe.sz h1 h2 h3 h4) hk
            · rename_i zm
              split at h
              · obtain ⟨l, h1, u, h2, m, h3, ⟨h4, h5, h6⟩, hk⟩ := h
                rw [evb_eq] at h1 h2 h3
                exact ok1_pure (lt_slice_sl3 ho (ev_some hx) (und_slc ft hu) fe.sz h1 h2 h3 h4 h5 h6) hk
              · exact h.elim
          · exact h.elim
        · rename_i hx
          split at h
          · obtain ⟨⟨h1, h2⟩, hk⟩ := h
            rw [evb_eq] at h1 h2
            exact ok1_pure (lt_slice_nil ho (ev_some hx) (und_slc ft hu) fe.sz h1 h2) hk
          · exact h.elim
        · exact h.elim
      · exact h.elim
    · rename_i len el hu
      split at h
      · rename_i te hte
        have fe := hT _ _ hte
        split at h
        · rename_i id off hx
          split at h
          · rename_i b hb
            split at h
            · obtain ⟨l, h1, u, h2, ⟨h3, h4, h5, h6⟩, hk⟩ := h
              rw [evb_eq] at h1 h2
              exact ok1_pure (lt_slice_arr ho (ev_some hx) (hk_some hb) (und_arr ft hu) fe.sz h1 h2 h3 h4 h5 h6) hk
            · exact h.elim
          · exact h.elim
        · exact h.elim
      · exact h.elim
    · rename_i hu
      split at h
      · rename_i bs hx
        split at h
        · obtain ⟨l, h1, u, h2, ⟨h3, h4⟩, hk⟩ := h
          rw [evb_eq] at h1 h2
          exact ok1_pure (lt_slice_str ho (ev_some hx) (und_str ft hu) h1 h2 h3 h4) hk
        · exact h.elim
      · exact h.elim
    · exact h.elim
  · exact h.elim

theorem okLen (hT : TOk P T) {t : Nat} {x : Operand} (ho : o.op = .call { callee := .builtin .len, args := #[x], argTypes := #[t] }) (h : sopLen T R L x t k) : Ok1 P o R H L k := by
  unfold sopLen at h
  split at h
  · rename_i ti ht
    have ft := hT _ _ ht
    split at h
    · rename_i el hu
      split at h
      · rename_i hx
        exact ok1_pure (lt_len_sl ho (ev_some hx) (und_slc ft hu)) h
      · rename_i hx
        exact ok1_pure (lt_len_nil ho (ev_some hx) (und_slc ft hu)) h
      · exact h.elim
    · rename_i hu
      exact ok1_pure (lt_len_arr ho (und_arr ft hu)) h
    · rename_i hu
      split at h
      · rename_i hx
        exact ok1_pure (lt_len_str ho (ev_some hx) (und_str ft hu)) h
      · exact h.elim
    · exact h.elim
  · exact h.elim

theorem okMin {t1 t2 : Nat} {x y : Operand} (ho : o.op = .call { callee := .builtin .min, args := #[x, y], argTypes := #[t1, t2] }) (h : sopMin R L x y k) : Ok1 P o R H L k := by
  unfold sopMin at h
  split at h
  · rename_i hx
    split at h
    · rename_i hy
      exact ok1_pure (lt_min ho (ev_some hx) (ev_some hy)) h
    · exact h.elim
  · exact h.elim
theorem okMax {t1 t2 : Nat} {x y : Operand} (ho : o.op = .call { callee := .builtin .max, args := #[x, y], argTypes := #[t1, t2] }) (h : sopMax R L x y k) : Ok1 P o R H L k := by
  unfold sopMax at h
  split at h
  · rename_i hx
    split at h
    · rename_i hy
      exact ok1_pure (lt_max ho (ev_some hx) (ev_some hy)) h
    · exact h.elim
  · exact h.elim

theorem appTI_ok (hT : TOk P T) {t xT el : Nat} {te : TI} {s : Bool} (h : appTI T t xT = some (el, te, s)) : ∃ z, AppTy P t xT el te.sz te.byt z := by
  unfold appTI at h
  split at h
  · rename_i ti ht
    have ft := hT _ _ ht
    split at h
    · rename_i e hu
      split at h
      · rename_i te' hte
        have fe := hT _ _ hte
        split at h
        · rename_i z hz
          split at h
          · rename_i hzs
            split at h
            · rename_i hb
              split at h
              · rename_i tx htx
                have fx := hT _ _ htx
                split at h
                · rename_i e2 hux
                  cases h
                  exact ⟨z, und_slc ft hu, .inl ⟨_, und_slc fx hux⟩, fe.zero _ hz, fe.sz, beqE hzs, fe.byt, ble1 hb⟩
                · rename_i hux
                  cases h
                  exact ⟨z, und_slc ft hu, .inr (und_str fx hux), fe.zero _ hz, fe.sz, beqE hzs, fe.byt, ble1 hb⟩
                · cases h
              · cases h
            · cases h
          · cases h
        · cases h
      · cases h
    · cases h
  · cases h

theorem okAppend (hT : TOk P T) (hl : H.length ≤ L) {t xT : Nat} {x y : Operand} (ho : o.op = .call { callee := .builtin .append, args := #[x, y], argTypes := #[t, xT] }) (h : sopAppend T R H L x y t xT k) : Ok1 P o R H L k := by
  unfold sopAppend at h
  split at h
  · rename_i el te str hti
    obtain ⟨z, hty⟩ := appTI_ok hT hti
    split at h
    · rename_i hx
      split at h
      · rename_i id o2 m sz full hy
        split at h
        · rename_i hsz
          have := beqE hsz
          subst this
          split at h
          · rename_i b hb
            obtain ⟨⟨h1, h2⟩, hk⟩ := h
            have := hk_lt hl hb
            exact ok1_new (lt_append_nil_sl ho hty (ev_some hx) (ev_some hy) (hk_some hb) h1 h2 (by omega)) hk
          · exact h.elim
        · exact h.elim
      · rename_i l hy
        split at h
        · rename_i h1
          obtain ⟨h2, hk⟩ := h
          rw [beqE h1] at hty
          exact ok1_new (lt_append_nil_str ho hty (ev_some hx) (ev_some hy) h2) hk
        · exact h.elim
      · rename_i hy
        exact ok1_pure (lt_append_none ho hty (ev_some hx) (.inl rfl) (ev_some hy)) h
      · exact h.elim
    · rename_i id off n sz full hx
      split at h
      · rename_i hsz
        have := beqE hsz
        subst this
        split at h
        · rename_i hy
          exact ok1_pure (lt_append_none ho hty (ev_some hx) (.inr ⟨_, _, _, _, _, rfl⟩) (ev_some hy)) h
        · rename_i id2 o2 m sz2 full2 hy
          split at h
          · rename_i hsz2
            have := beqE hsz2
            subst this
            split at h
            · rename_i b hb
              split at h
              · rename_i b2 hb2
                have l1 := hk_lt hl hb
                have l2 := hk_lt hl hb2
                split at h
                · obtain ⟨⟨h1, h2, h3, h4⟩, hk⟩ := h
                  exact ok1_new (lt_append_full_sl ho hty (ev_some hx) (hk_some hb) h1 (ev_some hy) (hk_some hb2) h2 h3 h4 (by omega)) hk
                · split at h
                  · rename_i e2 l
                    split at h
                    · rename_i he
                      have := beqE he
                      subst this
                      obtain ⟨⟨h1, h2, h3⟩, hk⟩ := h
                      exact ok1_move l1 (by simp) (lt_append_row_sl ho hty (ev_some hx) (hk_some hb) h1 (ev_some hy) (hk_some hb2) h2 h3 (by omega)) hk
                    · exact h.elim
                  · exact h.elim
              · exact h.elim
            · exact h.elim
          · exact h.elim
        · rename_i s hy
          split at h
          · rename_i h1
            have h1 := beqE h1
            split at h
            · rename_i e2 l hb
              split at h
              · rename_i he
                have := beqE he
                subst this
                obtain ⟨⟨h2, h3⟩, hk⟩ := h
                have l1 := hk_lt hl hb
                rw [h1] at hty hx
                exact ok1_move l1 (by simp) (lt_append_row_str ho hty (ev_some hx) (hk_some hb) h2 (ev_some hy) h3 (by omega)) hk
              · exact h.elim
            · exact h.elim
          · exact h.elim
        · exact h.elim
      · exact h.elim
    · exact h.elim
  · exact h.elim

theorem okCopy (hT : TOk P T) (hl : H.length ≤ L) {t xT : Nat} {x y : Operand} (ho : o.op = .call { callee := .builtin .copy, args := #[x, y], argTypes := #[t, xT] }) (h : sopCopy T R H L x y t k) : Ok1 P o R H L k := by
  unfold sopCopy at h
  split at h
  · rename_i ti ht
    have ft := hT _ _ ht
    split at h
    · rename_i el hu
      split at h
      · rename_i te hte
        have fe := hT _ _ hte
        split at h
        · rename_i id off n sz full hx
          split at h
          · rename_i id2 o2 m sz2 full2 hy
            split at h
            · rename_i hsz
              have := beqE hsz
              subst this
              split at h
              · rename_i hsz2
                have := beqE hsz2
                subst this
                split at h
                · rename_i e l hb
                  split at h
                  · rename_i b2 hb2
                    obtain ⟨⟨h1, h2, h3⟩, hk⟩ := h
                    exact ok1_put (hk_lt hl hb) (by simp) (lt_copy_sl ho (und_slc ft hu) fe.sz (ev_some hx) (hk_some hb) rfl h1 (ev_some hy) (hk_some hb2) h2 rfl h3) hk
                  · exact h.elim
                · rename_i l hb
                  split at h
                  · rename_i b2 hb2
                    obtain ⟨⟨h1, h2, h3⟩, hk⟩ := h
                    exact ok1_put (hk_lt hl hb) (by simp) (lt_copy_sl ho (und_slc ft hu) fe.sz (ev_some hx) (hk_some hb) rfl h1 (ev_some hy) (hk_some hb2) h2 rfl h3) hk
                  · exact h.elim
                · exact h.elim
              · exact h.elim
            · exact h.elim
          · exact h.elim
        · exact h.elim
      · exact h.elim
    · exact h.elim
  · exact h.elim

theorem sop_ok (hT : TOk P T) (hl : H.length ≤ L) (h : sop T P o R H L k) : Ok1 P o R H L k := by
  unfold sop at h
  split at h
  · rename_i x ho
    split at h
    · rename_i z hx
      exact ok1_pure (lt_move (.inl ho) (ev_some hx)) h
    · exact h.elim
  · rename_i x ho
    split at h
    · rename_i z hx
      exact ok1_pure (lt_move (.inr ho) (ev_some hx)) h
    · exact h.elim
  · rename_i c x y ho
    split at h
    · rename_i t hc
      obtain ⟨z, hz, hk⟩ := h
      refine ok1_pure (lt_pick ho (ev_some hc) ?_) hk
      rw [← hz, ev_eq, ev_eq]
    · exact h.elim
  · rename_i ho; exact okBox ho h
  · rename_i ho; exact okAlloc hT ho h
  · rename_i ho; exact okLoad hT ho h
  · rename_i ho; exact okStore hT hl ho h
  · rename_i ho; exact okBin hT ho h
  · rename_i ho; exact okUn ho h
  · rename_i ho; exact okConv hT ho h
  · rename_i ho; exact okField hT ho h
  · rename_i ho; exact okIndexAddr hT ho h
  · rename_i ho; exact okIndex hT ho h
  · rename_i ho; exact okExtract ho h
  · rename_i ho; exact okNil ho h
  · rename_i ho; exact okFunc ho h
  · rename_i ho; exact okArrAt hT ho h
  · rename_i ho; exact okBuild hT ho h
  · rename_i ho; exact okBuildSlice hT ho h
  · rename_i ho; exact okMake hT ho h
  · rename_i ho; exact okSlice hT ho h
  · rename_i b args tys ho
    split at h
    · exact okLen hT ho h
    · exact okMin ho h
    · exact okMax ho h
    · exact okAppend hT hl ho h
    · exact okCopy hT hl ho h
    · exact h
  · exact h
end
end Go.Sh
