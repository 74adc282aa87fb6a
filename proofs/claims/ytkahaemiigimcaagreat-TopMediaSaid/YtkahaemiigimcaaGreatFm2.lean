/- Merged for a claim: Sh12, Sh13, Sh14, Sh15, Sh16. -/
import Derived.LoopNIn
import Derived.Test.YtkahaemiigimcaaGreatProg
import Derived.Test.YtkahaemiigimcaaGreatFm1
set_option linter.unusedSimpArgs false
set_option linter.unusedVariables false
set_option maxRecDepth 100000
open Option renaming some->aa,none->ah,bind_some->ur
open Bool renaming true->ab,false->af,and_eq_true->fI,or_eq_true->oy,not_false->wP
open List renaming replicate->aK,range->cQ,getElem?_eq_some_iff->dA,getElem?_eq_none->dI,mem_cons->gy,lookup_cons->gJ,getElem?_append_left->gP,getElem?_append_right->iR,map_cons->iT,all_eq_true->jg,append_nil->jz,mem_cons_of_mem->jN,mem_of_getElem?->jO,mem_cons_self->kX,getElem?_cons_succ->pP,eq_nil_of_length_eq_zero->ug,all_cons->vA
open Nat renaming le_refl->bH,le_of_ble_eq_true->cr,beq->dD,ble->eU,le_trans->jP,zero_le->kD
open Go.Sem renaming run_bind->bM,run_pure->bZ
open Array renaming getElem?_eq_some_iff->jL,getElem?_setIfInBounds_ne->nI,replicate->sW
open Go.Result renaming andThen->pd
open Iff renaming rfl->qO
namespace Go.Sh
variable{op:BinOp}{t:Bool}{Q Q2:Exit->RL->HL->Nat->Prop}{H H0:HL}{A L L0 N blk:Nat}{y:Operand}{M:Option Nat->Prop}{out:Option SV}{P:Program}{B:Prop}{rb:RB}{R R0:RL}{ρ:bw}{b:SB}{z:SV}{K:SV->Prop}{ti:TI}{T:TT}{w:World}
section
variable {P:Program} {T:TT} {o:Oper} {R:RL} {H:HL} {L:Nat} {k:K1}
theorem dB{F:List Nat}(h:LT P o (rg R) (hg H) F [] (aa z))(hk:k (aa z) [] F L):cR P o R H L k:=
 ⟨_,_,_,_,h,bH _,λ_ _ hm=>(by simp at hm),hk⟩
theorem rM{F:List Nat}(h:LT P o (rg R) (hg H) F [(L,aa b)] (aa z))(hk:k (aa z) [(L,aa b)] F (L+1)):cR P o R H L k:=
 ⟨_,_,_,_,h,ag,λid r hm=>A3,hk⟩
theorem rN{id:Nat}{F:List Nat}(hid:id<L)(r:id∈F)(h:LT P o (rg R) (hg H) F [(id,aa b)] out)(hk:k out [(id,aa b)] F L):cR P o R H L k:=
 ⟨_,_,_,_,h,bH _,λi u hm=>(by simp at hm;obtain⟨rfl,_⟩:=hm;exact⟨hid,λh=>absurd r h⟩),hk⟩
theorem K9{id:Nat}{F:List Nat}(hid:id<L)(r:id∈F)(h:LT P o (rg R) (hg H) F [(id,ah),(L,aa b)] (aa z))(hk:k (aa z) [(id,ah),(L,aa b)] F (L+1)):cR P o R H L k:=
 ⟨_,_,_,_,h,ag,λi u hm=>(by
  simp at hm;rcases hm with⟨rfl,_⟩|⟨rfl,_⟩
  .exact⟨ag,λh=>absurd r h⟩
  .exact⟨ag,λ_=>bH _⟩),hk⟩
theorem bq{x:Operand}(h:ev R x=aa z):aZ (rg R) x=aa z:=by rw [<-Bv];exact h
theorem gb{id:Nat}(h:hk H id=aa b):hg H id=aa b:=by rw [<-kJ];exact h
theorem w8{n:Nat}(h:eU 1 n=ab):0<n:=cr h
theorem gY{n m:Nat}(h:dD n m=ab):n=m:=Nat.eq_of_beq_eq_true h
theorem afW(hT:fC P T){t:Nat}{x:Operand}(ho:o.op= .load t x)(h:Mv T R H L t x k):cR P o R H L k:=by
 unfold Mv at h;split at h
 .rename_i id off hx;split at h
  .rename_i ti ht;split at h
   .rename_i b hb;split at h
    .rename_i h1;obtain⟨z,hz,hk⟩:=h;have ft:=hT _ _ ht;exact dB (aev ho (bq hx) (gb hb) ft.agg ft.sz (w8 h1) hz) hk
    .exact yD
   .exact yD
  .exact yD
 .exact yD
theorem af4(hT:fC P T)(hl:H.length<=L){t:Nat}{x:Operand}(ho:o.op= .store t x y)(h:MB T R H L t x y k):cR P o R H L k:=by
 unfold MB at h;split at h
 .rename_i id off hx;split at h
  .rename_i z hy;split at h
   .rename_i ti ht;split at h
    .rename_i r;have ft:=hT _ _ ht;split at h
     .rename_i l hb;obtain⟨⟨h2,h3⟩,m,rfl,hk⟩:=h;exact rN (gn hl hb) aq (aeS ho (bq hx) (bq hy) (gb hb) ft.sz r h2 h3) hk
     .rename_i e l hb;split at h
      .rename_i h1;obtain⟨⟨h2,h3⟩,m,rfl,hk⟩:=h;exact rN (gn hl hb) aq (aeR ho (bq hx) (bq hy) (gb hb) rfl ft.sz (w8 h1) r h2 h3) hk
      .exact yD
     .exact yD
    .exact yD
   .exact yD
  .exact yD
 .exact yD
theorem afK{t:Nat}{x:Operand}(ho:o.op= .box t x)(h:Mj R L x k):cR P o R H L k:=by
 unfold Mj at h;split at h
 .exact yD
 .rename_i l hx;exact rM (Q5 ho (bq hx) rfl) h
 .rename_i z h1 h2 hx;have e:z.cells= [z]:=by cases z<;>first|rfl|exact absurd rfl (h2 _)
  have r:z.isTup=af:=by cases z<;>first|rfl|exact absurd rfl (h1 _)
  refine rM (b:= .box z.cells) (Q5 ho (bq hx) r) ?_;rw [e];exact h
 .exact yD
theorem afG(hT:fC P T){t:Nat}(ho:o.op= .alloc t)(h:Mf T L t k):cR P o R H L k:=by
 unfold Mf at h;split at h
 .rename_i ti ht;have ft:=hT _ _ ht;split at h
  .rename_i l hz;exact rM (Q3 ho (ft.zero _ hz)) h
  .rename_i z _ hz;exact rM (Q3 ho (ft.zero _ hz)) h
  .exact yD
 .exact yD
theorem D1{a b:SV}(h1:op≠ .shl)(h2:op≠ .shr)(h:gG op a b=aa z):iI op a b=aa z:=by cases op<;>first|exact absurd rfl h1|exact absurd rfl h2|exact h
theorem RJ(hT:fC P T){t t2:Nat}{x:Operand}{a b:SV}{ne:Bool}(ho:o.op= .binOp (if ne then .neq else .eql) t x y t2)(hx:ev R x=aa a)(hy:ev R y=aa b)(h:HB T L ne t a b k):cR P o R H L k:=by
 unfold HB at h;split at h
 .rename_i xs ys;split at h
  .rename_i ti ht;have ft:=hT _ _ ht;split at h
   .rename_i ks F;obtain⟨⟨h1,h2⟩,hk⟩:=h;obtain⟨f1,f2,G⟩:=ft.ks _ F;have:=aee (H:=hg H) 12 ho (bq hx) (bq hy) f1 ag f2 G h1 h2;cases ne
    .exact It
    .exact It
   .exact yD
  .exact yD
 .split at h
  .rename_i ti ht;have ft:=hT _ _ ht;obtain⟨⟨h1,h2⟩,hk⟩:=h;obtain⟨ds,hd,u⟩:=ft.sq;exact dB (aef (H:=hg H) ho (bq hx) (bq hy) hd (u.trans h1) h2) hk
  .exact yD
 .split at h
  .split at h
   .rename_i z hz;exact dB (uS (op:= .neq) ho (bq hx) (bq hy) (D1 aq aq hz)) h
   .split at h
    .rename_i ti ht;have ft:=hT _ _ ht;split at h
     .rename_i r hr;obtain⟨hs,hk⟩:=h;obtain⟨ds,hd,u⟩:=ft.sq;have:=Q6 (H:=hg H) ho (bq hx) (bq hy) hd (u.trans hs) hr;exact It
     .exact yD
    .exact yD
  .split at h
   .rename_i z hz;exact dB (uS (op:= .eql) ho (bq hx) (bq hy) (D1 aq aq hz)) h
   .split at h
    .rename_i ti ht;have ft:=hT _ _ ht;split at h
     .rename_i r hr;obtain⟨hs,hk⟩:=h;obtain⟨ds,hd,u⟩:=ft.sq;have:=Q6 (H:=hg H) ho (bq hx) (bq hy) hd (u.trans hs) hr;exact It
     .exact yD
    .exact yD
theorem afJ(hT:fC P T){t t2:Nat}{x:Operand}(ho:o.op= .binOp op t x y t2)(h:Mi T R L op t x y k):cR P o R H L k:=by
 unfold Mi at h;split at h
 .rename_i a hx;split at h
  .rename_i b hy;split at h
   .split at h
    .obtain⟨z,hz,hk⟩:=h;exact dB (uS ho (bq hx) (bq hy) hz) hk
    .split at h
     .rename_i z hz;exact dB (uS ho (bq hx) (bq hy) hz) h
     .exact yD
   .split at h
    .obtain⟨z,hz,hk⟩:=h;exact dB (uS ho (bq hx) (bq hy) hz) hk
    .split at h
     .rename_i z hz;exact dB (uS ho (bq hx) (bq hy) hz) h
     .exact yD
   .obtain⟨z,hz,hk⟩:=h;exact dB (uS ho (bq hx) (bq hy) (D1 aq aq hz)) hk
   .obtain⟨z,hz,hk⟩:=h;exact dB (uS ho (bq hx) (bq hy) (D1 aq aq hz)) hk
   .exact RJ (ne:=af) hT A2 hx hy h
   .exact RJ (ne:=ab) hT A2 hx hy h
   .rename_i op h1 h2 h3 h4 h5 r;split at h
    .rename_i z hz;exact dB (uS ho (bq hx) (bq hy) (D1 (λe=>h1 e) (λe=>h2 e) hz)) h
    .exact yD
  .exact yD
 .exact yD
theorem af5{t:Nat}{op:UnOp}{x:Operand}(ho:o.op= .unOp op t x)(h:MC R L op x k):cR P o R H L k:=by
 unfold MC at h;split at h
 .rename_i a hx;split at h
  .rename_i z hz;exact dB (aeT ho (bq hx) hz) h
  .exact yD
 .exact yD
theorem Eg{t:Nat}{r:IntKind}(ft:sA P t ti)(h:ti.und= .int r):P.underlying t=aa (.int r):=by have:=ft.und;rw [h]at this;exact this
theorem Nc{t:Nat}(ft:sA P t ti)(h:ti.und= .str):P.underlying t=aa .string:=by have:=ft.und;rw [h]at this;exact this
theorem nF{t el:Nat}(ft:sA P t ti)(h:ti.und= .slc el):P.underlying t=aa (.slice el):=by have:=ft.und;rw [h]at this;exact this
theorem Cu{t n el:Nat}(ft:sA P t ti)(h:ti.und= .arr n el):P.underlying t=aa (.array n el):=by have:=ft.und;rw [h]at this;exact this
theorem afN(hT:fC P T)(hl:H.length<=L){s d:Nat}{x:Operand}(ho:o.op= .convert s d x)(h:Mm T R H L s d x k):cR P o R H L k:=by
 unfold Mm at h;split at h
 .rename_i ts hs;have fs:=hT _ _ hs;obtain⟨ds,O,_⟩:=fs.sq;split at h
  .rename_i td hd;have I:=hT _ _ hd;split at h
   .rename_i a hx;split at h
    .rename_i ik hu;split at h
     .rename_i z hz;exact dB (ad9 ho O (Eg I hu) (bq hx) hz) h
     .exact yD
    .rename_i hu;split at h
     .split at h
      .rename_i el F;split at h
       .rename_i te r;have fe:=hT _ _ r;split at h
        .rename_i u;split at h
         .rename_i Z;have:=gY Z;subst this;split at h
          .rename_i b hb;obtain⟨h1,l,h2,hk⟩:=h;exact dB (adZ ho (nF fs F) (Eg fe u) (Nc I hu) (bq hx) (gb hb) h1 h2) hk
          .exact yD
         .exact yD
        .exact yD
       .exact yD
      .exact yD
     .split at h
      .rename_i el F;split at h
       .rename_i te r;have fe:=hT _ _ r;split at h
        .rename_i u;exact dB (ad1 ho (nF fs F) (Eg fe u) (Nc I hu) (bq hx)) h
        .exact yD
       .exact yD
      .exact yD
     .exact yD
    .rename_i el hu;split at h
     .split at h
      .rename_i F;split at h
       .rename_i te r;have fe:=hT _ _ r;split at h
        .rename_i u;split at h
         .rename_i G;exact rM (aeJ (gY G) ho (Nc fs F) (Eg fe u) (nF I hu) (bq hx)) h
         .exact yD
        .exact yD
       .exact yD
      .exact yD
     .rename_i id off n sz h6;split at h
      .rename_i V;have:=gY V;subst this;split at h
       .rename_i te r;have fe:=hT _ _ r;split at h
        .rename_i u;split at h
         .rename_i U;split at h
          .rename_i e l hb;split at h
           .rename_i G;exact rN (gn hl hb) aq (aea ho (nF I hu) (Eg fe u) (bq hx) (gb hb) (gY G) (w8 U)) h
           .exact yD
          .exact yD
         .exact yD
        .exact yD
       .exact yD
      .exact yD
     .exact yD
    .exact yD
   .exact yD
  .exact yD
 .exact yD
theorem afQ(hT:fC P T){t f:Nat}{x:Operand}(ho:o.op= .fieldAddr t x f)(h:Mp T R L t x f k):cR P o R H L k:=by
 unfold Mp at h;split at h
 .rename_i id off hx;split at h
  .rename_i ti ht;have ft:=hT _ _ ht;split at h
   .rename_i fs hu;split at h
    .rename_i u r sz hf;split at h
     .rename_i h1;have:=(ft.st hu).2 _ _ hf;exact dB (aei ho (bq hx) this.1 this.2 (w8 h1)) h
     .exact yD
    .exact yD
   .exact yD
  .exact yD
 .exact yD
theorem afU(hT:fC P T){t:Nat}{x:Operand}(ho:o.op= .indexAddr t x y)(h:Mt T R L t x y k):cR P o R H L k:=by
 unfold Mt at h;split at h
 .rename_i ti ht;have ft:=hT _ _ ht;split at h
  .rename_i len el hu;split at h
   .rename_i G r;have fe:=hT _ _ r;split at h
    .rename_i id off hx;split at h
     .rename_i z hy;obtain⟨i,hi,hlt,hk⟩:=h;exact dB (ael ho (bq hx) (bq hy) hi (Cu ft hu) fe.sz hlt) hk
     .exact yD
    .exact yD
   .exact yD
  .rename_i el hu;split at h
   .rename_i G r;have fe:=hT _ _ r;split at h
    .rename_i id off n sz F hx;split at h
     .rename_i u;have:=gY u;subst this;split at h
      .rename_i z hy;obtain⟨i,hi,hlt,hk⟩:=h;exact dB (aem ho (bq hx) (bq hy) hi (nF ft hu) fe.sz hlt) hk
      .exact yD
     .exact yD
    .exact yD
   .exact yD
  .exact yD
 .exact yD
theorem afT(hT:fC P T){t:Nat}{x:Operand}(ho:o.op= .index t x y)(h:Ms T R L t x y k):cR P o R H L k:=by
 unfold Ms at h;split at h
 .rename_i ti ht;have ft:=hT _ _ ht;split at h
  .rename_i len el hu;split at h
   .rename_i F u;have fe:=hT _ _ u;split at h
    .rename_i l hx;split at h
     .rename_i z hy;obtain⟨i,hi,hlt,r,hr,hk⟩:=h;exact dB (aek ho (bq hx) (bq hy) hi (Cu ft hu) fe.agg fe.sz hlt hr) hk
     .exact yD
    .exact yD
   .exact yD
  .exact yD
 .exact yD
theorem afR(hT:fC P T){t f:Nat}{x:Operand}(ho:o.op= .field t x f)(h:Mq T R L t x f k):cR P o R H L k:=by
 unfold Mq at h;split at h
 .rename_i l hx;split at h
  .rename_i ti F;have ft:=hT _ _ F;split at h
   .rename_i fs hu;split at h
    .rename_i I G sz hf;split at h
     .rename_i O u;have fe:=hT _ _ u;obtain⟨r,hr,hk⟩:=h;exact dB (aeh ho (bq hx) ((ft.st hu).2 _ _ hf).1 fe.agg fe.sz hr) hk
     .exact yD
    .exact yD
   .exact yD
  .exact yD
 .exact yD
theorem afP{i:Nat}{x:Operand}(ho:o.op= .extract x i)(h:Mo R L x i k):cR P o R H L k:=by
 unfold Mo at h;split at h
 .rename_i l hx;split at h
  .rename_i z hz;exact dB (aeg ho (bq hx) hz) h
  .exact yD
 .exact yD
theorem af0{x:Operand}(ho:o.op= .nilCheck x)(h:Mz R L x k):cR P o R H L k:=by
 unfold Mz at h;split at h
 .rename_i id off hx;exact dB (aeE ho (bq hx)) h
 .exact yD
theorem afS{fn:Fn}{first cap:Array Operand}(ho:o.op= .makeFunc fn first cap)(h:Mr R L fn first cap k):cR P o R H L k:=by
 unfold Mr at h;split at h
 .split at h
  .rename_i f hf;split at h
   .rename_i zs hz;have e:first= #[]:=by cases first;simp_all
    subst e;exact dB (aex ho (C9 hz)) h
   .exact yD
  .exact yD
 .exact yD
theorem afI(hT:fC P T){t:Nat}{x:Operand}(ho:o.op= .sliceToArrayPointer t x)(h:Mh T R L t x k):cR P o R H L k:=by
 unfold Mh at h;split at h
 .rename_i ti ht;have ft:=hT _ _ ht;split at h
  .rename_i len el hu;split at h
   .rename_i id off n sz r hx;split at h
    .rename_i h1;obtain⟨h2,hk⟩:=h;exact dB (adY ho (bq hx) (Cu ft hu) (w8 h1) h2) hk
    .exact yD
   .exact yD
  .exact yD
 .exact yD
theorem afL(hT:fC P T){t:Nat}{r:Array (Nat×Operand)}(ho:o.op= .build t r)(h:Mk T R L t r k):cR P o R H L k:=by
 unfold Mk at h;split at h
 .rename_i xs u;split at h
  .rename_i ti ht;have ft:=hT _ _ ht;split at h
   .rename_i z hz;split at h
    .rename_i fs hu;obtain⟨l,hl,hk⟩:=h;exact dB (ad4 ho (FG u) (ft.zero _ hz) (ft.st hu).1 hl) hk
    .rename_i n el hu;split at h
     .rename_i G F;have fe:=hT _ _ F;obtain⟨l,hl,hk⟩:=h;exact dB (ad3 ho (FG u) (Cu ft hu) (ft.zero _ hz) fe.sz hl) hk
     .exact yD
    .exact yD
   .exact yD
  .exact yD
 .exact yD
theorem LT.unfull{P:Program}{o:Oper}{R:eM}{H:cG}{F:List Nat}{W:ix}{id a n sz:Nat}(h:LT P o R H F W (aa (.sl id a n sz ab)))(f:Bool):LT P o R H F W (aa (.sl id a n sz f)):=by
 intro r n2 a2 w ρ next Q hR G hS hn hk
 refine h r n2 a2 w ρ next Q hR G hS hn (λrv I ρ' hc hv=>hk rv I ρ' hc (λv u=>?_))
 cases u;have h3:=hv _ rfl;simp only [av]at h3|-;obtain⟨rb,b,c,g1,g2,g3,g4,g5⟩:=h3;exact⟨rb,b,c,g1,g2,g3,λ_=>g4 trivial,g5⟩
theorem afM(hT:fC P T){t n:Nat}{r:Array (Nat×Operand)}(ho:o.op= .buildSlice t n r)(h:Ml T R L t n r k):cR P o R H L k:=by
 unfold Ml at h;split at h
 .rename_i xs F;split at h
  .rename_i ti ht;have ft:=hT _ _ ht;split at h
   .rename_i el hu;split at h
    .rename_i I u;have fe:=hT _ _ u;split at h
     .rename_i z hz;split at h
      .rename_i hn;split at h
       .rename_i G;obtain⟨l,hl,hk⟩:=h;exact rM (LT.unfull (ad2 ho (FG F) (nF ft hu) (fe.zero _ hz) fe.sz (gY G) (cr hn) hl) _) hk
       .exact yD
      .exact yD
     .exact yD
    .exact yD
   .exact yD
  .exact yD
 .exact yD
theorem afX(hT:fC P T){t:Nat}{x:Operand}(ho:o.op= .makeSlice t x y)(h:Mw T R L t x y k):cR P o R H L k:=by
 unfold Mw at h;split at h
 .rename_i n hx;split at h
  .rename_i m hy;split at h
   .rename_i ti ht;have ft:=hT _ _ ht;split at h
    .rename_i el hu;split at h
     .rename_i F r;have fe:=hT _ _ r;split at h
      .rename_i z hz;split at h
       .rename_i u;obtain⟨⟨h1,h2,h3,h4⟩,hk⟩:=h;exact rM (aez ho (bq hx) (bq hy) (nF ft hu) (fe.zero _ hz) fe.sz (gY u) fe.byt h1 h2 h3 h4) hk
       .exact yD
      .exact yD
     .exact yD
    .exact yD
   .exact yD
  .exact yD
 .exact yD
theorem af3(hT:fC P T){t:Nat}{x:Operand}{O hi mx:Option Operand}(ho:o.op= .slice t x O hi mx)(h:MA T R H L t x O hi mx k):cR P o R H L k:=by
 unfold MA at h;split at h
 .rename_i ti ht;have ft:=hT _ _ ht;split at h
  .rename_i el hu;split at h
   .rename_i U F;have fe:=hT _ _ F;split at h
    .rename_i id off n sz I hx;split at h
     .rename_i r;have:=gY r;subst this;split at h
      .obtain⟨l,h1,u,h2,⟨h3,h4⟩,hk⟩:=h;rw [C7]at h1 h2;exact dB (aeO ho (bq hx) (nF ft hu) fe.sz h1 h2 h3 h4) hk
      .rename_i V;split at h
       .obtain⟨l,h1,u,h2,m,h3,⟨h4,h5,G⟩,hk⟩:=h;rw [C7]at h1 h2 h3;exact dB (aeP ho (bq hx) (nF ft hu) fe.sz h1 h2 h3 h4 h5 G) hk
       .exact yD
     .exact yD
    .rename_i hx;split at h
     .obtain⟨⟨h1,h2⟩,hk⟩:=h;rw [C7]at h1 h2;exact dB (aeN ho (bq hx) (nF ft hu) fe.sz h1 h2) hk
     .exact yD
    .rename_i id off n c sz hx;split at h
     .rename_i r;have:=gY r;subst this;split at h
      .obtain⟨l,h1,u,h2,⟨h3,h4⟩,hk⟩:=h;rw [C7]at h1 h2;exact dB (aeQ ho (bq hx) (nF ft hu) fe.sz h1 h2 h3 h4) hk
      .exact yD
     .exact yD
    .exact yD
   .exact yD
  .rename_i len el hu;split at h
   .rename_i U F;have fe:=hT _ _ F;split at h
    .rename_i id off hx;split at h
     .rename_i b hb;split at h
      .obtain⟨l,h1,u,h2,⟨h3,h4,h5,G⟩,hk⟩:=h;rw [C7]at h1 h2;exact dB (aeM ho (bq hx) (gb hb) (Cu ft hu) fe.sz h1 h2 h3 h4 h5 G) hk
      .exact yD
     .exact yD
    .exact yD
   .exact yD
  .exact yD
 .exact yD
theorem afV(hT:fC P T){t:Nat}{x:Operand}(ho:o.op= .call {callee:= .builtin .len,args:= #[x],argTypes:= #[t]})(h:Mu T R L x t k):cR P o R H L k:=by
 unfold Mu at h;split at h
 .rename_i ti ht;have ft:=hT _ _ ht;split at h
  .rename_i el hu;split at h
   .rename_i hx;exact dB (aet ho (bq hx) (nF ft hu)) h
   .rename_i hx;exact dB (aes ho (bq hx) (nF ft hu)) h
   .rename_i hx;exact dB (aeu ho (bq hx) (nF ft hu)) h
   .exact yD
  .rename_i hu;exact dB (aer ho (Cu ft hu)) h
  .exact yD
 .exact yD
theorem afZ{r t2:Nat}{x:Operand}(ho:o.op= .call {callee:= .builtin .min,args:= #[x,y],argTypes:= #[r,t2]})(h:My R L x y k):cR P o R H L k:=by
 unfold My at h;split at h
 .rename_i hx;split at h
  .rename_i hy;exact dB (aeC ho (bq hx) (bq hy)) h
  .exact yD
 .rename_i hx;split at h
  .rename_i hy;exact dB (aeD ho (bq hx) (bq hy)) h
  .exact yD
 .exact yD
theorem afY{r t2:Nat}{x:Operand}(ho:o.op= .call {callee:= .builtin .max,args:= #[x,y],argTypes:= #[r,t2]})(h:Mx R L x y k):cR P o R H L k:=by
 unfold Mx at h;split at h
 .rename_i hx;split at h
  .rename_i hy;exact dB (aeA ho (bq hx) (bq hy)) h
  .exact yD
 .rename_i hx;split at h
  .rename_i hy;exact dB (aeB ho (bq hx) (bq hy)) h
  .exact yD
 .exact yD
theorem X9(hT:fC P T){t xT el:Nat}{I:TI}{s:Bool}(h:EZ T t xT=aa (el,I,s)):∃z,pe P t xT el I.sz I.byt z:=by
 unfold EZ at h;split at h
 .rename_i ti ht;have ft:=hT _ _ ht;split at h
  .rename_i e hu;split at h
   .rename_i O r;have fe:=hT _ _ r;split at h
    .rename_i z hz;split at h
     .rename_i G;split at h
      .rename_i hb;split at h
       .rename_i U u;have fx:=hT _ _ u;split at h
        .rename_i e2 F;cases h;exact⟨z,nF ft hu,.inl ⟨_,nF fx F⟩,fe.zero _ hz,fe.sz,gY G,fe.byt,w8 hb⟩
        .cases h
       .cases h
      .cases h
     .cases h
    .cases h
   .cases h
  .cases h
 .cases h
theorem afH(hT:fC P T)(hl:H.length<=L){t xT:Nat}{x:Operand}(ho:o.op= .call {callee:= .builtin .append,args:= #[x,y],argTypes:= #[t,xT]})(h:Mg T R H L x y t xT k):cR P o R H L k:=by
 unfold Mg at h;split at h
 .rename_i el te h6 O;obtain⟨z,r⟩:=X9 hT O;split at h
  .rename_i hx;split at h
   .rename_i id Z m sz G hy;split at h
    .rename_i u;have:=gY u;subst this;split at h
     .rename_i b hb;obtain⟨⟨h1,h2⟩,hk⟩:=h;have:=gn hl hb;exact rM (adT ho r (bq hx) (bq hy) (gb hb) h1 h2 ag) hk
     .exact yD
    .exact yD
   .rename_i hy;exact dB (Q4 ho r (bq hx) (.inl rfl) (bq hy)) h
   .exact yD
  .rename_i id off n sz G hx;split at h
   .rename_i u;have:=gY u;subst this;split at h
    .rename_i hy;exact dB (Q4 ho r (bq hx) (.inr ⟨_,_,_,_,_,rfl⟩) (bq hy)) h
    .rename_i U Z m V I hy;split at h
     .rename_i F;have:=gY F;subst this;split at h
      .rename_i b hb;split at h
       .rename_i b2 hb2;have l1:=gn hl hb;have l2:=gn hl hb2;split at h
        .obtain⟨⟨h1,h2,h3,h4⟩,hk⟩:=h;exact rM (adR ho r (bq hx) (gb hb) h1 (bq hy) (gb hb2) h2 h3 h4 ag) hk
        .split at h
         .rename_i e2 l;split at h
          .rename_i he;have:=gY he;subst this;obtain⟨⟨h1,h2,h3⟩,hk⟩:=h;exact K9 l1 aq (adW ho r (bq hx) (gb hb) h1 (bq hy) (gb hb2) h2 h3 ag) hk
          .exact yD
         .exact yD
       .exact yD
      .exact yD
     .exact yD
    .exact yD
   .exact yD
  .rename_i id off n c sz hx;split at h
   .rename_i u;have:=gY u;subst this;split at h
    .rename_i U Z m c2 V hy;split at h
     .rename_i F;have:=gY F;subst this;split at h
      .rename_i e2 l hb;split at h
       .rename_i b2 hb2;obtain⟨⟨h1,h2,h3,h4⟩,hk⟩:=h;exact rN (gn hl hb) aq (adX ho r (bq hx) (gb hb) rfl h2 (bq hy) (gb hb2) h3 h1 h4) hk
       .exact yD
      .exact yD
     .exact yD
    .exact yD
   .exact yD
  .exact yD
 .exact yD
theorem afO(hT:fC P T)(hl:H.length<=L){t xT:Nat}{x:Operand}(ho:o.op= .call {callee:= .builtin .copy,args:= #[x,y],argTypes:= #[t,xT]})(h:Mn T R H L x y t k):cR P o R H L k:=by
 unfold Mn at h;split at h
 .rename_i ti ht;have ft:=hT _ _ ht;split at h
  .rename_i el hu;split at h
   .rename_i te G;have fe:=hT _ _ G;split at h
    .rename_i id off n sz I hx;split at h
     .rename_i U Z m V u hy;split at h
      .rename_i F;have:=gY F;subst this;split at h
       .rename_i r;have:=gY r;subst this;split at h
        .rename_i e l hb;split at h
         .rename_i O hb2;obtain⟨⟨h1,h2,h3⟩,hk⟩:=h;exact Xf
         .exact yD
        .rename_i l hb;split at h
         .rename_i O hb2;obtain⟨⟨h1,h2,h3⟩,hk⟩:=h;exact Xf
         .exact yD
        .exact yD
       .exact yD
      .exact yD
     .exact yD
    .exact yD
   .exact yD
  .exact yD
 .exact yD
theorem ajd(hT:fC P T)(hl:H.length<=L)(h:D2 T P o R H L k):cR P o R H L k:=by
 unfold D2 at h;split at h
 .rename_i x ho;split at h
  .rename_i z hx;exact dB (Q7 (.inl ho) (bq hx)) h
  .exact yD
 .rename_i x ho;split at h
  .rename_i z hx;exact dB (Q7 (.inr ho) (bq hx)) h
  .exact yD
 .rename_i c x y ho;split at h
  .rename_i t hc;obtain⟨z,hz,hk⟩:=h;refine dB (aeG ho (bq hc) ?_) hk;rw [<-hz,Bv,Bv]
  .exact yD
 .rename_i ho;exact afK ho h
 .rename_i ho;exact afG hT ho h
 .rename_i ho;exact afW hT ho h
 .rename_i ho;exact af4 hT hl ho h
 .rename_i ho;exact afJ hT ho h
 .rename_i ho;exact af5 ho h
 .rename_i ho;split at h
  .exact afN hT hl ho h
  .exact h
 .rename_i ho;exact afQ hT ho h
 .rename_i ho;exact afR hT ho h
 .rename_i ho;exact afU hT ho h
 .rename_i ho;exact afT hT ho h
 .rename_i ho;exact afP ho h
 .rename_i ho;exact af0 ho h
 .rename_i ho;exact afS ho h
 .rename_i ho;exact afI hT ho h
 .rename_i ho;exact afL hT ho h
 .rename_i ho;exact afM hT ho h
 .rename_i ho;exact afX hT ho h
 .rename_i ho;exact af3 hT ho h
 .rename_i b args tys ho;split at h
  .split at h
   .exact afV hT ho h
   .exact h
  .exact afZ ho h
  .exact afY ho h
  .split at h
   .split at h
    .exact afH hT hl ho h
    .exact h
   .exact h
  .split at h
   .exact afO hT hl ho h
   .exact h
  .exact h
 .exact h
end
mutual
def bG(sel:List Nat):SV->Option SV
 | .i n=>aa (.i n)
 | .u8 x=>aa (.u8 x)
 | .u16 x=>aa (.u16 x)
 | .u32 x=>aa (.u32 x)
 | .u64 x=>aa (.u64 x)
 | .b x=>aa (.b x)
 | .s l=>aa (.s l)
 | .p id off=>match sel[id]? with|some j=>aa (.p j off)|none=>ah
 | .pnil=>aa .pnil
 | .sl id o n sz f=>match sel[id]? with|some j=>aa (.sl j o n sz f)|none=>ah
 | .slc id o n c sz=>match sel[id]? with|some j=>aa (.slc j o n c sz)|none=>ah
 | .slnil=>aa .slnil
 | .fnil=>aa .fnil
 | .fn f cap=>match bu sel cap with|some c=>aa (.fn f c)|none=>ah
 | .yld id=>match sel[id]? with|some j=>aa (.yld j)|none=>ah
 | .mp id=>match sel[id]? with|some j=>aa (.mp j)|none=>ah
 | .mnil=>aa .mnil
 | .lit v=>aa (.lit v)
 | .lp r o=>aa (.lp r o)
 | .inil=>aa .inil
 | .ifc t id o=>match sel[id]? with|some j=>aa (.ifc t j o)|none=>ah
 | .agg l=>match bu sel l with|some c=>aa (.agg c)|none=>ah
 | .tup l=>match bu sel l with|some c=>aa (.tup c)|none=>ah
def bu(sel:List Nat):List SV->Option (List SV)
 | []=>aa []
 |x::xs=>match bG sel x with
  |some y=>match bu sel xs with|some ys=>aa (y::ys)|none=>ah
  |none=>ah
end
def cu(sel:List Nat)(ρ:bw):bw:=λj=>match sel[j]? with|some k=>ρ k|none=>ah
mutual
theorem aho{sel:List Nat}:∀(x:SV) {y:SV},bG sel x=aa y->y.atom=x.atom
 | .i _,_,h| .u8 _,_,h| .u16 _,_,h| .u32 _,_,h| .u64 _,_,h| .b _,_,h| .s _,_,h| .pnil,_,h| .slnil,_,h| .fnil,_,h| .mnil,_,h| .lit _,_,h| .lp _ _,_,h| .inil,_,h=>by
  simp only [bG,Option.some.injEq]at h;subst h;rfl
 | .p id off,_,h| .yld id,_,h| .mp id,_,h| .sl id _ _ _ _,_,h| .slc id _ _ _ _,_,h| .ifc _ id _,_,h=>by
  simp only [bG]at h;split at h<;>first|(simp only [Option.some.injEq]at h;subst h;rfl)|cases h
 | .fn f cap,_,h| .agg cap,_,h| .tup cap,_,h=>by
  simp only [bG]at h;split at h<;>first|(simp only [Option.some.injEq]at h;subst h;rfl)|cases h
end
theorem tT{sel:List Nat}:∀{xs ys:List SV},bu sel xs=aa ys->ys.length=xs.length/\cw ys=cw xs
 | [],ys,h=>by simp only [bu,Option.some.injEq]at h;subst h;exact⟨rfl,rfl⟩
 |x::xs,ys,h=>by
  simp only [bu]at h;split at h
  .rename_i y hy;split at h
   .rename_i zs hz;simp only [Option.some.injEq]at h;subst h;obtain⟨e1,e2⟩:=tT hz;exact⟨by simp [e1],by simp only [cw,vA,aho x hy]at e2|-;rw [e2]⟩
   .cases h
  .cases h
mutual
theorem lM{sel:List Nat}{ρ:bw}:∀(x:SV) {y:SV} {v:Value},bG sel x=aa y->(av (cu sel ρ) x v↔av ρ y v)
 | .i _,_,_,h| .u8 _,_,_,h| .u16 _,_,_,h| .u32 _,_,_,h| .u64 _,_,_,h| .b _,_,_,h| .s _,_,_,h| .pnil,_,_,h| .slnil,_,_,h| .fnil,_,_,h| .mnil,_,_,h| .lit _,_,_,h| .lp _ _,_,_,h| .inil,_,_,h=>by
  simp only [bG,Option.some.injEq]at h;subst h;simp only [av]
 | .p id off,_,_,h| .yld id,_,_,h| .mp id,_,_,h| .sl id _ _ _ _,_,_,h| .slc id _ _ _ _,_,_,h| .ifc _ id _,_,_,h=>by
  simp only [bG]at h;split at h
  .rename_i j hj;simp only [Option.some.injEq]at h;subst h;simp only [av,cu,hj]
  .cases h
 | .fn f cap,_,v,h=>by
  simp only [bG]at h;split at h
  .rename_i c hc;simp only [Option.some.injEq]at h;subst h;simp only [av];exact⟨λ⟨cs,e,hr⟩=>⟨cs,e,(jH cap hc).1 hr⟩,λ⟨cs,e,hr⟩=>⟨cs,e,(jH cap hc).2 hr⟩⟩
  .cases h
 | .agg cap,_,v,h=>by
  simp only [bG]at h;split at h
  .rename_i c hc;simp only [Option.some.injEq]at h;subst h;simp only [av];rw [(tT hc).2];exact⟨λ⟨cs,e,ha,hr⟩=>⟨cs,e,ha,(jH cap hc).1 hr⟩,λ⟨cs,e,ha,hr⟩=>⟨cs,e,ha,(jH cap hc).2 hr⟩⟩
  .cases h
 | .tup cap,_,v,h=>by
  simp only [bG]at h;split at h
  .rename_i c hc;simp only [Option.some.injEq]at h;subst h;simp only [av];exact⟨λ⟨cs,e,hr⟩=>⟨cs,e,(jH cap hc).1 hr⟩,λ⟨cs,e,hr⟩=>⟨cs,e,(jH cap hc).2 hr⟩⟩
  .cases h
theorem jH{sel:List Nat}{ρ:bw}:∀(xs:List SV) {ys:List SV} {vs:List Value},bu sel xs=aa ys->(aD (cu sel ρ) xs vs↔aD ρ ys vs)
 | [],ys,vs,h=>by simp only [bu,Option.some.injEq]at h;subst h;simp only [aD]
 |x::xs,ys,vs,h=>by
  simp only [bu]at h;split at h
  .rename_i y hy;split at h
   .rename_i zs hz;simp only [Option.some.injEq]at h;subst h;simp only [aD];exact⟨λ⟨u,us,e,h1,h2⟩=>⟨u,us,e,(lM x hy).1 h1,(jH xs hz).1 h2⟩,λ⟨u,us,e,h1,h2⟩=>⟨u,us,e,(lM x hy).2 h1,(jH xs hz).2 h2⟩⟩
   .cases h
  .cases h
end
theorem OS{sel:List Nat}{off:Nat}{l r:List SV}{f:Bool}(h:bu sel l=aa r):kY (cu sel ρ) w blk off l f↔kY ρ w blk off r f:=by obtain⟨e1,e2⟩:=tT h;unfold kY;rw [e1,e2];simp only [jH l h]
def Ce(sel:List Nat):List (Nat×SV)->Option (List (Nat×SV))
 | []=>aa []
 |(t,v)::R=>match bG sel v with
  |some v'=>match Ce sel R with|some R'=>aa ((t,v')::R')|none=>ah
  |none=>ah
theorem LL{sel:List Nat}:∀{R r:List (Nat×SV)},Ce sel R=aa r->∀t,(R.lookup t=ah/\r.lookup t=ah)\/∃v F,R.lookup t=aa v/\r.lookup t=aa F/\bG sel v=aa F
 | [],r,h,t=>by simp only [Ce,Option.some.injEq]at h;subst h;exact .inl ⟨rfl,rfl⟩
 |(u,v)::R,r,h,t=>by
  simp only [Ce]at h;split at h
  .rename_i F hv;split at h
   .rename_i I hR;simp only [Option.some.injEq]at h;subst h;simp only [gJ];cases G:(t==u)with
    |true=>exact .inr ⟨v,F,rfl,rfl,hv⟩
    |false=>exact LL hR t
   .cases h
  .cases h
theorem ahk{sel:List Nat}{R r:List (Nat×SV)}{tmps:Array Value}(h:Ce sel R=aa r):qW (cu sel ρ) R tmps↔qW ρ r tmps:=by
 constructor
 .intro hr t v hv;rcases LL h t with⟨_,h2⟩|⟨x,y,h1,h2,h3⟩
  .rw [h2]at hv;cases hv
  .rw [h2]at hv;cases hv;exact(lM x h3).1 (hr t x h1)
 .intro hr t v hv;rcases LL h t with⟨h1,_⟩|⟨x,y,h1,h2,h3⟩
  .rw [h1]at hv;cases hv
  .rw [h1]at hv;cases hv;exact(lM _ h3).2 (hr t y h2)
def He(sel:List Nat):OB->Option OB
 | .loop R N ps a b=>match Ce sel R with|some R'=>aa (.loop R' N ps a b)|none=>ah
 | .pend c=>aa (.pend c)
theorem agn{sel:List Nat}{y r:OB}(h:He sel y=aa r):mz (cu sel ρ) w blk y↔mz ρ w blk r:=by
 cases y with
 |loop R N ps a b=>
  simp only [He]at h;split at h
  .rename_i u hR;simp only [Option.some.injEq]at h;subst h;simp only [mz,ahk hR]
  .cases h
 |pend c=>simp only [He,Option.some.injEq]at h;subst h;exact qO
def cZ(sel:List Nat):SB->Option SB
 | .obj y=>match He sel y with|some y'=>aa (.obj y')|none=>ah
 | .ext y=>aa (.ext y)
 | .row t l=>match bu sel l with|some l'=>aa (.row t l')|none=>ah
 | .box l=>match bu sel l with|some l'=>aa (.box l')|none=>ah
 | .ro l=>match bu sel l with|some l'=>aa (.ro l')|none=>ah
theorem LK{sel:List Nat}{l r:List SV}(h:bu sel l=aa r):l= []↔r= []:=by have:=(tT h).1;constructor<;>(intro e;subst e;apply ug;simp_all)
theorem l9{sel:List Nat}{r:SB}(h:cZ sel b=aa r):cd (cu sel ρ) w rb b↔cd ρ w rb r:=by
 cases b with
 |obj y=>
  simp only [cZ]at h;split at h
  .rename_i F hy;cases h;exact agn hy
  .cases h
 |ext y=>simp only [cZ,Option.some.injEq]at h;subst h;exact qO
 |ro l=>
  simp only [cZ]at h;split at h
  .rename_i u hl;cases h;simp only [cd,OS hl,LK hl,(tT hl).1]
  .cases h
 |box l=>
  simp only [cZ]at h;split at h
  .rename_i u hl;cases h;simp only [cd,OS hl,(tT hl).1]
  .cases h
 |row t l=>
  simp only [cZ]at h;split at h
  .rename_i u hl;cases h;simp only [cd,LK hl,(tT hl).1,(tT hl).2,jH l hl]
  .cases h
theorem tC{sel:List Nat}{r:SB}(h:cZ sel b=aa r)(k o:Nat):(foot rb b k o↔foot rb r k o)/\r.own=b.own:=by
 rcases b with _|_|_|y|y
 case ext=>simp only [cZ,Option.some.injEq]at h;subst h;exact⟨qO,rfl⟩
 case obj=>
  simp only [cZ]at h;split at h
  .cases h;exact⟨qO,rfl⟩
  .cases h
 all_goals simp only [cZ]at h<;>split at h<;>cases h<;>rename_i u hl<;>simp only [foot,SB.own,(tT hl).1,and_self,iff_self]
def sI(sel:List Nat)(R:RL):RL->Prop
 | []=>True
 |(t,v0)::R0=>(match lk t R with|some v=>bG sel v0=aa v|none=>False)/\sI sel R R0
theorem RM{sel:List Nat}{ρ:bw}{R:RL}{tmps:Array Value}(hr:qW ρ R tmps):∀{R0:RL},sI sel R R0->qW (cu sel ρ) R0 tmps
 | [],_=>λt v h=>by cases h
 |(u,x)::R0,h=>λt v hv=>by
  obtain⟨h1,h2⟩:=h;simp only [gJ]at hv;split at hv
  .rename_i e;have:t=u:=lS;subst this;cases hv;split at h1
   .rename_i y hy;rw [vV]at hy;exact(lM _ h1).2 (hr t y hy)
   .exact h1.elim
  .exact RM hr h2 t v hv
def Ld(sel:List Nat)(r y:OB):Prop:=
 match r,y with
 | .loop R0 N0 ps0 a0 b0,.loop R N ps a b=>sI sel R R0/\N0=N/\ps0=ps/\a0=a/\b0=b
 | .pend c0,.pend c=>c0=c
 |_,_=>False
theorem af1{sel:List Nat}{u y:OB}(h:Ld sel u y)(hb:mz ρ w blk y):mz (cu sel ρ) w blk u:=by
 unfold Ld at h;split at h
 .obtain⟨h0,rfl,rfl,rfl,rfl⟩:=h;obtain⟨r,h1,h2,h3,h4,h5,F,G,I⟩:=hb;exact⟨r,h1,h2,h3,h4,h5,F,G,RM I h0⟩
 .subst h;exact hb
 .exact yD
def B5(sel:List Nat)(r b:SB):Prop:=
 match r,b with
 | .row t l0,.row t' l=>t=t'/\bu sel l0=aa l
 | .box l0,.box l=>bu sel l0=aa l
 | .ro l0,.ro l=>bu sel l0=aa l
 | .ro l0,.row _ l=>bu sel l0=aa l
 | .ro l0,.box l=>bu sel l0=aa l
 | .obj y0,.obj y=>Ld sel y0 y
 | .ext .nm,_=>True
 | .ext y0,.ext y=>y0=y
 |_,_=>False
theorem rP{sel:List Nat}{G:SB}(h:B5 sel G b)(hb:cd ρ w rb b):cd (cu sel ρ) w rb G/\(∀k o,foot rb G k o->foot rb b k o)/\(G.own=ab->b.own=ab):=by
 unfold B5 at h;split at h
 .rename_i t r I l;obtain⟨rfl,h⟩:=h;have e:cZ sel (.row t r)=aa (.row t l):=EJ;exact⟨(l9 e).2 hb,λk o=>(tC e k o).1.1,λ_=>rfl⟩
 .rename_i r l;have e:cZ sel (.box r)=aa (.box l):=EJ;exact⟨(l9 e).2 hb,λk o=>(tC e k o).1.1,λ_=>rfl⟩
 .rename_i r l;have e:cZ sel (.ro r)=aa (.ro l):=EJ;exact⟨(l9 e).2 hb,λk o=>(tC e k o).1.1,λh=>by cases h⟩
 .rename_i r t l;have e:cZ sel (.ro r)=aa (.ro l):=EJ;have F:cd ρ w rb (.ro l):=by
   rcases hb with⟨h1,h2⟩|⟨hv,c,fz,g1,g2,g3,g4,g5,g6⟩
   .exact .inl h2
   .exact .inr ⟨⟨c,t,fz,g1,g4,g5,λh=>(by cases h),ag⟩,g6,hv⟩
  refine⟨(l9 e).2 F,λk o hf=>?_,λh=>by cases h⟩;have u:=(tC e k o (rb:=rb)).1.1 hf;rcases hb with⟨h1,rfl⟩|⟨hv,_⟩
  .have:=u.2;simp at this;omega
  .exact⟨hv,u.1,u.2.1⟩
 .rename_i r l;have e:cZ sel (.ro r)=aa (.ro l):=EJ;have F:cd ρ w rb (.ro l):=by obtain⟨⟨c,t,fz,g1,g2,g3,g4,g5⟩,g6,g7⟩:=hb;exact .inr ⟨⟨c,t,fz,g1,g2,g3,λh=>(by cases h),g5⟩,g6,g7⟩
  exact⟨(l9 e).2 F,λk o hf=>(tC e k o (rb:=rb)).1.1 hf,λh=>by cases h⟩
 .exact⟨af1 h hb,λk o hf=>hf,λ_=>rfl⟩
 .exact⟨trivial,λk o hf=>hf.elim,λh=>by cases h⟩
 .subst h;exact⟨hb,λk o hf=>hf,λh=>h⟩
 .exact yD
def iF(sel:List Nat)(H:HL):List Nat->HL->Prop
 |_,[]=>True
 | [],aa _::_=>False
 | [],ah::H0=>iF sel H [] H0
 |_::ss,ah::H0=>iF sel H ss H0
 |s::ss,aa b0::H0=>(match hk H s with|some b=>B5 sel b0 b|none=>False)/\iF sel H ss H0
theorem mL{sel:List Nat}{H:HL}:∀{H0:HL} {ss:List Nat} {j:Nat} {b0:SB},iF sel H ss H0->hg H0 j=aa b0->∃s b,ss[j]?=aa s/\hg H s=aa b/\B5 sel b0 b
 | [],ss,j,b0,_,h=>sg
 |none::H0,[],j,b0,hok,h=>by
  cases j with
  |zero=>simp [hg]at h
  |succ j=>obtain⟨s,b,h1,_⟩:=mL (H0:=H0) (ss:= []) (j:=j) hok mZ;simp at h1
 |some _::H0,[],j,b0,hok,h=>hok.elim
 |none::H0,s::ss,j,b0,hok,h=>by
  cases j with
  |zero=>simp [hg]at h
  |succ j=>simpa using mL (H0:=H0) (ss:=ss) (j:=j) hok mZ
 |some b1::H0,s::ss,j,b0,hok,h=>by
  obtain⟨h1,h2⟩:=hok;cases j with
  |zero=>
   have e:b1=b0:=mZ;subst e;split at h1
   .rename_i b hb;exact⟨s,b,rfl,gb hb,h1⟩
   .exact h1.elim
  |succ j=>simpa using mL (H0:=H0) (ss:=ss) (j:=j) h2 mZ
def only(s i:Nat):Nat->List Nat->Bool
 |_,[]=>ab
 |k,x::xs=>match dD x s with
  |true=>match dD k i with|true=>only s i (k+1) xs|false=>af
  |false=>only s i (k+1) xs
theorem RN{s i:Nat}:∀{xs:List Nat} {k j:Nat},only s i k xs=ab->xs[j]?=aa s->k+j=i
 | [],k,j,_,h=>pM
 |x::xs,k,j,ho,h=>by
  simp only [only]at ho;cases j with
  |zero=>
   simp at h;subst h;have e:dD x x=ab:=aq;rw [e]at ho;simp only at ho;split at ho
   .rename_i hk;simpa using gY hk
   .cases ho
  |succ j=>
   have r:only s i (k+1) xs=ab:=by
    split at ho
    .split at ho
     .exact ho
     .cases ho
    .exact ho
   have:=RN (j:=j) r kV;omega
def iA(all:List Nat):Nat->List Nat->HL->Bool
 |_,_,[]=>ab
 |_,[],_=>ab
 |k,_::ss,ah::H0=>iA all (k+1) ss H0
 |k,s::ss,aa b0::H0=>match b0.own with
  |true=>match only s k 0 all with|true=>iA all (k+1) ss H0|false=>af
  |false=>iA all (k+1) ss H0
theorem Fy{all:List Nat}:∀{H0:HL} {ss:List Nat} {k i:Nat} {b0:SB} {s:Nat},iA all k ss H0=ab->ss[i]?=aa s->hg H0 i=aa b0->b0.own=ab->∀j,all[j]?=aa s->j=k+i
 | [],ss,k,i,b0,s,_,_,h,_=>sg
 |b1::H0,[],k,i,b0,s,_,h,_,_=>pM
 |none::H0,s1::ss,k,i,b0,s,hd,h1,h2,h3=>by
  intro j hj;cases i with
  |zero=>simp [hg]at h2
  |succ i=>
   have:=Fy (H0:=H0) (ss:=ss) (k:=k+1) (i:=i) hd lv A4 h3 j hj;omega
 |some b1::H0,s1::ss,k,i,b0,s,hd,h1,h2,h3=>by
  intro j hj;simp only [iA]at hd;cases i with
  |zero=>
   simp at h1;subst h1;have e:b1=b0:=A4;subst e;rw [h3]at hd;simp only at hd;split at hd
   .rename_i ho;have:=RN ho hj;omega
   .cases hd
  |succ i=>
   have r:iA all (k+1) ss H0=ab:=by
    split at hd
    .split at hd
     .exact hd
     .cases hd
    .exact hd
   have:=Fy (H0:=H0) (ss:=ss) (k:=k+1) (i:=i) r lv A4 h3 j hj;omega
theorem RK{sel:List Nat}{R:RL}:∀{R0:RL} {t:Nat} {v0:SV},sI sel R R0->rg R0 t=aa v0->∃v,rg R t=aa v/\bG sel v0=aa v
 | [],t,v0,_,h=>by simp [rg]at h
 |(t1,v1)::R0,t,v0,hok,h=>by
  obtain⟨h1,h2⟩:=hok;simp only [rg,gJ]at h;split at h
  .rename_i e;have:t=t1:=lS;subst this;simp only [Option.some.injEq]at h;subst h;split at h1
   .rename_i v hv;exact⟨v,by rw [rg,<-vV];exact hv,h1⟩
   .exact h1.elim
  .exact RK h2 h
structure fT(A:Nat)(ρ:bw)(H:cG)(w:World)(ρ':bw)(H':cG)(w':World):Prop where
 ext:∀id,id<A->∀rb,ρ id=aa rb->ρ' id=aa rb
 fr:Fr (dV ρ H) w w'
 own:∀k o,dV ρ' H' k o->dV ρ H k o\/w.heap.size<=k
theorem Ev.toA{H:cG}{ρ':bw}{r:cG}{u:World}(h:Ev ρ H w ρ' r u):fT A ρ H w ρ' r u:=⟨λid _ rb hr=>h.ext id rb hr,h.fr,h.own⟩
theorem fT.refl(A:Nat)(ρ:bw)(H:cG)(w:World):fT A ρ H w ρ H w:=(Ev.refl ρ H w).toA
theorem fT.trans{ρ1 ρ2 ρ3:bw}{H1 r u:cG}{F G I:World}(h:fT A ρ1 H1 F ρ2 r G)(k:fT A ρ2 r G ρ3 u I):fT A ρ1 H1 F ρ3 u I:=
  ⟨λid hi rb hr=>k.ext id hi rb (h.ext id hi rb hr),h.fr.trans k.fr (λx o hx ho=>(h.own x o ho).resolve_right ag),
   λx o ho=>(k.own x o ho).elim (λh2=>h.own x o h2) (λh2=> .inr (jP h.fr.size h2))⟩
def cl(A:Nat)(R:RL)(H:HL)(L:Nat)(R0:RL)(H0:HL)(L0:Nat):Prop:=
 ∀N B ρ a w,dO N B L ρ (rg R) (hg H) a w->H.length<=L->∃ρ0,dO N B L0 ρ0 (rg R0) (hg H0) a w/\H0.length<=L0/\fT A ρ (hg H) w ρ0 (hg H0) w
theorem cl.refl:cl A R H L R H L:=λ_ _ ρ _ _ hs hl=>⟨ρ,hs,hl,fT.refl _ _ _ _⟩
theorem cl.trans{O U V:RL}{H1 r u:HL}{F G I:Nat}(h:cl A O H1 F U r G)(k:cl A U r G V u I):cl A O H1 F V u I:=
 λN B ρ a w hs hl=>let⟨ρ2,s2,l2,e2⟩:=h N B ρ a w hs hl;let⟨ρ3,s3,l3,e3⟩:=k N B ρ2 a w s2 l2;⟨ρ3,s3,l3,e2.trans e3⟩
def rE(sel:List Nat)(A:Nat):Bool:=(cQ A).all λj=>match sel[j]? with|some k=>dD k j|none=>af
theorem Hy{B:Nat}{a:Act}(sel:List Nat)(hl:sel.length=L0)(hA:rE sel A=ab)(hR:sI sel R R0)(hH:iF sel H sel H0)(hd:iA sel 0 sel H0=ab)(hs:dO N B L ρ (rg R) (hg H) a w):dO N B L0 (cu sel ρ) (rg R0) (hg H0) a w/\fT A ρ (hg H) w (cu sel ρ) (hg H0) w:=by
 have own:∀k o,dV (cu sel ρ) (hg H0) k o->dV ρ (hg H) k o:=by rintro k o ⟨id,b0,rb,h1,h2,h3,h4⟩;obtain⟨s,b,e1,e2,e3⟩:=mL hH h1;simp only [cu,e1]at h2;obtain⟨I,r,hb⟩:=hs.heap s b e2;rw [h2]at r;cases r;obtain⟨_,g2,g3⟩:=rP e3 hb;exact⟨s,b,rb,e2,h2,g3 h3,g2 k o h4⟩
 refine⟨⟨hs.size,?_,?_,?_,?_,hs.dfr⟩,⟨?_,Fr.refl _ _,λk o h=> .inl (own k o h)⟩⟩
 .intro t v0 hv;obtain⟨v,h1,h2⟩:=RK hR hv;exact(lM v0 h2).2 (hs.regs t v h1)
 .intro j b0 hj;obtain⟨s,b,e1,e2,e3⟩:=mL hH hj;obtain⟨rb,hr,hb⟩:=hs.heap s b e2;exact⟨rb,by simp only [cu,e1];exact hr,(rP e3 hb).1⟩
 .intro i j bi bj ri rj hne hi hj hri F u k o ⟨hfi,O⟩;obtain⟨U,Z,e1,e2,e3⟩:=mL hH hi;obtain⟨V,cj,f1,f2,f3⟩:=mL hH hj;simp only [cu,e1]at hri;simp only [cu,f1]at F;obtain⟨I,r,hb⟩:=hs.heap U Z e2;rw [hri]at r;cases r;obtain⟨I,r,hb2⟩:=hs.heap V cj f2;rw [F]at r;cases r;obtain⟨_,g2,g3⟩:=rP e3 hb;obtain⟨_,g4,g5⟩:=rP f3 hb2;by_cases G:U=V
  .subst G;have:=Fy hd e1 hi u j f1;omega
  .exact hs.sep U V Z cj ri rj G e2 f2 hri F (g3 u) k o ⟨g2 k o hfi,g4 k o O⟩
 .intro id hid;have:sel[id]?=ah:=dI ag;simp only [cu,this]
 .intro id hid rb hr;simp only [rE,jg,List.mem_range]at hA;have:=hA id hid;split at this
  .rename_i k hk;have e:=gY this;subst e;simp only [cu,hk];exact hr
  .cases this
theorem cl.sel(sel:List Nat)(hl:sel.length=L0)(hA:rE sel A=ab)(hR:sI sel R R0)(hH:iF sel H sel H0)(hd:iA sel 0 sel H0=ab)(cx:eU H0.length L0=ab):cl A R H L R0 H0 L0:=by intro N B ρ a w hs _;obtain⟨h1,h2⟩:=Hy sel hl hA hR hH hd hs;exact⟨_,h1,cr cx,h2⟩
theorem bP(sel:List Nat)(hR:sI sel R R0)(hH:iF sel H sel H0)(hl:sel.length=L0:=by exact rfl)(hA:rE sel A=true:=by exact rfl)(hd:iA sel 0 sel H0=true:=by exact rfl)(cx:Nat.ble H0.length L0=true:=by exact rfl):cl A R H L R0 H0 L0:=cl.sel sel hl hA hR hH hd cx
theorem bL(sel:List Nat)(hl:sel.length=L0:=by exact rfl)(hA:rE sel A=true:=by exact rfl)(hR:sI sel R R0:=by exact bU)(hH:iF sel H sel H0:=by exact bU)(hd:iA sel 0 sel H0=true:=by exact rfl)(cx:Nat.ble H0.length L0=true:=by exact rfl):cl A R H L R0 H0 L0:=cl.sel sel hl hA hR hH hd cx
theorem pw{H:HL}{L:Nat}(h:H.length<=L):∀{W:ix},(∀id r,(id,r)∈W->id<L)->(eX H W).length<=L
 | [],_=>h
 |(id,r)::W,hW=>by
  have h1:=pw h (W:=W) (λi o hm=>hW i o (jN _ hm));have h2:=hW id r (kX ..);simp only [eX,qj];split
  .simpa using h1
  .simp;omega
theorem cl.virt(t ty sz:Nat)(ht:lk t R=aa .slnil):cl A R H L ((t,.sl L 0 0 sz af)::R) (eX H [(L,aa (.row ty []))]) (L+1):=by
 intro N B ρ a w hs hl;have hc:=cI.virtual (ρ:=ρ) (H:=hg H) (w:=w) (t:=ty) (hs.fresh L (bH _));have r:=hc.evo (H:=hg H) (λ_ _ _=>rfl) hs.heap hs.sep;rw [<-mK]at r;refine⟨_,⟨hs.size,?_,r.heap,r.sep,?_,hs.dfr⟩,?_,r.ev.toA⟩
 .intro t2 v hv;simp only [rg,gJ]at hv;split at hv
  .rename_i e;have:t2=t:=lS;subst this;cases hv;have h1:=hs.regs t2 .slnil pN;simp only [av]at h1|-;exact⟨_,ah,0,gN _ _ _,h1,bH _,λh=>(by cases h),.inl rfl⟩
  .exact(hs.regs t2 v hv).ext r.ext
 .intro id hid;exact Nz
 .exact pw ag (λid u hm=>A3)
theorem cl.unfull(t:Nat){id o n sz:Nat}{f:Bool}(ht:lk t R=aa (.sl id o n sz f)):cl A R H L ((t,.sl id o n sz af)::R) H L:=by
 intro N B ρ a w hs hl;refine⟨ρ,⟨hs.size,?_,hs.heap,hs.sep,hs.fresh,hs.dfr⟩,hl,fT.refl _ _ _ _⟩;intro t2 v hv;simp only [rg,gJ]at hv;split at hv
 .rename_i e;have:t2=t:=lS;subst this;cases hv;have h1:=hs.regs t2 _ pN;simp only [av]at h1|-;obtain⟨rb,a,c,g1,g2,g3,_,g5⟩:=h1;exact⟨rb,a,c,g1,g2,g3,λh=>(by cases h),g5⟩
 .exact hs.regs t2 v hv
theorem cl.room(t:Nat){id o n sz:Nat}(ht:lk t R=aa (.sl id o n sz ab)):cl A R H L ((t,.slc id o n n sz)::R) H L:=by
 intro N B ρ a w hs hl;refine⟨ρ,⟨hs.size,?_,hs.heap,hs.sep,hs.fresh,hs.dfr⟩,hl,fT.refl _ _ _ _⟩;intro t2 v hv;simp only [rg,gJ]at hv;split at hv
 .rename_i e;have:t2=t:=lS;subst this;cases hv;have h1:=hs.regs t2 _ pN;simp only [av]at h1|-;obtain⟨rb,a,c,g1,g2,g3,g4,g5⟩:=h1;exact⟨rb,a,c,g1,g2,bH _,(by simpa using g4),g5⟩
 .exact hs.regs t2 v hv
def gS:HL->Nat->Option SB->HL
 | [],0,ob=> [ob]
 | [],n+1,ob=>ah::gS [] n ob
 |_::xs,0,ob=>ob::xs
 |x::xs,n+1,ob=>x::gS xs n ob
theorem Dn:∀(H:HL) (id:Nat) (ob:Option SB),gS H id ob=qj H id ob
 | [],0,ob=>by simp [gS,qj]
 | [],n+1,ob=>by rw [gS,Dn [] n ob];simp [qj,List.replicate_succ]
 |x::xs,0,ob=>by simp [gS,qj]
 |x::xs,n+1,ob=>by
  rw [gS,Dn xs n ob];by_cases h:n<xs.length
  .simp [qj,h]
  .simp [qj,h]
def uQ(H:HL):ix->HL
 | []=>H
 |(id,ob)::W=>gS (uQ H W) id ob
theorem Dp(H:HL):∀W:ix,uQ H W=eX H W
 | []=>rfl
 |(id,ob)::W=>by rw [uQ,eX,Dn,Dp H W]
def wt(R:RL)(r:Option Nat)(out:Option SV)(k:RL->Prop):Prop:=
 match r with
 |none=>k R
 |some d=>match out with
  |some v=>k ((d,v)::R)
  |none=>match lk d R with
   |none=>k R
   |some _=>k (R.filter λp=> !(p.1==d))
theorem P6(d:Nat):∀R:RL,lk d R=ah->(R.filter λp=> !(p.1==d))=R
 | [],_=>rfl
 |(a,b)::R,h=>by
  simp only [lk]at h;split at h
  .cases h
  .rename_i e;have hne:(a==d)=af:=by
    have:a≠d:=λe2=>by subst e2;simp at e
    exact pK
   simp only [List.filter_cons,hne,wP,if_true,P6 d R h]
theorem TF(R:RL)(r:Option Nat)(out:Option SV)(k:RL->Prop):wt R r out k=k (vb R r out):=by
 cases r with
 |none=>rfl
 |some d=>
  cases out with
  |some v=>rfl
  |none=>
   simp only [wt,vb];split
   .rename_i h;rw [P6 d R h]
   .rfl
def Am:HL->Nat->Option SB->(HL->Prop)->Prop
 | [],0,ob,k=>k [ob]
 | [],n+1,ob,k=>Am [] n ob λl=>k (ah::l)
 |_::xs,0,ob,k=>k (ob::xs)
 |x::xs,n+1,ob,k=>Am xs n ob λl=>k (x::l)
theorem Kz:∀(H:HL) (id:Nat) (ob:Option SB) (k:HL->Prop),Am H id ob k=k (gS H id ob)
 | [],0,ob,k=>rfl
 | [],n+1,ob,k=>by rw [Am,Kz];rfl
 |x::xs,0,ob,k=>rfl
 |x::xs,n+1,ob,k=>by rw [Am,Kz];rfl
def D8(H:HL)(W:ix)(k:HL->Prop):Prop:=
 @List.rec (Nat×Option SB) (λ_=>(HL->Prop)->Prop) (λk=>k H) (λx _ ih k=>ih λr=>Am r x.1 x.2 k) W k
theorem TE(H:HL):∀(W:ix) (k:HL->Prop),D8 H W k=k (uQ H W)
 | [],k=>rfl
 |(id,ob)::W,k=>by
  show D8 H W (λr=>Am r id ob k)=_
  rw [TE H W,Kz];rfl
def F8(n:Nat)(k:Nat->Prop):Prop:= @Nat.rec (λ_=>Prop) (k 0) (λm _=>k (Nat.succ m)) n
theorem ach(n:Nat)(k:Nat->Prop):F8 n k=k n:=by cases n<;>rfl
def LU(T:TT)(P:Program)(r:Array Oper)(o:Oper)(ih:RL->HL->Nat->List Lg->(RL->HL->Nat->List Lg->Prop)->Prop)(R:RL)(H:HL)(L:Nat)(G:List Lg)(Q:RL->HL->Nat->List Lg->Prop):Prop:=
 match o.guard with
 |none=>D2 T P o R H L λout W F L'=>wt R o.dst out λu=>D8 H W λI=>F8 L' λL'=>ih u I L' (⟨o.dst,qi r o++oQ o,F,W.map (·.1)⟩::G) Q
 |some (j,want)=>match r.toList[j]? with
  |some oj=>match oj.dst with
   |some d=>match lk d R with
    | some (.b t)=>(t=want->D2 T P o R H L λout W F L'=>wt R o.dst out λu=>D8 H W λI=>F8 L' λL'=>ih u I L' (⟨o.dst,qi r o++oQ o,F,W.map (·.1)⟩::G) Q)/\
      (t= !want->wt R o.dst (aa (.tup [])) λu=>ih u H L (⟨o.dst,qi r o,[],[]⟩::G) Q)
    |some (.tup [])=>wt R o.dst (aa (.tup [])) λu=>ih u H L (⟨o.dst,qi r o,[],[]⟩::G) Q
    |_=>False
   |none=>False
  |none=>False
def sP(T:TT)(P:Program)(r:Array Oper)(F:List Oper):RL->HL->Nat->List Lg->(RL->HL->Nat->List Lg->Prop)->Prop:=
 @List.rec Oper (λ_=>RL->HL->Nat->List Lg->(RL->HL->Nat->List Lg->Prop)->Prop) (λR H L u Q=>Q R H L u) (λo _ ih=>LU T P r o ih) F
theorem ahU{r:Array Oper}{o:Oper}{F:List Oper}{u:List Lg}{Q:RL->HL->Nat->List Lg->Prop}:sP T P r (o::F) R H L u Q=LU T P r o (sP T P r F) R H L u Q:=rfl
theorem EY{o:Oper}{r:Lg}{W:ix}(h:r.dst=o.dst):dZ (rg R) (wr ⟨r,out,W⟩)=rg (vb R o.dst out):=by
 cases hd:o.dst with
 |none=>simp only [wr,h,hd,vb];funext t;simp [dZ]
 |some d=>simp only [wr,h,hd,ahv]
theorem AF{T:TT}{P:Program}{r:Array Oper}(hT:fC P T):∀{os:List Oper} {R:RL} {H:HL} {L:Nat} {lg:List Lg} {Q:RL->HL->Nat->List Lg->Prop},sP T P r os R H L lg Q->H.length<=L->
  ∃es G u L',tg P r os (rg R) (hg H) L es (rg G) (hg u) L'/\u.length<=L'/\Q G u L' ((es.map (·.lg)).reverse++lg)
 | [],R,H,L,lg,Q,h,hl=>⟨[],R,H,L,⟨rfl,rfl,rfl,rfl⟩,hl,h⟩
 |o::os,R,H,L,lg,Q,h,hl=>by
  have go:nU r o (rg R)=aa ab->(D2 T P o R H L λout W F L'=>wt R o.dst out λG=>D8 H W λu=>F8 L' λL'=>sP T P r os G u L' (⟨o.dst,qi r o++oQ o,F,W.map (·.1)⟩::lg) Q)->
    ∃es G u L',tg P r (o::os) (rg R) (hg H) L es (rg G) (hg u) L'/\u.length<=L'/\Q G u L' ((es.map (·.lg)).reverse++lg):=by
   intro V h;obtain⟨out,W,F,L',hlt,hL,hW,hk⟩:=ajd hT hl h;rw [TF,TE,Dp,ach]at hk;obtain⟨es,G,u,U,hr,Z,hq⟩:=AF hT hk (pw ag (λid ob hm=>(hW id ob hm).1));refine⟨⟨⟨o.dst,qi r o++oQ o,F,W.map (·.1)⟩,out,W⟩::es,G,u,U,?_,Z,by simpa using hq⟩;refine⟨_,es,L',rfl,⟨rfl,rfl,.inl ⟨V,rfl,hlt⟩⟩,hL,hW,?_⟩;rw [EY rfl,<-wx,<-mK];exact hr
  have skip:nU r o (rg R)=aa af->(wt R o.dst (aa (.tup [])) λG=>sP T P r os G H L (⟨o.dst,qi r o,[],[]⟩::lg) Q)->
    ∃es G u L',tg P r (o::os) (rg R) (hg H) L es (rg G) (hg u) L'/\u.length<=L'/\Q G u L' ((es.map (·.lg)).reverse++lg):=by
   intro V h3;rw [TF]at h3;obtain⟨es,G,u,U,hr,Z,hq⟩:=AF hT h3 hl;refine⟨⟨⟨o.dst,qi r o,[],[]⟩,aa (.tup []),[]⟩::es,G,u,U,?_,Z,by simpa using hq⟩;refine⟨_,es,L,rfl,⟨rfl,rfl,.inr ⟨V,rfl,rfl,rfl,rfl⟩⟩,bH _,(λid ob hm=>by simp at hm),?_⟩;rw [EY rfl];have:dZ (hg H) ([]:ix)=hg H:=by funext i;simp [dZ]
   rw [this];exact hr
  rw [ahU]at h;simp only [LU]at h;split at h
  .rename_i O;exact go (by simp only [nU,O]) h
  .rename_i j I O;split at h
   .rename_i oj hj;split at h
    .rename_i d hd;split at h
     .rename_i t ht;have hp:nU r o (rg R)=aa (t==I):=by have h1:r[j]?=aa oj:=ua;have h2:rg R d=aa (.b t):=pN;simp only [nU,O,h1,ur,hd,h2]
      by_cases htw:t=I
      .exact go (by rw [hp,htw];simp) (h.1 htw)
      .have h2:t= !I:=by cases t<;>cases I<;>simp_all
       exact skip (by rw [hp];simpa using htw) (h.2 h2)
     .rename_i ht;have hp:nU r o (rg R)=aa af:=by have h1:r[j]?=aa oj:=ua;have h2:rg R d=aa (.tup []):=pN;simp only [nU,O,h1,ur,hd,h2]
      exact skip hp h
     .exact yD
    .exact yD
   .exact yD
structure bp(P:Program)(M:Option Nat->Prop)(N A:Nat)(c:Code)(Q:Exit->RL->HL->Nat->Prop)(R:RL)(H:HL)(L:Nat):Prop where
 run:∀r n B ρ a w,M r->dO N B L ρ (rg R) (hg H) a w->H.length<=L->
  c.wpIn (Fw r) n P (λe a' w'=>∃R' H' L' ρ',Q e R' H' L'/\H'.length<=L'/\dO N B L' ρ' (rg R') (hg H') a' w'/\fT A ρ (hg H) w ρ' (hg H') w') a w
def rz(N:Nat)(r:Array Oper):Bool:=r.toList.all λo=>match o.dst with|some d=>decide (d<N)|none=>ab
def jR(N:Nat):Code->Bool
 | .region _ ops draw=>rz N ops&&(!draw||JD ops)
 | .seq a b=>jR N a&&jR N b
 | .cond _ a b=>jR N a&&jR N b
 | .block _ a=>jR N a
 | .loop a=>jR N a
 |_=>ab
def sw(T:TT)(P:Program)(M:Option Nat->Prop)(N A:Nat)(c:Code):(Exit->RL->HL->Nat->Prop)->RL->HL->Nat->Prop:=
 @Code.rec (λ_=>(Exit->RL->HL->Nat->Prop)->RL->HL->Nat->Prop)
  (λQ=>Q .normal)
  (λ_ r u Q R H L=>sP T P r r.toList R H L [] λR H L U=>match u with
   |true=>Fs r U.reverse=ab/\Q .normal R H L
   | false => Q .normal R H L)
  (λ_ _ F G Q=>F λe=>match e with| .normal=>G Q|e=>Q e)
  (λc _ _ I O Q R H L=>match ev R c with
   |some (.b t)=>(t=ab->I Q R H L)/\(t=af->O Q R H L)
   | _ => False)
  (λid _ ih Q=>ih λe=>match e with
   | .exit i=>match dD i id with|true=>Q .normal|false=>Q (.exit i)
   | e => Q e)
  (λc _ Q=>bp P M N A (.loop c) Q)
  (λf ps x y _ _ Q=>bp P M N A (.rangeFunc f ps x y) Q)
  (λid Q=>Q (.exit id))
  (λc _ Q=>bp P M N A (.scope c) Q)
  (λl Q=>bp P M N A (.label l) Q)
  (λl Q=>bp P M N A (.goto l) Q)
  (λQ=>Q .ret)
  (λs Q=>bp P M N A (.refuse s) Q) c
theorem bp.seq{x y:Code}(hx:bp P M N A x Q2 R H L)(hn:∀R H L,Q2 .normal R H L->bp P M N A y Q R H L)(ho:∀e R H L,e≠ .normal->Q2 e R H L->Q e R H L):bp P M N A (.seq x y) Q R H L:=by
 refine⟨λr n B ρ a w hM hs hl=>?_⟩;refine wpIn_seq (wpIn_mono (hx.run r n B ρ a w hM hs hl) ?_);rintro e a1 V ⟨R1,H1,L1,ρ1,hq,hl1,G,F⟩;have u:e≠ .normal->∃R' H' L' ρ',Q e R' H' L'/\H'.length<=L'/\dO N B L' ρ' (rg R') (hg H') a1 V/\fT A ρ (hg H) w ρ' (hg H') V:=λhne=>⟨R1,H1,L1,ρ1,ho _ _ _ _ hne hq,hl1,G,F⟩
 cases e with
 |normal=>
  refine wpIn_mono ((hn _ _ _ hq).run r n B ρ1 a1 V hM G hl1) ?_;rintro e a2 w2 ⟨R2,Z,L2,ρ2,O,hl2,U,I⟩;exact⟨R2,Z,L2,ρ2,O,hl2,U,F.trans I⟩
 |_=>exact u aq
theorem bp.weak{c:Code}(h:cl A R H L R0 H0 L0)(hc:bp P M N A c Q R0 H0 L0):bp P M N A c Q R H L:=by refine⟨λr n B ρ a w hM hs hl=>?_⟩;obtain⟨ρ0,s0,Z,V⟩:=h N B ρ a w hs hl;refine wpIn_mono (hc.run r n B ρ0 a w hM s0 Z) ?_;rintro e a2 w2 ⟨U,I,O,ρ2,F,hl2,G,u⟩;exact⟨U,I,O,ρ2,F,hl2,G,V.trans u⟩
theorem bp.mono{c:Code}(h:bp P M N A c Q R H L)(hq:∀e R H L,Q e R H L->Q2 e R H L):bp P M N A c Q2 R H L:=by refine⟨λr n B ρ a w hM hs hl=>?_⟩;refine wpIn_mono (h.run r n B ρ a w hM hs hl) ?_;rintro e a2 U ⟨O,G,I,ρ2,F,u⟩;exact⟨O,G,I,ρ2,hq _ _ _ _ F,u⟩
theorem bp.less{c:Code}(h:bp P M N A c Q R H L)(hq:∀e R H L,Q e R H L->∃R0 H0 L0,cl A R H L R0 H0 L0/\Q2 e R0 H0 L0):bp P M N A c Q2 R H L:=by refine⟨λr n B ρ a w hM hs hl=>?_⟩;refine wpIn_mono (h.run r n B ρ a w hM hs hl) ?_;rintro e a2 U ⟨R2,V,Z,ρ2,F,hl2,I,u⟩;obtain⟨R0,H0,L0,hw,G⟩:=hq _ _ _ _ F;obtain⟨ρ3,O,l3,e3⟩:=hw _ _ ρ2 a2 U I hl2;exact⟨R0,H0,L0,ρ3,G,l3,O,u.trans e3⟩
theorem mV{T:TT}{P:Program}{M:Option Nat->Prop}{N A:Nat}(hT:fC P T)(hm:P.follows .mixedOrders=ab):∀{c:Code} {Q:Exit->RL->HL->Nat->Prop} {R:RL} {H:HL} {L:Nat},jR N c=ab->
  sw T P M N A c Q R H L->bp P M N A c Q R H L
 | .skip,Q,R,H,L,_,h=>⟨λr n B ρ a w hM hs hl=>wpIn_skip ⟨R,H,L,ρ,h,hl,hs,fT.refl _ _ _ _⟩⟩
 | .exit id,Q,R,H,L,_,h=>⟨λr n B ρ a w hM hs hl=>wpIn_exit ⟨R,H,L,ρ,h,hl,hs,fT.refl _ _ _ _⟩⟩
 | .ret,Q,R,H,L,_,h=>⟨λr n B ρ a w hM hs hl=>wpIn_ret ⟨R,H,L,ρ,h,hl,hs,fT.refl _ _ _ _⟩⟩
 | .region id ops draw,Q,R,H,L,hc,h=>by
  refine⟨λr n B ρ a w hM hs hl=>?_⟩;simp only [jR,fI,oy,Bool.not_eq_true']at hc;obtain⟨hd,h8⟩:=hc;have hN:∀(i:Nat) (o:Oper) (d:Nat),ops[i]?=aa o->o.dst=aa d->d<N:=by intro i o d ho Z;simp only [rz,jg]at hd;have:=hd o EK;simpa [Z]using this
  have h:sP T P ops ops.toList R H L [] (λR H L lg=>match(generalizing:=false) draw with
   |true=>Fs ops lg.reverse=ab/\Q .normal R H L
   | false => Q .normal R H L) := h
  obtain⟨es,U,G,L',hr,h6,hq⟩:=AF hT h hl;simp only [jz,List.reverse_reverse]at hq;cases draw with
  |true=>
   obtain⟨V,hq⟩:=hq;refine ahj hm hN hr V (by simpa using h8) hs ?_;intro a' w' ρ' O I;exact⟨U,G,L',ρ',hq,h6,O,I.toA⟩
  |false=>
   refine wpIn_region ?_;have:=Ha (r:=r) (n:=n) (Q:=λe a' w'=>∃U G L' ρ',Q e U G L'/\G.length<=L'/\dO N B L' ρ' (rg U) (hg G) a' w'/\fT A ρ (hg H) w ρ' (hg G) w') hN ops.toList 0 (rg R) (hg H) L es ρ a w aq hr hs
    (λa' w' ρ' O I=>⟨U,G,L',ρ',hq,h6,O,I.toA⟩)
   rw [List.range_eq_range'];simpa using this
 | .seq x y,Q,R,H,L,hc,h=>by
  simp only [jR,fI]at hc;have h:sw T P M N A x (λe=>match e with| .normal=>sw T P M N A y Q|e=>Q e) R H L:=h;exact(mV hT hm hc.1 h).seq (λR H L h=>mV hT hm hc.2 h) (λe R H L hne h=>by cases e<;>first|exact absurd rfl hne|exact h)
 | .cond c x y,Q,R,H,L,hc,h=>by
  simp only [jR,fI]at hc;have h:(match ev R c with
   |some (.b t)=>(t=ab->sw T P M N A x Q R H L)/\(t=af->sw T P M N A y Q R H L)
   | _ => False) := h
  split at h
  .rename_i t ht;refine⟨λr n B ρ a w hM hs hl=>?_⟩;have h7:a.eval c= .bool t:=by
    cases c with
    |tmp k=>
     have h1:=hs.regs k (.b t) pN;simp only [av]at h1;exact h1
    |const v=>
     have h1:=(qo (ρ:=ρ) ht).1;simp only [av]at h1;exact h1
    |func f=>cases ht
    |global g=>cases ht
   refine wpIn_cond_split h7 (λht=>(mV hT hm hc.1 (h.1 ht)).run r n B ρ a w hM hs hl) (λht=>(mV hT hm hc.2 (h.2 ht)).run r n B ρ a w hM hs hl)
  .exact h.elim
 | .block id c,Q,R,H,L,hc,h=>by
  refine⟨λr n B ρ a w hM hs hl=>?_⟩;have h:sw T P M N A c (λe=>match e with
   | .exit i=>match dD i id with|true=>Q .normal|false=>Q (.exit i)
   | e => Q e) R H L := h
  simp only [jR]at hc;refine wpIn_block (wpIn_mono ((mV hT hm hc h).run r n B ρ a w hM hs hl) ?_);rintro e a2 w2 ⟨R2,H2,L2,ρ2,u,F⟩;cases e with
  |exit i=>
   simp only [Exit.inBlock];cases hb:dD i id with
   |true=>simp only [hb]at u;rw [if_pos (gY hb)];exact⟨R2,H2,L2,ρ2,u,F⟩
   |false=>simp only [hb]at u;rw [if_neg (λe=>by subst e;simp at hb)];exact⟨R2,H2,L2,ρ2,u,F⟩
  |_=>exact⟨R2,H2,L2,ρ2,u,F⟩
 | .loop c,Q,R,H,L,_,h=>h
 | .rangeFunc f ps x y,Q,R,H,L,_,h=>h
 | .scope c,Q,R,H,L,_,h=>h
 | .label l,Q,R,H,L,_,h=>h
 | .goto l,Q,R,H,L,_,h=>h
 | .refuse s,Q,R,H,L,_,h=>h
open Classical in
noncomputable def BP(p:Nat->Prop):Nat:=if h:∃k,p k/\∀j,p j->k<=j then Classical.choose h else 0
theorem Gq{p:Nat->Prop}{k:Nat}(h:p k):p (BP p)/\BP p<=k:=by
 have r:∃k,p k/\∀j,p j->k<=j:=by
  induction k using Nat.strongRecOn with
  |_ k ih=>
   by_cases hs:∃j,j<k/\p j
   .obtain⟨j,hj,hp⟩:=hs;exact ih j hj hp
   .exact⟨k,h,λj hj=>Nat.le_of_not_lt λhlt=>hs ⟨j,hlt,hj⟩⟩
 have e:BP p=Classical.choose r:=by unfold BP;rw [dif_pos r]
 have:=Classical.choose_spec r;rw [<-e]at this;exact⟨this.1,this.2 _ h⟩
theorem Gs{c:Code}(hT:fC P T)(hm:P.follows .mixedOrders=ab)(hc:jR N c=ab){ι:Type}(IR:ι->RL)(IH:ι->HL)(IL:ι->Nat)(μ:ι->Nat)(i0:ι)(h0:cl A R H L (IR i0) (IH i0) (IL i0))(round:∀i,sw T P M N A c (λe R H L=>match e with| .normal=>∃j,μ j<μ i/\cl A R H L (IR j) (IH j) (IL j)|e=>Q e R H L) (IR i) (IH i) (IL i)):bp P M N A (.loop c) Q R H L:=by
 refine bp.weak h0 ?_;refine⟨λr n B ρ a w hM hs hl=>?_⟩;let J:=fun(F:Act) (u:World) (k:Nat)=>∃i ρ',μ i=k/\(IH i).length<=IL i/\dO N B (IL i) ρ' (rg (IR i)) (hg (IH i)) F u/\fT A ρ (hg (IH i0)) w ρ' (hg (IH i)) u
 refine wpIn_loop (λF u=>∃k,J F u k) (λF u=>BP (J F u)) ⟨μ i0,i0,ρ,rfl,hl,hs,fT.refl _ _ _ _⟩ ?_;rintro a1 w1 ⟨k,hk⟩;obtain⟨⟨i,ρ1,hi,hl1,Z,G⟩,_⟩:=Gq hk;refine wpIn_mono ((mV hT hm hc (round i)).run r n B ρ1 a1 w1 hM Z hl1) ?_;rintro e a2 w2 ⟨R2,H2,L2,ρ2,hq,hl2,O,I⟩;cases e with
 |normal=>
  obtain⟨j,hj,hw⟩:=hq;obtain⟨ρ3,h6,V,U⟩:=hw N B ρ2 a2 w2 O hl2;have hJ:J a2 w2 (μ j):=⟨j,ρ3,rfl,V,h6,(G.trans I).trans U⟩;have:=(Gq hJ).2;exact⟨⟨μ j,hJ⟩,ag⟩
 |_=>exact⟨R2,H2,L2,ρ2,hq,hl2,O,G.trans I⟩
def TH(T:TT)(P:Program)(M:Option Nat->Prop)(N A:Nat)(c:Code)(Q:Exit->RL->HL->Nat->Prop)(m:Nat):RL->HL->Nat->Prop:=
 @Nat.rec (λ_=>RL->HL->Nat->Prop) (λ_ _ _=>False) (λ_ ih=>sw T P M N A c λe=>match e with| .normal=>ih|e=>Q e) m
theorem pC{c:Code}(hT:fC P T)(hm:P.follows .mixedOrders=ab)(hc:jR N c=ab)(m:Nat)(h:TH T P M N A c Q m R H L):bp P M N A (.loop c) Q R H L:=by
 refine⟨λr n B ρ a w hM hs hl=>?_⟩;have key:∀m R2 u G ρ2 a2 F,TH T P M N A c Q m R2 u G->dO N B G ρ2 (rg R2) (hg u) a2 F->u.length<=G->fT A ρ (hg H) w ρ2 (hg u) F->
   Code.roundsIn (Fw r) n P c (λe a' w'=>∃R' H' L' ρ',Q e R' H' L'/\H'.length<=L'/\dO N B L' ρ' (rg R') (hg H') a' w'/\fT A ρ (hg H) w ρ' (hg H') w') m a2 F:=by
  intro m
  induction m with
  |zero=>intro R2 u G ρ2 a2 F h;exact h.elim
  |succ m ih=>
   intro R2 u G ρ2 a2 F h h6 hl2 I;rw [roundsIn_succ];refine wpIn_mono ((mV hT hm hc h).run r n B ρ2 a2 F hM h6 hl2) ?_;rintro e a3 w3 ⟨R3,H3,L3,ρ3,V,U,Z,O⟩;cases e with
   |normal=>exact ih R3 H3 L3 ρ3 a3 w3 V Z U (I.trans O)
   |_=>exact⟨R3,H3,L3,ρ3,V,U,Z,I.trans O⟩
 exact wpIn_loop_rounds m (key m R H L ρ a w h hs hl (fT.refl _ _ _ _))
theorem du{A:Prop}(ht:t=ab)(a:A):(t=ab->A)/\(t=af->B):=⟨λ_=>a,λh=>absurd (ht.symm.trans h) (by simp)⟩
theorem eV{A:Prop}(ht:t=af)(b:B):(t=ab->A)/\(t=af->B):=⟨λh=>absurd (h.symm.trans ht) (by simp),λ_=>b⟩
theorem iN{x y:Option SV}(ht:t=ab)(h:match x with|some z=>K z|none=>False):∃z,(if t then x else y)=aa z/\K z:=by
 subst ht;cases x with
 |none=>exact h.elim
 |some z=>exact⟨z,rfl,h⟩
theorem cO{x y:Option SV}(ht:t=af)(h:match y with|some z=>K z|none=>False):∃z,(if t then x else y)=aa z/\K z:=by
 subst ht;cases y with
 |none=>exact h.elim
 |some z=>exact⟨z,rfl,h⟩
theorem bl{r:Bool}{A:Prop}(ht:t=r)(a:A):(t=r->A)/\(t= !r->B):=⟨λ_=>a,λh=>absurd (ht.symm.trans h) (by cases r<;>simp)⟩
theorem bC{r:Bool}{A:Prop}(ht:t= !r)(b:B):(t=r->A)/\(t= !r->B):=⟨λh=>absurd (h.symm.trans ht) (by cases r<;>simp),λ_=>b⟩
end Go.Sh
namespace Go.Sh
variable{a:Act}{args:Array Operand}{tys:Array TypeId}{R:eM}{Q:Exit->RL->HL->Nat->Prop}{fn:Func}{H H0 H1:HL}{B L f:Nat}{o:Oper}{M:Option Nat->Prop}{P:Program}{ρ:bw}{ret z:SV}{T:TT}{W:ix}{w:World}
structure wY(P:Program)(f:Nat):Prop where
 ex:∃fn,P.funcs[f]?=some fn∧fn.body.isNone=false∧(fn.name== "runtime.NumGoroutine")=false
def sv(ρ:bw)(H0:HL)(w:World)(ret:SV)(H1:HL):Ending->World->Prop
 | .returned v,w'=>∃ρ',av ρ' ret v/\iX ρ' (hg H1) w'/\l7 ρ' (hg H1)/\(∀id,H1.length<=id->ρ' id=ah)/\fT H0.length ρ (hg H0) w ρ' (hg H1) w'
 |_,_=>False
structure bV(P:Program)(f:Nat)(args:List SV)(H0:HL)(ret:SV)(H1:HL):Prop where
 fn:wY P f
 call:∀n ρ w vs,aD ρ args vs->iX ρ (hg H0) w->l7 ρ (hg H0)->(∀id,H0.length<=id->ρ id=ah)->CallsIn Fence.wide n P f ⟨vs⟩ w (sv ρ H0 w ret H1)
section
variable {P:Program} {ρ:bw} {w:World}
theorem LV(hf:wY P f)(args:Array Value):(callFunc f args).run P w= .ok (.enter f args) w:=by obtain⟨fn,h1,h2,h3⟩:=hf.ex;unfold callFunc;simp only [bM];have hp:(program).run P w= .ok P w:=aq;rw [hp];simp only [pd,h1,h3,h2];simp
theorem Tb{e:Operand->Value}{x:Operand}{caps:Array Value}(ho:o.op= .call ⟨.value x,args,tys⟩)(hx:e x= .func (.func f) #[] caps)(hf:wY P f):(execOp e o).run P w= .ok (.enter f (args.map e++caps)) w:=by unfold execOp;simp only [ho,resolve,hx,Deferred.ofValue,bM,bZ,pd,invoke,LV hf];simp
end
def cW(sel:List Nat):List Nat->HL->HL->Option ix
 |s::ss,aa b0::H0,ob::H1=>match cW sel ss H0 H1 with
  |some W=>match b0.own with
   |false=>aa W
   |true=>match ob with
    |none=>aa ((s,ah)::W)
    |some b=>match b.own with
     |true=>match cZ sel b with|some b'=>aa ((s,aa b')::W)|none=>ah
     |false=>ah
  |none=>ah
 |s::ss,[],ob::H1=>match cW sel ss [] H1 with
  |some W=>match ob with
   |none=>aa ((s,ah)::W)
   |some b=>match b.own with
    |true=>match cZ sel b with|some b'=>aa ((s,aa b')::W)|none=>ah
    |false=>ah
  |none=>ah
 | [],[],[]=>aa []
 |_,_,_=>ah
def qV(sel:List Nat)(H0 H1:HL)(j:Nat)(u:Option SB):Prop:=
 (H0.length<=j\/∃r,hg H0 j=aa r/\r.own=ab)/\j<H1.length/\match u with
  |none=>hg H1 j=ah
  |some b'=>∃b,hg H1 j=aa b/\b.own=ab/\cZ sel b=aa b'
theorem qV.succ{sel:List Nat}{j:Nat}{r x y:Option SB}(h:qV sel H0 H1 j r):qV sel (x::H0) (y::H1) (j+1) r:=by obtain⟨h1,h2,h3⟩:=h;refine⟨h1.imp (λh=>kV) (λh=>mZ),mY,?_⟩;cases r<;>simpa [hg]using h3
theorem qV.succ0{sel:List Nat}{j:Nat}{r y:Option SB}(h:qV sel [] H1 j r):qV sel [] (y::H1) (j+1) r:=by obtain⟨h1,h2,h3⟩:=h;refine⟨.inl aq,mY,?_⟩;cases r<;>simpa [hg]using h3
theorem vJ{sel:List Nat}:∀{ss:List Nat} {H0 H1:HL} {W:ix},cW sel ss H0 H1=aa W->
  ss.length=H1.length/\H0.length<=H1.length/\(∀id F,(id,F)∈W->∃j,ss[j]?=aa id/\qV sel H0 H1 j F)/\
  (∀j s,ss[j]?=aa s->(H0.length<=j\/∃u,hg H0 j=aa u/\u.own=ab)->∃F,(s,F)∈W)/\∀j,j<H0.length->∃u,hg H0 j=aa u
 |s::ss,aa u::H0,F::H1,W,h=>by
  simp only [cW]at h;split at h
  .rename_i W' h6;obtain⟨e1,e2,e3,e4,e5⟩:=vJ h6;have c5:∀j,j<(aa u::H0).length->∃I,hg (aa u::H0) j=aa I:=by
    intro j hj;cases j with
    |zero=>exact⟨u,rfl⟩
    |succ j=>obtain⟨I,x5⟩:=e5 j ua;exact⟨I,by simpa [hg]using x5⟩
   have Z:∀id r,(id,r)∈W'->∃j,(s::ss)[j]?=aa id/\qV sel (aa u::H0) (F::H1) j r:=by intro id r hm;obtain⟨j,h1,h2⟩:=e3 id r hm;exact⟨j+1,lv,h2.succ⟩
   have x0:∀j O,(s::ss)[j+1]?=aa O->((aa u::H0).length<=j+1\/∃I,hg (aa u::H0) (j+1)=aa I/\I.own=ab)->∃F,(O,F)∈W':=by intro j O h1 h2;exact e4 j O lv (h2.imp (λh=>kV) (λh=>mZ))
   split at h
   .rename_i U;cases h;refine⟨by simp [e1],wO,Z,λj O h1 h2=>?_,c5⟩;cases j with
    |zero=>
     rcases h2 with h2|⟨I,h2,h3⟩
     .simp at h2
     .have:u=I:=A4;subst this;rw [U]at h3;cases h3
    |succ j=>exact x0 j O h1 h2
   .rename_i U;have V:∀r,qV sel (aa u::H0) (F::H1) 0 r->W=(s,r)::W'->(s::ss).length=(F::H1).length/\(aa u::H0).length<=(F::H1).length/\(∀id G,(id,G)∈W->∃j,(s::ss)[j]?=aa id/\qV sel (aa u::H0) (F::H1) j G)/\
      (∀j O,(s::ss)[j]?=aa O->((aa u::H0).length<=j\/∃I,hg (aa u::H0) j=aa I/\I.own=ab)->∃F,(O,F)∈W)/\∀j,j<(aa u::H0).length->∃I,hg (aa u::H0) j=aa I:=by
     intro r h9 e;subst e;refine⟨by simp [e1],wO,λid G hm=>?_,λj O h1 h2=>?_,c5⟩
     .rcases gy.1 hm with hm|hm
      .cases hm;exact⟨0,rfl,h9⟩
      .exact Z id G hm
     .cases j with
      |zero=>simp at h1;subst h1;exact⟨r,kX ..⟩
      |succ j=>obtain⟨ha,h3⟩:=x0 j O h1 h2;exact⟨ha,jN _ h3⟩
    split at h
    .cases h;exact V ah ⟨.inr ⟨u,rfl,U⟩,aq,rfl⟩ rfl
    .rename_i b;split at h
     .rename_i h8;split at h
      .rename_i b' h7;cases h;exact V (aa b') ⟨.inr ⟨u,rfl,U⟩,aq,b,rfl,h8,h7⟩ rfl
      .cases h
     .cases h
  .cases h
 |s::ss,[],F::H1,W,h=>by
  simp only [cW]at h;split at h
  .rename_i W' h6;obtain⟨e1,e2,e3,e4,e5⟩:=vJ h6;have V:∀r,qV sel [] (F::H1) 0 r->W=(s,r)::W'->(s::ss).length=(F::H1).length/\([]:HL).length<=(F::H1).length/\(∀id G,(id,G)∈W->∃j,(s::ss)[j]?=aa id/\qV sel [] (F::H1) j G)/\
     (∀j O,(s::ss)[j]?=aa O->(([]:HL).length<=j\/∃I,hg [] j=aa I/\I.own=ab)->∃F,(O,F)∈W)/\∀j,j<([]:HL).length->∃I,hg [] j=aa I:=by
    intro r h9 e;subst e;refine⟨by simp [e1],aq,λid G hm=>?_,λj O h1 h2=>?_,λj hj=>by simp at hj⟩
    .rcases gy.1 hm with hm|hm
     .cases hm;exact⟨0,rfl,h9⟩
     .obtain⟨j,h1,h2⟩:=e3 id G hm;exact⟨j+1,lv,h2.succ0⟩
    .cases j with
     |zero=>simp at h1;subst h1;exact⟨r,kX ..⟩
     |succ j=>obtain⟨ha,h3⟩:=e4 j O lv (.inl aq);exact⟨ha,jN _ h3⟩
   split at h
   .cases h;exact V ah ⟨.inl aq,aq,rfl⟩ rfl
   .rename_i b;split at h
    .rename_i h8;split at h
     .rename_i b' h7;cases h;exact V (aa b') ⟨.inl aq,aq,b,rfl,h8,h7⟩ rfl
     .cases h
    .cases h
  .cases h
 | [],[],[],W,h=>by
  simp only [cW,Option.some.injEq]at h;subst h;exact⟨rfl,bH _,λ_ _ hm=>by simp at hm,λ_ _ h=>pM,λj hj=>by simp at hj⟩
 | [],[],_::_,W,h=>by simp [cW]at h
 | [],_::_,_,W,h=>by simp [cW]at h
 |_::_,[],[],W,h=>by simp [cW]at h
 |_::_,ah::_,_,W,h=>by simp [cW]at h
 |_::_,aa _::_,[],W,h=>by simp [cW]at h
def dc(L:Nat):Nat->List Nat
 |0=> []
 |n+1=>L::dc (L+1) n
theorem vX:∀{n L j:Nat},(dc L n)[j]?=if j<n then aa (L+j)else ah
 |0,L,j=>by simp [dc]
 |n+1,L,j=>by
  cases j with
  |zero=>simp [dc]
  |succ j=>
   simp only [dc,pP,vX];by_cases h:j<n
   .rw [if_pos h,if_pos ag];congr 1;omega
   .rw [if_neg h,if_neg ag]
theorem Lv{sel:List Nat}(cx:sel.length=H0.length)(h7:iF sel H sel H0)(hd:iA sel 0 sel H0=ab)(hF:∀id∈sel,∀b,hg H id=aa b->∃rb,ρ id=aa rb/\cd ρ w rb b)(hS:Jd ρ (hg H) sel):iX (cu sel ρ) (hg H0) w/\l7 (cu sel ρ) (hg H0)/\∀id,H0.length<=id->cu sel ρ id=ah:=by
 have hin:∀j G,hg H0 j=aa G->∃s b rb,sel[j]?=aa s/\hg H s=aa b/\B5 sel G b/\ρ s=aa rb/\cd ρ w rb b:=by intro j G hj;obtain⟨s,b,e1,e2,e3⟩:=mL h7 hj;obtain⟨rb,hr,hb⟩:=hF s (jO e1) b e2;exact⟨s,b,rb,e1,e2,e3,hr,hb⟩
 let ρc:=cu sel ρ
 have Z:iX ρc (hg H0) w:=by intro j G hj;obtain⟨s,b,rb,e1,e2,e3,U,V⟩:=hin j G hj;exact⟨rb,by simp only [ρc,cu,e1];exact U,(rP e3 V).1⟩
 have F:l7 ρc (hg H0):=by
  intro i j bi bj ri rj hne hi hj hri u r k q ⟨hfi,h6⟩;obtain⟨si,ci,h8,e1,e2,e3,U,V⟩:=hin i bi hi;obtain⟨sj,cj,h9,f1,f2,f3,f4,f5⟩:=hin j bj hj;simp only [ρc,cu,e1]at hri;simp only [ρc,cu,f1]at u;rw [U]at hri;cases hri;rw [f4]at u;cases u;obtain⟨_,g2,g3⟩:=rP e3 V;obtain⟨_,g4,g5⟩:=rP f3 f5;by_cases O:si=sj
  .subst O;have:=Fy hd e1 hi r j f1;omega
  .exact hS si (jO e1) sj (jO f1) ci cj _ _ O e2 f2 U f4 (g3 r) k q ⟨g2 k q hfi,g4 k q h6⟩
 have I:∀id,H0.length<=id->ρc id=ah:=λid hid=>by have:sel[id]?=ah:=dI ag;simp only [ρc,cu,this]
 exact⟨Z,F,I⟩
theorem Jv{w':World}{sel:List Nat}{v:Value}(hl:H.length<=L)(cx:sel.length=H0.length)(hok:iF sel H sel H0)(hW:cW (sel++dc L (H1.length-H0.length)) (sel++dc L (H1.length-H0.length)) H0 H1=aa W)(hz:bG (sel++dc L (H1.length-H0.length)) ret=aa z)(hF:∀id∈sel,∀b,hg H id=aa b->∃rb,ρ id=aa rb/\cd ρ w rb b)(I:∀id ob,(id,ob)∈W->id∉sel->ρ id=ah)(hr':sv (cu sel ρ) H0 w ret H1 (.returned v) w'):∃ρo,cI ρ (hg H) w W ρo w'/\av ρo z v:=by
 obtain⟨w1,w2,w3,w4,w5⟩:=vJ hW;have s1:∀j,j<H0.length->(sel++dc L (H1.length-H0.length))[j]?=sel[j]?:=λj hj=>gP ag
 have s2:∀j,H0.length<=j->(sel++dc L (H1.length-H0.length))[j]?=if j<H1.length then aa (L+(j-H0.length))else ah:=λj hj=>by
  rw [iR ag,vX,cx];by_cases h:j<H1.length
  .rw [if_pos ag,if_pos h]
  .rw [if_neg ag,if_neg h]
 have hin:∀j G,hg H0 j=aa G->∃s b rb,sel[j]?=aa s/\hg H s=aa b/\B5 sel G b/\ρ s=aa rb/\cd ρ w rb b:=by intro j G hj;obtain⟨s,b,e1,e2,e3⟩:=mL hok hj;obtain⟨rb,hr,hb⟩:=hF s (jO e1) b e2;exact⟨s,b,rb,e1,e2,e3,hr,hb⟩
 have hL:∀s b,hg H s=aa b->s<L:=λs b h=>gn hl (by rw [kJ];exact h)
 let ρc:=cu sel ρ
 obtain⟨ρ',q1,q2,q3,q4,q5⟩:=hr';let ρo:bw:=λid=>match ρ id with|some rb=>aa rb|none=>if L<=id/\id<L+(H1.length-H0.length)then ρ' (H0.length+(id-L))else ah
 have ha:∀i,i<H1.length-H0.length->ρ (L+i)=ah:=by
  intro i hi;obtain⟨ob,hm⟩:=w4 (H0.length+i) (L+i) (by rw [s2 _ (by omega),if_pos (by omega)];congr 1;omega) (.inl ag);refine I _ ob hm ?_;intro hmem;obtain⟨j,hj⟩:=List.getElem?_of_mem hmem;have x7:j<H0.length:=by have:=(dA.1 hj).1;omega
  obtain⟨G,V⟩:=w5 j x7;obtain⟨s,b,rb,e1,e2,_⟩:=hin j G V;rw [hj]at e1;cases e1;have:=hL _ _ e2;omega
 have r:cu (sel++dc L (H1.length-H0.length)) ρo=ρ':=by
  funext j
  by_cases hj:j<H0.length
  .obtain⟨G,V⟩:=w5 j hj;obtain⟨s,b,rb,e1,e2,e3,Z,e5⟩:=hin j G V;have h1:ρ' j=aa rb:=q5.ext j hj rb (by simp only [ρc,cu,e1];exact Z);simp only [cu,s1 j hj,e1,ρo,Z,h1]
  .have hs:=s2 j ag;by_cases h9:j<H1.length
   .rw [if_pos h9]at hs;simp only [cu,hs,ρo,ha (j-H0.length) ag];rw [if_pos ag];congr 1;omega
   .rw [if_neg h9]at hs;simp only [cu,hs];exact(q4 j ag).symm
 have F:∀k q,dV ρc (hg H0) k q->sy ρ (hg H) W k q:=by
  rintro k q ⟨j,G,rb,h1,h2,h3,h4⟩;obtain⟨s,b,rb',e1,e2,e3,Z,e5⟩:=hin j G h1;simp only [ρc,cu,e1]at h2;rw [Z]at h2;cases h2;obtain⟨_,g2,g3⟩:=rP e3 e5;have hj:j<H0.length:=by have:=(dA.1 e1).1;omega
  obtain⟨ob,hm⟩:=w4 j s (by rw [s1 j hj];exact e1) (.inr ⟨G,h1,h3⟩);exact⟨s,ob,b,_,hm,e2,Z,g3 h3,g2 k q h4⟩
 have u:∀id O,(id,aa O)∈W->∃j b rb,(sel++dc L (H1.length-H0.length))[j]?=aa id/\hg H1 j=aa b/\b.own=ab/\cZ (sel++dc L (H1.length-H0.length)) b=aa O/\ρ' j=aa rb/\ρo id=aa rb/\cd ρ' w' rb b:=by intro id O hm;obtain⟨j,h1,h2⟩:=w3 id (aa O) hm;obtain⟨_,_,b,h3,h4,h5⟩:=h2;obtain⟨rb,U,h7⟩:=q2 j b h3;have h8:=congrFun r j;simp only [cu,h1]at h8;exact⟨j,b,rb,h1,h3,h4,h5,U,by rw [h8];exact U,h7⟩
 refine⟨ρo,⟨?_,?_,?_,?_,?_,?_⟩,?_⟩
 .intro id rb hr;simp only [ρo,hr]
 .intro id rb hr;simp only [ρo]at hr;cases hρ:ρ id with
  |some rb2=>rw [hρ]at hr;exact .inl hr
  |none=>
   rw [hρ]at hr;simp only at hr;split at hr
   .rename_i hid;right;exact w4 (H0.length+(id-L)) id (by rw [s2 _ (by omega),if_pos (by omega)];congr 1;omega) (.inl ag)
   .cases hr
 .intro id O hm;obtain⟨j,b,rb,h1,h2,h3,h4,h5,U,h7⟩:=u id O hm;refine⟨rb,U,(l9 h4).1 ?_⟩;rw [r];exact h7
 .exact q5.fr.mono (λk q _ h=>F k q h)
 .intro id O rb k q hm hr hf;obtain⟨j,b,rb2,h1,h2,h3,h4,h5,U,h7⟩:=u id O hm;rw [U]at hr;cases hr;have x5:=(tC h4 k q (rb:=rb)).1.2 hf;exact(q5.own k q ⟨j,b,rb,h2,h5,h3,x5⟩).imp (F k q) (λh=>h)
 .intro i j bi bj ri rj hne hi hj hri x0 hown k q ⟨hfi,x6⟩;obtain⟨li,ci,rbi,h1,h2,h3,h4,h5,U,h7⟩:=u i bi hi;obtain⟨lj,cj,rbj,g1,g2,g3,g4,g5,g6,g7⟩:=u j bj hj;rw [U]at hri;cases hri;rw [g6]at x0;cases x0;exact q3 li lj ci cj _ _ (λe=>hne (by rw [e,g1]at h1;exact(Option.some.inj h1).symm)) h2 g2 h5 g5 h3 k q ⟨(tC h4 k q).1.2 hfi,(tC g4 k q).1.2 x6⟩
 .refine(lM ret hz).1 ?_;rw [r];exact q1
theorem KU{sel:List Nat}(hl:H.length<=L)(cx:sel.length=H0.length)(F:iF sel H sel H0)(hd:iA sel 0 sel H0=ab)(hW:cW (sel++dc L (H1.length-H0.length)) (sel++dc L (H1.length-H0.length)) H0 H1=aa W)(hz:bG (sel++dc L (H1.length-H0.length)) ret=aa z)(I:∀(r:Option Nat) (n:Nat) (a:Act) (w:World) (ρ:bw) (next:Act->World->Prop) (Q:Exit->Act->World->Prop),(∀t∈oQ o,∀v,R t=aa v->av ρ v (a.tmps.getD t undef))->iX (cu sel ρ) (hg H0) w->l7 (cu sel ρ) (hg H0)->(∀id,H0.length<=id->cu sel ρ id=ah)->(∀v G,sv (cu sel ρ) H0 w ret H1 (.returned v) G->next (a.put o.dst v) G)->o.wpIn (Fw r) n P a w next Q):LT P o R (hg H) sel W (aa z):=by
 intro r n a w ρ next Q hR V hS u hk
 obtain⟨g1,g2,g3⟩:=Lv cx F hd V hS;refine I r n a w ρ next Q hR g1 g2 g3 (λv G O=>?_)
 obtain⟨ρo,k1,Z⟩:=Jv hl cx F hW hz V u O;exact hk v G ρo k1 (λv' U=>by cases U;exact Z)
theorem JM{x:Operand}{zs:List SV}(ho:o.op= .call ⟨.value x,args,tys⟩)(r:args.toList.map (aZ R)=zs.map aa)(hR:∀t∈oQ o,∀v,R t=aa v->av ρ v (a.tmps.getD t undef)):aD ρ zs (args.toList.map a.eval):=by
  have:∀(l:List Operand) (zs:List SV),(∀y∈l,y∈args.toList)->l.map (aZ R)=zs.map aa->aD ρ zs (l.map a.eval):=by
    intro l
    induction l with
    | nil => intro zs _ h;have:zs= []:=by cases zs<;>simp_all
             subst this;exact aD.nil_iff.2 rfl
    | cons y l ih=>
      intro zs hm h;cases zs with
      |nil=>simp at h
      | cons z zs=>
        simp only [iT,List.cons.injEq]at h;refine aD.cons ?_ (ih zs (λu hu=>hm u (jN _ hu)) h.2);have hy:=hm y (kX ..);cases y with
        |tmp t=>exact hR t (by simp only [oQ,List.mem_filterMap];exact⟨.tmp t,by simp [ho,Op.operands,Call.operands];exact .inr (by simpa using hy),rfl⟩) _ h.1
        |const u=>exact(qo h.1).1
        |func g=>have h1:=h.1;simp only [aZ,Option.some.injEq]at h1;cases h1;simp only [iT,av];exact⟨[],rfl,aD.nil_iff.2 rfl⟩
        |global g=>cases h.1
  exact this args.toList zs (λ_ h=>h) r
theorem JN{x:Operand}(ho:o.op= .call ⟨.value x,args,tys⟩)(hx:aZ R x=aa z)(hR:∀t∈oQ o,∀v,R t=aa v->av ρ v (a.tmps.getD t undef)):av ρ z (a.eval x):=by
 cases x with
 |tmp t=>exact hR t XL _ hx
 |const u=>exact(qo hx).1
 |func g=>simp only [aZ,Option.some.injEq]at hx;cases hx;simp only [av];exact⟨[],rfl,aD.nil_iff.2 rfl⟩
 |global g=>cases hx
theorem ad5{x:Operand}{caps zs args0:List SV}{sel:List Nat}(hl:H.length<=L)(ho:o.op= .call ⟨.value x,args,tys⟩)(hx:aZ R x=aa (.fn f caps))(F:args.toList.map (aZ R)=zs.map aa)(hc:bV P f args0 H0 ret H1)(h8:bu sel args0=aa (zs++caps))(cx:sel.length=H0.length)(ha:iF sel H sel H0)(hd:iA sel 0 sel H0=ab)(hW:cW (sel++dc L (H1.length-H0.length)) (sel++dc L (H1.length-H0.length)) H0 H1=aa W)(hz:bG (sel++dc L (H1.length-H0.length)) ret=aa z):LT P o R (hg H) sel W (aa z):=by
 refine KU hl cx ha hd hW hz ?_;intro r n a w ρ next Q hR h9 V Z hk
 refine⟨λ_ _=>trivial,?_⟩;have h6:=JN ho hx hR;simp only [av]at h6;obtain⟨cs,h7,I⟩:=h6;have x0:=JM ho F hR;have U:aD (cu sel ρ) args0 (args.map a.eval++⟨cs⟩:Array Value).toList:=by refine(jH args0 h8).2 ?_;simpa using aD.append x0 I
 have G:=hc.call (n-1) (cu sel ρ) w _ U h9 V Z;rw [Oper.semAt_eq _ _ _ (by intro c;rw [ho];simp),Tb ho h7 hc.fn];refine⟨λh=>(by cases h),?_⟩;have u:CallsIn (Fw r) (n-1) P f (args.map a.eval++⟨cs⟩) w (sv (cu sel ρ) H0 w ret H1):=G;refine u.mono ?_;intro e w' O;cases e with
 |panicked c=>exact O.elim
 |outgrown=>exact O.elim
 |returned v=>exact hk v w' O
def ajb(R:RL)(H:HL)(L:Nat)(x:Operand)(args:List Operand)(f:Nat)(sel:List Nat)(args0:List SV)(H0:HL)(ret:SV)(H1:HL)(k:K1):Prop:=
 (match ev R x with
  |some (.fn g caps)=>match uI R args with
   |some zs=>g=f/\bu sel args0=aa (zs++caps)
   |none=>False
  | _ => False) /\ iF sel H sel H0 /\
 match dD sel.length H0.length with
 |true=>match iA sel 0 sel H0 with
  |true=>match cW (sel++dc L (H1.length-H0.length)) (sel++dc L (H1.length-H0.length)) H0 H1 with
   |some W=>match bG (sel++dc L (H1.length-H0.length)) ret with
    |some z=>k (aa z) W sel (L+(H1.length-H0.length))
    |none=>False
   |none=>False
  |false=>False
 |false=>False
theorem K8{R:RL}{k:K1}{x:Operand}{args0:List SV}(sel:List Nat)(hc:bV P f args0 H0 ret H1)(ho:o.op= .call ⟨.value x,args,tys⟩)(hle:eU H.length L=ab)(h:ajb R H L x args.toList f sel args0 H0 ret H1 k):cR P o R H L k:=by
 have hl:=cr hle;obtain⟨h1,h2,h3⟩:=h;split at h1
 .rename_i g caps hx;split at h1
  .rename_i zs G;obtain⟨rfl,r⟩:=h1;split at h3
   .rename_i cx;split at h3
    .rename_i hd;split at h3
     .rename_i W hW;split at h3
      .rename_i z hz;obtain⟨w1,w2,V,w4,Z⟩:=vJ hW;refine⟨_,_,_,_,ad5 hl ho (bq hx) (C9 G) hc r (gY cx) h2 hd hW hz,ag,?_,h3⟩;intro id U hm;obtain⟨j,hj,I⟩:=V id U hm;have O:=gY cx;by_cases F:j<H0.length
       .rw [gP ag]at hj;obtain⟨b0,u⟩:=Z j F;obtain⟨s,b,e1,e2,_⟩:=mL h2 u;rw [hj]at e1;cases e1;have:=gn hl (by rw [kJ];exact e2:hk H _=aa b);exact⟨ag,λhn=>absurd (jO hj) hn⟩
       .rw [iR ag,vX]at hj;split at hj
        .have:=Option.some.inj hj;exact⟨ag,λ_=>ag⟩
        .cases hj
      .exact h3.elim
     .exact h3.elim
    .exact h3.elim
   .exact h3.elim
  .exact h1.elim
 .exact h1.elim
def regs:Nat->List SV->RL
 |_,[]=> []
 |k,v::vs=>(k,v)::regs (k+1) vs
theorem Hb:∀{vs:List SV} {k t:Nat} {v:SV},rg (regs k vs) t=aa v->k<=t/\vs[t-k]?=aa v
 | [],k,t,v,h=>by simp [regs,rg]at h
 |u::vs,k,t,v,h=>by
  simp only [regs,rg,gJ]at h;split at h
  .rename_i e;have:t=k:=lS;subst this;cases h;exact⟨bH _,aq⟩
  .obtain⟨h1,h2⟩:=Hb (vs:=vs) (k:=k+1) (t:=t) h;refine⟨ag,?_⟩;rw [show t-k=(t-(k+1))+1 from by omega];simpa using h2
def sN(T:TT)(R:RL)(H:HL):List ResultVar->List SV->(List SV->Prop)->Prop
 | [],acc,K=>K acc
 | .tmp t::rs,acc,K=>match lk t R with
  |some v=>sN T R H rs (acc++ [v]) K
  |none=>False
 | .cell a t::rs,acc,K=>match lk a R with
  |some (.p id off)=>match lk t T with
   |some ti=>match hk H id with
    |some b=>match eU 1 ti.sz with
     |true=>∃v,dz ti.agg ti.sz b.cells off=aa v/\sN T R H rs (acc++ [v]) K
     |false=>False
    |none=>False
   |none=>False
  |_=>False
def Hk(tmps:Array Value):ResultVar->Sem Value
 | .tmp t=>pure (tmps.getD t undef)
 | .cell p t=>do loadVar t (<-asAddr (tmps.getD p undef))
theorem LN{T:TT}{P:Program}{N B L:Nat}{ρ:bw}{R:RL}{H:HL}{a:Act}{w:World}(hT:fC P T)(hs:dO N B L ρ (rg R) (hg H) a w):
  ∀{G:List ResultVar} {acc:List SV} {K:List SV->Prop},sN T R H G acc K->
   ∃vs r,(G.mapM (Hk a.tmps)).run P w= .ok r w/\aD ρ vs r/\K (acc++vs)
 | [],acc,K,h=>⟨[],[],aq,aD.nil_iff.2 rfl,by simpa [sN]using h⟩
 | .tmp t::G,acc,K,h=>by
  simp only [sN]at h;split at h
  .rename_i v hv;obtain⟨vs,r,h1,h2,h3⟩:=LN hT hs h;refine⟨v::vs,a.tmps.getD t undef::r,?_,aD.cons (hs.regs t v (by rw [rg,<-vV];exact hv)) h2,by simpa using h3⟩;simp only [List.mapM_cons,Hk,bM,h1,bZ,pd]
  .exact h.elim
 | .cell p t::G,acc,K,h=>by
  simp only [sN]at h;split at h
  .rename_i id off hp;split at h
   .rename_i ti ht;split at h
    .rename_i b hb;split at h
     .rename_i h1;obtain⟨v,hv,hk⟩:=h;obtain⟨vs,r,g1,g2,g3⟩:=LN hT hs hk;have ft:=hT _ _ ht;have u:=hs.regs p (.p id off) (by rw [rg,<-vV];exact hp);simp only [av]at u;obtain⟨rb,hr,he⟩:=u;obtain⟨Z,F,I⟩:=hs.heap id b (gb hb);rw [hr]at F;cases F;have hne:0<b.cells.length:=by
       have V:=w8 h1;unfold dz at hv;split at hv
       .split at hv
        .omega
        .cases hv
       .have:=(dA.1 hv).1;omega
      obtain⟨hca,_⟩:=I.cellsAt hne;obtain⟨x,O,hx2⟩:=QZ (P:=P) (w:=w) ft.agg ft.sz hca hv;refine⟨v::vs,x::r,?_,aD.cons hx2 g2,by simpa using g3⟩;have U:(asAddr (a.tmps.getD p undef)).run P w= .ok ⟨rb.blk,rb.off+off,ah⟩ w:=by rw [he];simp [asAddr]
      simp only [List.mapM_cons,Hk,bM,U,O,g1,bZ,pd]
     .exact yD
    .exact yD
   .exact yD
  .exact yD
def pH:List SV->SV
 | [v]=>v
 |vs=> .tup vs
theorem SU{N:Nat}{R:RL}{K:List SV->Prop}(hT:fC P T)(hs:dO N B L ρ (rg R) (hg H) a w)(h:sN T R H fn.results.toList [] K):∃vs v,(results fn a.tmps).run P w= .ok v w/\av ρ (pH vs) v/\K vs:=by
 obtain⟨vs,r,h1,h2,h3⟩:=LN hT hs h;refine⟨vs,if h:r.length=1 then r[0]else .tuple ⟨r⟩,?_,?_,by simpa using h3⟩
 .have e:results fn a.tmps=(fn.results.mapM (Hk a.tmps)>>=λvs=>pure (if h:vs.size=1 then vs[0]else .tuple vs)):=by unfold results;congr 1
  rw [e];rw [Array.mapM_eq_mapM_toList];simp only [bM,map_eq_pure_bind,bZ,pd];rw [h1];simp only [List.size_toArray,bZ];by_cases hu:r.length=1
  .simp [hu]
  .simp [hu]
 .have hl:=h2.length;by_cases hu:r.length=1
  .rw [dif_pos hu]
   match vs,r,h2,hu with
   | [x],[y],h2,_=>exact(aD.cons_iff.1 h2).1
   | [],[_],h2,_=>simp at hl
   |_::_::_,[_],h2,_=>simp at hl
  .rw [dif_neg hu];have:pH vs= .tup vs:=by
    match vs,hl with
    | [],_=>rfl
    | [x],hl=>simp at hl;exact absurd hl hu
    |_::_::_,_=>rfl
   rw [this];simp only [av];exact⟨r,rfl,h2⟩
structure Dh(A:Nat)(H:HL)(ret:SV)(H1:HL)(v:SV):Prop where
 ex:∃sel,bG sel ret=aa v/\dD sel.length H1.length=ab/\rE sel A=ab/\iF sel H sel H1/\iA sel 0 sel H1=ab
def Di(T:TT)(fn:Func)(A:Nat)(ret:SV)(H1:HL):Exit->RL->HL->Nat->Prop
 | .normal,R,H,_=>sN T R H fn.results.toList [] λvs=>Dh A H ret H1 (pH vs)
 | .ret,R,H,_=>sN T R H fn.results.toList [] λvs=>Dh A H ret H1 (pH vs)
 |_,_,_,_=>False
theorem bE{A:Nat}{v:SV}(sel:List Nat)(h1:bG sel ret=some v:=by exact bU)(h2:Nat.beq sel.length H1.length=true:=by exact rfl)(h3:rE sel A=true:=by exact rfl)(h4:iF sel H sel H1:=by exact bU)(h5:iA sel 0 sel H1=true:=by exact rfl):Dh A H ret H1 v:=⟨⟨sel,h1,h2,h3,h4,h5⟩⟩
structure pf(B:Nat)(w w':World):Prop where
 os:w'.os=w.os
 tape:w'.tape=w.tape
 output:w'.output=w.output
 size:w'.heap.size=w.heap.size
 low:∀k,k<B->w'.heap[k]?=w.heap[k]?
 cells:∀(k:Nat) (c:Array Value) (t:TypeId) (fz:Nat×Nat),w.heap[k]?=aa (.cells c t fz)->w'.heap[k]?=aa (.cells c t fz)
 loops:∀(k:Nat) (r:Loop),w.heap[k]?=aa (.loop r)->w'.heap[k]?=aa (.loop r)
 muts:∀(k:Nat) (x:Obj),2<=jT x->w.heap[k]?=aa x->w'.heap[k]?=aa x
theorem pf.refl(B:Nat)(w:World):pf B w w:=⟨rfl,rfl,rfl,rfl,λ_ _=>rfl,λ_ _ _ _ h=>h,λ_ _ h=>h,λ_ _ _ h=>h⟩
theorem pf.trans{a b c:World}(h:pf B a b)(k:pf B b c):pf B a c:=
 ⟨k.os.trans h.os,k.tape.trans h.tape,k.output.trans h.output,k.size.trans h.size,λi hi=>(k.low i hi).trans (h.low i hi),λi c t fz hc=>k.cells i c t fz (h.cells i c t fz hc),λi r hr=>k.loops i r (h.loops i r hr),λi x hx u=>k.muts i x hx (h.muts i x hx u)⟩
theorem pf.put{r:Nat}{x:Option (List Deferred)}{o:Obj}(hB:B<=r)(h:w.heap[r]?=aa (.deferred x)):pf B w (w.putObj r o):=by
 refine⟨rfl,rfl,rfl,by simp [World.putObj],λk hk=>?_,λk c t fz hc=>?_,λk q hc=>?_,λk x hx hc=>?_⟩
 .simp only [World.putObj];rw [nI ag]
 .have:r≠k:=λe=>Iz
  simp only [World.putObj];rw [nI this];exact hc
 .have:r≠k:=λe=>Iz
  simp only [World.putObj];rw [nI this];exact hc
 .have:r≠k:=λe=>by subst e;rw [h]at hc;cases hc;simp [jT]at hx
  simp only [World.putObj];rw [nI this];exact hc
theorem cd.marks{u:World}{rb:RB}{b:SB}(hm:pf B w u)(h:cd ρ w rb b):cd ρ u rb b:=by
 cases b with
 |obj y=>
  cases y with
  |loop R N ps as_ bd=>obtain⟨r,h1,h2⟩:=h;exact⟨r,hm.loops _ _ h1,h2⟩
  |pend c=>obtain⟨r,h1,h2⟩:=h;exact⟨r,hm.loops _ _ h1,h2⟩
 |ext y=>
  cases y with
  |fam l=>exact λe he=>⟨(h e he).1,(h e he).2.imp id λ⟨⟨c,t,fz,hb,r⟩,h2⟩=>⟨⟨c,t,fz,hm.cells _ _ _ _ hb,r⟩,h2⟩⟩
  |lit o=>exact⟨h.1,hm.muts _ _ h.1.1 h.2⟩
  |locd r o=>exact⟨h.1,hm.muts _ _ h.1.1 h.2⟩
  |ar l fs=>exact⟨⟨λe he=>let⟨c,t,fz,hb,r⟩:=h.1.1 e he;⟨c,t,fz,hm.cells _ _ _ _ hb,r⟩,h.1.2⟩,λe he=>⟨(h.2.1 e he).1,(h.2.1 e he).2.imp id λ⟨⟨c,t,fz,hb,r⟩,h2⟩=>⟨⟨c,t,fz,hm.cells _ _ _ _ hb,r⟩,h2⟩⟩,h.2.2⟩
  |nm=>exact trivial
 |ro l=>exact h.imp id λ⟨⟨c,t,fz,hb,r⟩,h2⟩=>⟨⟨c,t,fz,hm.cells _ _ _ _ hb,r⟩,h2⟩
 |box l=>obtain⟨⟨c,t,fz,hb,r⟩,h2⟩:=h;exact⟨⟨c,t,fz,hm.cells _ _ _ _ hb,r⟩,h2⟩
 |row t l=>exact h.imp id λ⟨hv,c,fz,hb,r⟩=>⟨hv,c,fz,hm.cells _ _ _ _ hb,r⟩
theorem Gr{F:Fence}{n:Nat}{P:Program}{fn:Func}{tmps:Array Value}{R:Ending->World->Prop}{B:Nat}:∀(ds:List Deferred) (w:World),Bh B ds w->
  (∀I,pf B w I->∃v,(results fn tmps).run P I= .ok v I/\R (.returned v) I)->LeavesInM F n P fn tmps R ds .returning w
 | [],w,_,h=>h w (pf.refl _ _)
 |d::ds,w,hd,h=>by
  obtain⟨hp,u,G⟩:=hd;obtain⟨r,rfl,hB,hr⟩:=u d (kX ..);refine⟨aq,.inl ⟨r,w.putObj r (.deferred ah),rfl,run_takeDeferred hr,?_⟩⟩;have U:pf B w (w.putObj r (.deferred ah)):=pf.put hB hr;simp only [iT,List.pairwise_cons]at hp;refine Gr ds _ ⟨hp.2,λd hd=>?_,by simpa [World.putObj]using G⟩ (λI Z=>h I (U.trans Z));obtain⟨r2,e,O,V⟩:=u d (jN _ hd);refine⟨r2,e,O,?_⟩;have hne:r≠r2:=λe2=>by subst e2;exact hp.1 d.target (List.mem_map_of_mem hd) r rfl (by rw [e])
  simp only [World.putObj];rw [nI hne];exact V
theorem Fr.marks{S:Nat->Nat->Prop}{r u:World}(h:Fr S w r)(hm:pf w.heap.size r u):Fr S w u:=by refine⟨hm.os.trans h.os,hm.tape.trans h.tape,hm.output.trans h.output,by rw [hm.size];exact h.size,λk o ho=>?_⟩;have hk:k<w.heap.size:=(jL.1 ho).1;rw [hm.low k hk];exact h.blk k o ho
theorem aix{c:Code}{args:List SV}(hT:fC P T)(hf:P.funcs[f]?=some fn)(hb:fn.body=some c)(hnm:(fn.name== "runtime.NumGoroutine")=false)(hle:eU args.length fn.ntmps=true)(h:bp P (·=none) fn.ntmps H0.length c (Di T fn H0.length ret H1) (regs 0 args) H0 H0.length):bV P f args H0 ret H1:=by
 refine⟨⟨fn,hf,by rw [hb];rfl,hnm⟩,λn ρ w vs hvs hh hs hfr=>?_⟩;refine callsIn_of_wp_marks hf hb trivial ?_ rfl;have cx:=hvs.length;have hle':=cr hle;have hsim:dO fn.ntmps w.heap.size H0.length ρ (rg (regs 0 args)) (hg H0) {tmps:=⟨vs⟩++sW (fn.ntmps-(⟨vs⟩:Array Value).size) undef,defers:= []} w:=by
  refine⟨aA,?_,hh,hs,hfr,⟨List.Pairwise.nil,λd hd=>by simp at hd,bH _⟩⟩;intro t v hv;obtain⟨_,h2⟩:=Hb hv;obtain⟨u,hu,hr⟩:=hvs.get h2;simp only [Nat.sub_zero]at hu;have htl:t<vs.length:=(dA.1 hu).1;have:(⟨vs⟩++sW (fn.ntmps-(⟨vs⟩:Array Value).size) undef:Array Value).getD t undef=u:=by refine NN ?_;simp [hu]
  rw [this];exact hr
 refine wpIn_mono (h.run ah n w.heap.size ρ _ w rfl hsim (bH _)) ?_;rintro e a' w' ⟨R',H',L',ρ',hq,hl',hs',he'⟩;have main:sN T R' H' fn.results.toList [] (λvs=>Dh H0.length H' ret H1 (pH vs))->LeavesInM Fence.wide n P fn a'.tmps (sv ρ H0 w ret H1) a'.defers .returning w':=by
  intro hq;refine Gr a'.defers w' hs'.dfr (λw'' hm=>?_);have hs2:dO fn.ntmps w.heap.size L' ρ' (rg R') (hg H') {a' with defers:= []} w'':=
   ⟨hs'.size,hs'.regs,λid b hid=>let⟨rb,h1,h2⟩:=hs'.heap id b hid;⟨rb,h1,h2.marks hm⟩,hs'.sep,hs'.fresh,⟨List.Pairwise.nil,λd hd=>by simp at hd,by rw [hm.size];exact hs'.dfr.2.2⟩⟩
  obtain⟨us,v,hrun,hrel,sel,g1,g2,g3,g4,g5⟩:=SU hT hs2 hq;obtain⟨k1,k2⟩:=Hy (R0:= []) (L0:=H1.length) sel (gY g2) g3 trivial g4 g5 hs2;refine⟨v,hrun,cu sel ρ',(lM ret g1).2 hrel,k1.heap,k1.sep,k1.fresh,?_⟩;have e1:fT H0.length ρ (hg H0) w ρ' (hg H') w'':=⟨he'.ext,he'.fr.marks hm,he'.own⟩;exact e1.trans k2
 cases e with
 |normal=>exact main hq
 |ret=>exact main hq
 |_=>exact hq.elim
theorem aL{c:Code}{args:List SV}(h:bp P (·=none) fn.ntmps H0.length c (Di T fn H0.length ret H1) (regs 0 args) H0 H0.length)(hT:fC P T:=by exact dw)(hf:P.funcs[f]?=some fn:=by kernel_rfl)(hb:fn.body=some c:=by exact rfl)(hnm:(fn.name== "runtime.NumGoroutine")=false:=by exact rfl)(hle:Nat.ble args.length fn.ntmps=true:=by exact rfl):bV P f args H0 ret H1:=aix hT hf hb hnm hle h
open Go.Proofs
def MJ:TI:=⟨1,af,(aa .fnil),8,.oth,ah,(aa 2)⟩
@[simp] theorem alM:MJ.sz=1:=rfl
def UO:TI:=⟨1,af,(aa (.i 0)),8,(.int .i64),ah,ah⟩
@[simp] theorem ami:UO.sz=1:=rfl
def UU:TI:=⟨1,af,(aa (.b af)),1,.oth,ah,(aa 0)⟩
@[simp] theorem amp:UU.sz=1:=rfl
def cM:TI:=⟨1,af,(aa (.u8 0)),1,(.int .u8),ah,ah⟩
@[simp] theorem Vb:cM.sz=1:=rfl
def Vn:TI:=⟨1,af,(aa (.s [])),16,.str,ah,ah⟩
@[simp] theorem amL:Vn.sz=1:=rfl
def Ur:TI:=⟨1,af,(aa (.u16 0)),2,(.int .u16),ah,ah⟩
@[simp] theorem alT:Ur.sz=1:=rfl
def wv:TI:=⟨1,af,(aa .slnil),24,(.slc 5),ah,(aa 3)⟩
@[simp] theorem alU:wv.sz=1:=rfl
def t5:TI:=⟨1,af,(aa (.u64 0)),8,(.int .u64),ah,ah⟩
@[simp] theorem UA:t5.sz=1:=rfl
def UB:TI:=⟨1,af,(aa .slnil),24,(.slc 42),ah,(aa 3)⟩
@[simp] theorem al2:UB.sz=1:=rfl
def UG:TI:=⟨12,ab,(aa (.agg (aK 12 (.u8 0)))),12,(.arr 12 5),(aa (aK 12 1)),ah⟩
@[simp] theorem al6:UG.sz=12:=rfl
def UJ:TI:=⟨15,ab,(aa (.agg ([(.u16 0),(.u64 0),.slnil]++aK 12 (.u8 0)))),56,(.st [(0,22,1),(1,24,1),(2,23,1),(3,27,12)]),ah,ah⟩
@[simp] theorem amc:UJ.sz=15:=rfl
def UP:TI:=⟨1,af,(aa (.i 0)),8,(.int .i64),ah,ah⟩
@[simp] theorem ame:UP.sz=1:=rfl
def UT:TI:=⟨1,af,(aa .pnil),8,.oth,ah,(aa 1)⟩
@[simp] theorem amh:UT.sz=1:=rfl
def UW:TI:=⟨5,ab,(aa (.agg [(.u8 0),(.u8 0),(.i 0),(.i 0),.slnil])),48,(.st [(0,5,1),(1,5,1),(2,3,1),(3,3,1),(4,23,1)]),ah,ah⟩
@[simp] theorem amj:UW.sz=5:=rfl
def UX:TI:=⟨1,af,(aa .slnil),24,(.slc 88),ah,(aa 3)⟩
@[simp] theorem amk:UX.sz=1:=rfl
def UY:TI:=⟨1,af,(aa .slnil),24,(.slc 96),ah,(aa 3)⟩
@[simp] theorem aml:UY.sz=1:=rfl
def UZ:TI:=⟨1,af,(aa .slnil),24,(.slc 4),ah,(aa 3)⟩
@[simp] theorem amm:UZ.sz=1:=rfl
def HM:TI:=⟨16,ab,(aa (.agg (aK 16 (.u8 0)))),16,(.arr 16 5),(aa (aK 16 1)),ah⟩
@[simp] theorem amn:HM.sz=16:=rfl
def U0:TI:=⟨16,ab,(aa (.agg (aK 16 (.u8 0)))),16,(.arr 16 5),(aa (aK 16 1)),ah⟩
@[simp] theorem amo:U0.sz=16:=rfl
def U4:TI:=⟨1,af,(aa .slnil),24,(.slc 94),ah,(aa 3)⟩
@[simp] theorem amq:U4.sz=1:=rfl
def U5:TI:=⟨18,ab,(aa (.agg (aK 16 (.u8 0)++ [(.u64 0),.slnil]))),48,(.st [(0,49,16),(16,24,1),(17,50,1)]),ah,ah⟩
@[simp] theorem amr:U5.sz=18:=rfl
def U6:TI:=⟨1,af,(aa .slnil),24,(.slc 106),ah,(aa 3)⟩
@[simp] theorem ams:U6.sz=1:=rfl
def U7:TI:=⟨1,af,(aa .mnil),8,.oth,ah,ah⟩
@[simp] theorem amt:U7.sz=1:=rfl
def U8:TI:=⟨1,af,(aa .mnil),8,.oth,ah,ah⟩
@[simp] theorem amu:U8.sz=1:=rfl
def U9:TI:=⟨25,ab,(aa (.agg ([.slnil,.slnil,.slnil]++aK 16 (.u8 0)++ [(.u64 0),.slnil,(.u64 0),.slnil,.mnil,.mnil]))),168,(.st [(0,45,1),(1,46,1),(2,47,1),(3,52,18),(21,24,1),(22,53,1),(23,54,1),(24,55,1)]),ah,ah⟩
@[simp] theorem amv:U9.sz=25:=rfl
def Va:TI:=⟨1,af,(aa (.u8 0)),1,(.int .u8),ah,ah⟩
@[simp] theorem amw:Va.sz=1:=rfl
def Vc:TI:=⟨5,ab,(aa (.agg [(.u8 0),(.i 0),(.i 0),(.i 0),(.i 0)])),40,(.st [(0,58,1),(1,3,1),(2,3,1),(3,3,1),(4,3,1)]),(aa [1,0,0,0,0]),ah⟩
@[simp] theorem amx:Vc.sz=5:=rfl
def Vd:TI:=⟨2,ab,(aa (.agg [(.u64 0),(.u64 0)])),16,(.st [(0,24,1),(1,24,1)]),(aa [4,4]),ah⟩
@[simp] theorem amy:Vd.sz=2:=rfl
def Ve:TI:=⟨1,af,(aa .fnil),8,.oth,ah,(aa 2)⟩
@[simp] theorem amz:Ve.sz=1:=rfl
def Vf:TI:=⟨1,af,(aa .fnil),8,.oth,ah,(aa 2)⟩
@[simp] theorem amA:Vf.sz=1:=rfl
def Vg:TI:=⟨2,ab,(aa (.agg [.fnil,.fnil])),16,(.st [(0,70,1),(1,71,1)]),ah,ah⟩
@[simp] theorem amB:Vg.sz=2:=rfl
def Vh:TI:=⟨1,af,(aa .slnil),24,(.slc 23),ah,(aa 3)⟩
@[simp] theorem amC:Vh.sz=1:=rfl
def Vi:TI:=⟨1,af,(aa .slnil),24,(.slc 3),ah,(aa 3)⟩
@[simp] theorem amD:Vi.sz=1:=rfl
def Vj:TI:=⟨32,ab,(aa (.agg (aK 32 (.u8 0)))),32,(.arr 32 5),(aa (aK 32 1)),ah⟩
@[simp] theorem amE:Vj.sz=32:=rfl
def Vk:TI:=⟨32,ab,(aa (.agg (aK 32 (.u8 0)))),32,(.arr 32 5),(aa (aK 32 1)),ah⟩
@[simp] theorem amF:Vk.sz=32:=rfl
def Vl:TI:=⟨1,af,(aa .fnil),8,.oth,ah,(aa 2)⟩
@[simp] theorem amG:Vl.sz=1:=rfl
def Vm:TI:=⟨1,af,(aa .pnil),8,.oth,ah,(aa 1)⟩
@[simp] theorem amH:Vm.sz=1:=rfl
def Vo:TI:=⟨1,af,(aa .inil),16,.oth,ah,(aa 4)⟩
@[simp] theorem amI:Vo.sz=1:=rfl
def Cq:TI:=⟨2,ab,(aa (.agg [(.u8 0),(.u8 0)])),2,(.st [(0,5,1),(1,5,1)]),(aa [1,1]),ah⟩
@[simp] theorem amJ:Cq.sz=2:=rfl
def Vp:TI:=⟨1,af,(aa .pnil),8,.oth,ah,(aa 1)⟩
@[simp] theorem amK:Vp.sz=1:=rfl
def TQ:TI:=⟨0,ab,(aa (.agg [])),0,(.st []),(aa []),ah⟩
@[simp] theorem aln:TQ.sz=0:=rfl
def TR:TI:=⟨3,ab,(aa (.agg [(.i 0),.slnil,.slnil])),56,(.st [(0,3,1),(1,23,1),(2,23,1)]),ah,ah⟩
@[simp] theorem alo:TR.sz=3:=rfl
def TS:TI:=⟨1,af,(aa (.u64 0)),8,(.int .u64),ah,ah⟩
@[simp] theorem alp:TS.sz=1:=rfl
def TU:TI:=⟨2,ab,(aa (.agg [(.u64 0),(.u64 0)])),16,(.arr 2 24),(aa [4,4]),ah⟩
@[simp] theorem alq:TU.sz=2:=rfl
def TV:TI:=⟨1,af,(aa .pnil),8,.oth,ah,(aa 1)⟩
@[simp] theorem alr:TV.sz=1:=rfl
def TW:TI:=⟨1,af,(aa .fnil),8,.oth,ah,(aa 2)⟩
@[simp] theorem als:TW.sz=1:=rfl
def TX:TI:=⟨2,ab,(aa (.agg [.slnil,.slnil])),48,(.st [(0,23,1),(1,23,1)]),ah,ah⟩
@[simp] theorem alu:TX.sz=2:=rfl
def TY:TI:=⟨2,ab,(aa (.agg [(.u8 0),(.u8 0)])),2,(.arr 2 5),(aa [1,1]),ah⟩
@[simp] theorem alv:TY.sz=2:=rfl
def TZ:TI:=⟨1,af,(aa .slnil),24,(.slc 164),ah,(aa 3)⟩
@[simp] theorem alw:TZ.sz=1:=rfl
def T6:TI:=⟨1,af,(aa .slnil),24,(.slc 152),ah,(aa 3)⟩
@[simp] theorem alx:T6.sz=1:=rfl
def T9:TI:=⟨24,ab,(aa (.agg ([.inil,(.u8 0),(.u8 0),(.b af)]++aK 16 (.u8 0)++ [(.u64 0),.slnil,.slnil,.slnil]))),120,(.st [(0,91,1),(1,94,2),(3,4,1),(4,52,18),(22,136,1),(23,137,1)]),ah,ah⟩
@[simp] theorem aly:T9.sz=24:=rfl
def Ua:TI:=⟨1,ab,(aa (.agg [.fnil])),8,(.st [(0,87,1)]),ah,ah⟩
@[simp] theorem alz:Ua.sz=1:=rfl
def Ub:TI:=⟨1,af,(aa .mnil),8,.oth,ah,ah⟩
@[simp] theorem alA:Ub.sz=1:=rfl
def Uc:TI:=⟨1,af,(aa .pnil),8,.oth,ah,(aa 1)⟩
@[simp] theorem alB:Uc.sz=1:=rfl
def Ud:TI:=⟨6,ab,(aa (.agg [.pnil,(.u16 0),(.i 0),(.u64 0),.pnil,.mnil])),48,(.st [(0,88,1),(1,22,1),(2,3,1),(3,24,1),(4,144,1),(5,143,1)]),ah,ah⟩
@[simp] theorem alC:Ud.sz=6:=rfl
def Ue:TI:=⟨1,af,(aa .slnil),24,(.slc 154),ah,(aa 3)⟩
@[simp] theorem alD:Ue.sz=1:=rfl
def Uf:TI:=⟨21,ab,(aa (.agg (aK 16 (.u8 0)++ [(.u64 0),(.u8 0),(.u8 0),(.u64 0),(.s [])]))),56,(.st [(0,49,16),(16,24,1),(17,94,2),(19,24,1),(20,9,1)]),(aa (aK 16 1++ [4,1,1,4,6])),ah⟩
@[simp] theorem alE:Uf.sz=21:=rfl
def Ug:TI:=⟨23,ab,(aa (.agg (aK 18 (.u8 0)++ [(.u64 0),(.u8 0),(.u8 0),(.u64 0),(.s [])]))),64,(.st [(0,94,2),(2,152,21)]),(aa (aK 18 1++ [4,1,1,4,6])),ah⟩
@[simp] theorem alF:Ug.sz=23:=rfl
def Uh:TI:=⟨3,ab,(aa (.agg [(.i 0),(.u64 0),(.u64 0)])),24,(.st [(0,3,1),(1,69,2)]),(aa [0,4,4]),ah⟩
@[simp] theorem alG:Uh.sz=3:=rfl
def Ui:TI:=⟨23,ab,(aa (.agg (aK 16 (.u8 0)++ [(.u64 0),(.u8 0),(.u8 0),(.u64 0),(.s []),(.u64 0),(.b af)]))),72,(.st [(0,152,21),(21,24,1),(22,4,1)]),(aa (aK 16 1++ [4,1,1,4,6,4,5])),ah⟩
@[simp] theorem alH:Ui.sz=23:=rfl
def Uj:TI:=⟨256,ab,(aa (.agg (aK 256 (.u8 0)))),256,(.arr 256 5),(aa (aK 256 1)),ah⟩
@[simp] theorem alI:Uj.sz=256:=rfl
def Uk:TI:=⟨1,af,(aa .slnil),24,(.slc 179),ah,(aa 3)⟩
@[simp] theorem alJ:Uk.sz=1:=rfl
def Ul:TI:=⟨257,ab,(aa (.agg (aK 256 (.u8 0)++ [.slnil]))),280,(.st [(0,173,256),(256,175,1)]),ah,ah⟩
@[simp] theorem alK:Ul.sz=257:=rfl
def Um:TI:=⟨4,ab,(aa (.agg [(.u8 0),(.u8 0),(.u8 0),(.u8 0)])),4,(.arr 4 5),(aa [1,1,1,1]),ah⟩
@[simp] theorem alL:Um.sz=4:=rfl
def Un:TI:=⟨5,ab,(aa (.agg [(.u16 0),(.u64 0),(.i 0),(.u64 0),.slnil])),56,(.st [(0,22,1),(1,24,1),(2,3,1),(3,24,1),(4,23,1)]),ah,ah⟩
@[simp] theorem alN:Un.sz=5:=rfl
def Uo:TI:=⟨7,ab,(aa (.agg [(.u16 0),(.u64 0),(.i 0),(.u64 0),.slnil,(.u64 0),(.b af)])),72,(.st [(0,203,5),(5,24,1),(6,4,1)]),ah,ah⟩
@[simp] theorem alO:Uo.sz=7:=rfl
def Up:TI:=⟨1,af,(aa .pnil),8,.oth,ah,(aa 1)⟩
@[simp] theorem alP:Up.sz=1:=rfl
def Uq:TI:=⟨64,ab,(aa (.agg (aK 64 (.u8 0)))),64,(.arr 64 5),(aa (aK 64 1)),ah⟩
@[simp] theorem alQ:Uq.sz=64:=rfl
def Us:TI:=⟨255,ab,(aa (.agg (aK 255 (.u8 0)))),255,(.arr 255 5),(aa (aK 255 1)),ah⟩
@[simp] theorem alR:Us.sz=255:=rfl
def Ut:TI:=⟨256,ab,(aa (.agg (aK 256 (.i 0)))),2048,(.arr 256 3),(aa (aK 256 0)),ah⟩
@[simp] theorem alS:Ut.sz=256:=rfl
def Uu:TI:=⟨16,ab,(aa (.agg (aK 16 (.u64 0)))),128,(.arr 16 24),(aa (aK 16 4)),ah⟩
@[simp] theorem alV:Uu.sz=16:=rfl
def Uv:TI:=⟨18,ab,(aa (.agg ([(.b af)]++aK 17 (.u64 0)))),144,(.st [(0,4,1),(1,24,1),(2,240,16)]),(aa ([5]++aK 17 4)),ah⟩
@[simp] theorem alW:Uv.sz=18:=rfl
def Uw:TI:=⟨23,ab,(aa (.agg ([(.u16 0),(.u64 0),(.i 0),(.u64 0),.slnil,(.b af)]++aK 17 (.u64 0)))),200,(.st [(0,203,5),(5,242,18)]),ah,ah⟩
@[simp] theorem alX:Uw.sz=23:=rfl
def Ux:TI:=⟨46,ab,(aa (.agg ([(.u16 0),(.u64 0),(.i 0),(.u64 0),.slnil,(.b af)]++aK 17 (.u64 0)++ [(.u16 0),(.u64 0),(.i 0),(.u64 0),.slnil,(.b af)]++aK 17 (.u64 0)))),400,(.arr 2 244),ah,ah⟩
@[simp] theorem alY:Ux.sz=46:=rfl
def Uy:TI:=⟨47,ab,(aa (.agg ([(.u16 0),(.u64 0),(.i 0),(.u64 0),.slnil,(.b af)]++aK 17 (.u64 0)++ [(.u16 0),(.u64 0),(.i 0),(.u64 0),.slnil,(.b af)]++aK 17 (.u64 0)++ [(.b af)]))),408,(.st [(0,245,46),(46,4,1)]),ah,ah⟩
@[simp] theorem alZ:Uy.sz=47:=rfl
def Uz:TI:=⟨1,af,(aa .fnil),8,.oth,ah,(aa 2)⟩
@[simp] theorem al0:Uz.sz=1:=rfl
def UC:TI:=⟨1,af,(aa (.u32 0)),4,(.int .u32),ah,ah⟩
@[simp] theorem al1:UC.sz=1:=rfl
def UE:TI:=⟨2,ab,(aa (.agg [(.u64 0),(.u64 0)])),16,(.st [(0,24,1),(1,24,1)]),(aa [4,4]),ah⟩
@[simp] theorem al3:UE.sz=2:=rfl
def UF:TI:=⟨16,ab,(aa (.agg (aK 16 (.u8 0)))),16,(.arr 4 179),(aa (aK 16 1)),ah⟩
@[simp] theorem al4:UF.sz=16:=rfl
def UH:TI:=⟨1,af,(aa .slnil),24,(.slc 24),ah,(aa 3)⟩
@[simp] theorem al5:UH.sz=1:=rfl
def UI:TI:=⟨1,af,(aa .pnil),8,.oth,ah,(aa 1)⟩
@[simp] theorem al7:UI.sz=1:=rfl
def UK:TI:=⟨1,af,(aa .slnil),24,(.slc 255),ah,(aa 3)⟩
@[simp] theorem al8:UK.sz=1:=rfl
def UL:TI:=⟨3,ab,(aa (.agg [(.i 0),(.i 0),(.i 0)])),24,(.arr 3 3),(aa [0,0,0]),ah⟩
@[simp] theorem al9:UL.sz=3:=rfl
def UM:TI:=⟨12,ab,(aa (.agg (aK 12 (.i 0)))),96,(.st [(0,293,3),(3,293,3),(6,293,3),(9,293,3)]),(aa (aK 12 0)),ah⟩
@[simp] theorem ama:UM.sz=12:=rfl
def UN:TI:=⟨15,ab,(aa (.agg ([.slnil,.slnil]++aK 13 (.i 0)))),152,(.st [(0,291,1),(1,291,1),(2,3,1),(3,295,12)]),ah,ah⟩
@[simp] theorem amb:UN.sz=15:=rfl
def UQ:TI:=⟨15,ab,(aa (.agg ([.slnil,.slnil]++aK 13 (.i 0)))),152,(.st [(0,270,1),(1,270,1),(2,3,1),(3,295,12)]),ah,ah⟩
@[simp] theorem amd:UQ.sz=15:=rfl
def UR:TI:=⟨8,ab,(aa (.agg [(.u32 0),(.u32 0),(.u32 0),(.u32 0),(.u32 0),(.u32 0),(.u32 0),(.u32 0)])),32,(.arr 8 255),(aa [3,3,3,3,3,3,3,3]),ah⟩
@[simp] theorem amf:UR.sz=8:=rfl
def US:TI:=⟨8,ab,(aa (.agg [(.u64 0),(.u64 0),(.u64 0),(.u64 0),(.u64 0),(.u64 0),(.u64 0),(.u64 0)])),64,(.arr 8 24),(aa [4,4,4,4,4,4,4,4]),ah⟩
@[simp] theorem amg:US.sz=8:=rfl
def tt:TT:= [(1,MJ),(3,UO),(4,UU),(5,cM),(9,Vn),(22,Ur),(23,wv),(24,t5),(25,UB),(27,UG),(29,UJ),(30,UP),(39,UT),(42,UW),(45,UX),(46,UY),(47,UZ),(48,HM),(49,U0),(50,U4),(52,U5),(53,U6),(54,U7),(55,U8),(57,U9),(58,Va),(60,Vc),(69,Vd),(70,Ve),(71,Vf),(73,Vg),(79,Vh),(81,Vi),(85,Vj),(86,Vk),(87,Vl),(88,Vm),(91,Vo),(94,Cq),(96,Vp),(103,TQ),(106,TR),(114,TS),(115,TU),(119,TV),(123,TW),(129,TX),(135,TY),(136,TZ),(137,T6),(139,T9),(142,Ua),(143,Ub),(144,Uc),(146,Ud),(148,Ue),(152,Uf),(154,Ug),(161,Uh),(164,Ui),(173,Uj),(175,Uk),(177,Ul),(179,Um),(203,Un),(205,Uo),(209,Up),(218,Uq),(221,Us),(222,Ut),(240,Uu),(242,Uv),(244,Uw),(245,Ux),(247,Uy),(248,Uz),(255,UC),(261,UE),(265,UF),(270,UH),(284,UI),(291,UK),(293,UL),(295,UM),(297,UN),(300,UQ),(311,UR),(313,US)]
theorem dw:fC Tryz.prog tt:=fC.of ⟨cg,cg,cg,cg,cg,cg,cg,cg,cg,cg,cg,cg,cg,cg,cg,cg,cg,cg,cg,cg,cg,cg,cg,cg,cg,cg,cg,cg,cg,cg,cg,cg,cg,cg,cg,cg,cg,cg,cg,cg,cg,cg,cg,cg,cg,cg,cg,cg,cg,cg,cg,cg,cg,cg,cg,cg,cg,cg,cg,cg,cg,cg,cg,cg,cg,cg,cg,cg,cg,cg,cg,cg,cg,cg,cg,cg,cg,cg,cg,cg,cg,cg,cg,cg,cg,cg,cg,cg,trivial⟩
@[reducible] def aQ(f:Nat)(a:List SV)(H:HL)(r:SV)(X:HL):Prop:=bV Tryz.prog f a H r X
@[reducible] def aM(f:Nat)(a:List SV)(H:HL)(r:SV)(X:HL):Prop:=bV Tryz.prog f a H r (H++X)
@[reducible] def an(l:List SV):Option SB:=aa (.ro l)
@[reducible] def al(l:List SV):Option SB:=aa (.box l)
@[reducible] def ao(t:Nat)(l:List SV):Option SB:=aa (.row t l)
@[reducible] def ak(l:List UInt8):Option SB:=aa (.ro (l.map .u8))
@[reducible] def dn(l:List UInt8):Option SB:=aa (.box (l.map .u8))
@[reducible] def aC(t:Nat)(l:List UInt8):Option SB:=aa (.row t (l.map .u8))
@[reducible] def eJ(l:List UInt64):Option SB:=aa (.ro (l.map .u64))
@[reducible] def akS(l:List UInt64):Option SB:=aa (.box (l.map .u64))
@[reducible] def dC(t:Nat)(l:List UInt64):Option SB:=aa (.row t (l.map .u64))
@[reducible] def jK(l:List UInt32):Option SB:=aa (.ro (l.map .u32))
@[reducible] def akT(l:List UInt32):Option SB:=aa (.box (l.map .u32))
@[reducible] def jZ(t:Nat)(l:List UInt32):Option SB:=aa (.row t (l.map .u32))
theorem fq:Tryz.prog.follows .mixedOrders=ab:=by kernel_rfl
theorem fH{N A:Nat}{c:Code}{R:RL}{ι:Type}(IR:ι->RL)(IH:ι->HL)(IL:ι->Nat)(μ:ι->Nat)(i0:ι)(h0:cl A R H L (IR i0) (IH i0) (IL i0))(round:∀i,sw tt P M N A c (λe R H L=>match e with| .normal=>∃j,μ j<μ i/\cl A R H L (IR j) (IH j) (IL j)|e=>Q e R H L) (IR i) (IH i) (IL i))(hT:fC P tt:=by exact dw)(hm:P.follows .mixedOrders=true:=by exact fq)(hc:jR N c=true:=by kernel_rfl):bp P M N A (.loop c) Q R H L:=Gs hT hm hc IR IH IL μ i0 h0 round
theorem bT{N A:Nat}{c:Code}{R:RL}(n:Nat)(IR:{i:Nat//i<=n}->RL)(IH:{i:Nat//i<=n}->HL)(l:Nat)(h0:cl A R H L (IR ⟨0,Nat.zero_le _⟩) (IH ⟨0,Nat.zero_le _⟩) l)(round:∀i,sw tt P M N A c (λe R H L=>match e with| .normal=>∃j:{i:Nat//i<=n},n-j.1<n-i.1/\cl A R H L (IR j) (IH j) l|e=>Q e R H L) (IR i) (IH i) l)(hT:fC P tt:=by exact dw)(hm:P.follows .mixedOrders=true:=by exact fq)(hc:jR N c=true:=by kernel_rfl):bp P M N A (.loop c) Q R H L:=Gs hT hm hc IR IH (λ_=>l) (λi=>n-i.1) ⟨0,Nat.zero_le _⟩ h0 round
end Go.Sh
