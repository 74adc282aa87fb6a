/- Merged for a claim: Y8, Sh64, W49, W50. -/
import Derived.Test.YtkahaemiigimcaaGreatFm18
set_option linter.unusedSimpArgs false
set_option linter.unusedVariables false
set_option maxHeartbeats 8000000
open Option renaming some->aa
open Bool renaming true->ab,false->af
open And renaming intro->aJ
open List renaming length_append->aW,getElem?_eq_some_iff->dA,map_append->dU,length_set->fJ,mem_cons->gy,getElem?_append_left->gP,mem_cons_of_mem->jN,mem_cons_self->kX,mem_singleton->lx,mem_append->mu,mem_map->mw,getElem?_set_self->uk
open Nat renaming le_refl->bH
open UInt8 renaming ofNat->cX
open Exists renaming intro->fW
open Prod renaming fst->iW
open Iff renaming rfl->qO
namespace Go.Sh
open Go.Proofs
abbrev tM(S:St)(P:Pt)(R:List ij)(n:Nat)(V:List AE)(fs:List FE)(t:HL):HL:=
 an (bA 1 3 (.sl 2 0 P.m.ds.length 2 af) P.dv ab P.m.g P.m.ep P.m.l.length)::an (aI P.m.l)::an (aN P.m.ds)::an [.fn 28 [.p 4 0]]::an [.u8 S.nn]::an (db 0 6 S.s S.b (fV P.z) (fv 8 P.z))::aa (.ext (.lit (dX R n)))::aa (.ext (.ar V fs))::an (cT S.s S.b 9 P.z)::ak (dG P.z)::t
section
variable {S:St} {K:UInt64->List UInt8} {W:List (Nat×UInt64)} {E:List FE} {N:Nat}
theorem agk{s:UInt16}{b:Nat}{p g c:UInt64}{d0 F P:List UInt8}{u:Nat}(hf:ux s b p d0 g c F u ab P)(hg:g=0):(gd (kQ s b p d0) (aV p b g) c F u).1=0:=by have h1:aV p b g&&&cB (kQ s b p d0).a.b=g:=hf.gl;unfold gd;rw [h1,hg];have e:((0:UInt64)==(kQ s b p d0).a.g)=ab:=rfl;rw [if_pos e];have o:=Le hf (k:=(kQ s b p d0).a) rfl (by rw [hg];rfl);rw [hg]at o;unfold iO;rw [if_pos (by simp [kQ,eE]),if_pos o.1]
theorem af6(h:cV S K W E N){j:Nat}(hj:j<3){e g ct:UInt64}{d:UInt8}(ko:j6 S.ep e d)(hg:g.toNat<2^S.b){pF:cC}(mF:aX pF∈S.fs){u:Nat}{v:Bool}{P:List UInt8}(hf:ux S.s S.b (aP e 0 d) (K (aP e 0 d)) g ct pF.2.2 u v P)(hP:v=ab->pF.2.2.length-u-dH S.s=P.length):fc Tryz.prog 72 [.p 5 0,.slnil,.lit pF.1] (tM S (S.pt j) (S.pt j).R (S.pt j).n S.V S.fs []) λret H=>∃I R n V fs,tf S K W E N j (aP e 0 d) g (aV (aP e 0 d) S.b g) ct v I R n V fs/\((I=0/\ret= .tup [.sl 10 0 P.length 1 af,.agg [.u8 0,.u8 d],.i 0]/\H=tM S (S.pt j) R n V fs [aC 5 P])\/(I≠0/\ret= .tup [.slnil,.agg [.u8 0,.u8 0],.i I]/\H=tM S (S.pt j) R n V fs [])):=by
  have q:=h.pt j hj;have kl:=h.el ko;have x0:=Gm h.sb kl.2.2 hg;have G:=adi kl.1 ko.d;have hn:(S.pt j).m.l.length<1000000:=by have:=q.len;have:=h.eN;have:=h.hN;omega
  have hM:=uW (S.pt j).m.ds.length;have hX:=jG (S.pt j).m.ds;have hid:∀(R:List ij) (fs:List FE),∀y,y∈R->y∈R\/y.1=aP e 0 d:=λ_ _ _ h=> .inl h
  by_cases h6:∃x,x∈(S.pt j).m.l/\x.kid=aP e 0 d
  .obtain⟨x,hx,hk⟩:=h6;obtain⟨y1,y2⟩:=adp h hj hx ko hk ab (S.pt j).m.ep;rw [<-G.2.2]at y1 y2;have r:=q.hd x hx;have k0:=r.k0;have k1:=r.k1;have hxk:x.key=K (aP e 0 d):=by rw [<-hk];exact r.key
   rw [hxk]at k0 k1 y2;have x6:∀(z:Int×Rk×Kp) (R:List ij) (n:Nat) (V:List AE) (fs:List FE),tf S K W E N j (aP e 0 d) g (aV (aP e 0 d) S.b g) ct v z.1 R n V fs->(z.1=0->uZ z.2.2 (aV (aP e 0 d) S.b g) ct pF.2.2 u=P)->
       ∃I R' n' V' h8,tf S K W E N j (aP e 0 d) g (aV (aP e 0 d) S.b g) ct v I R' n' V' h8/\
       ((I=0/\tJ S.s pF u d z.1= .tup [.sl 10 0 P.length 1 af,.agg [.u8 0,.u8 d],.i 0]/\tM S (S.pt j) R n V fs []++nA z.2.2 (aV (aP e 0 d) S.b g) ct pF.2.2 u z.1=tM S (S.pt j) R' n' V' h8 [aC 5 P])\/
        (I≠0/\tJ S.s pF u d z.1= .tup [.slnil,.agg [.u8 0,.u8 0],.i I]/\tM S (S.pt j) R n V fs []++nA z.2.2 (aV (aP e 0 d) S.b g) ct pF.2.2 u z.1=tM S (S.pt j) R' n' V' h8 [])):=λz R n V fs o hpl=>by
     refine⟨z.1,R,n,V,fs,o,?_⟩;by_cases hz:z.1=0
     .refine .inl ⟨hz,?_,?_⟩
      .unfold tJ;rw [if_pos hz,hP (o.ok hz).1]
      .unfold nA;rw [if_pos hz,hpl hz];rfl
     .refine .inr ⟨hz,?_,?_⟩
      .unfold tJ;rw [if_neg hz]
      .unfold nA;rw [if_neg hz];rfl
   rcases q.rcs x hx with⟨f1,f2⟩|⟨qq,rk,k,t,f1,f2,f3,f4,f5,f6,f7,f8⟩
   .rw [hk]at f1 f2;refine abU (S.pt j).m.l hn hM hX S.nn (S.pt j).dv (S.pt j).m.g (S.pt j).m.ep S.s S.b (S.pt j).z (S.pt j).R (S.pt j).n S.V S.fs pF mF hf.fr.f2 u _ ct hf.fr.tk (aP e 0 d) x0 d G.1 G.2.1 y1 h.s1 h.s2 h.sb (SA h.sb kl.2.2) (K (aP e 0 d)) y2 k0 k1 hf.fr (λy hy=>by have:=List.find?_eq_none.1 f1 y hy;simpa using this) ?_;intro ro o p1 p2 q1 q2 d1 d2;have op:=RW hf (SW (s:=S.s) (b:=S.b) (p:=aP e 0 d) k0 k1);have ez:=fun(hv:v=ab) (h9:g=0)=>agk (by rw [hv]at hf;exact hf) h9
    change Og S.s S.b (aP e 0 d) (K (aP e 0 d)) g ct pF.2.2 u v P (kQ S.s S.b (aP e 0 d) (K (aP e 0 d))) (λ_ _=>False) (gd (kQ S.s S.b (aP e 0 d) (K (aP e 0 d))) (aV (aP e 0 d) S.b g) ct pF.2.2 u)at op;obtain⟨z,hz⟩:=ax (gd (kQ S.s S.b (aP e 0 d) (K (aP e 0 d))) (aV (aP e 0 d) S.b g) ct pF.2.2 u);rw [<-hz]at op d1 d2 ez|-;have h7:∀(op:List pg) (oc:Nat) (ok:Bool),op.map iW=S.op.map iW++(if ok=ab then [jx (j:Int) (aV (aP e 0 d) S.b g) ct]else [])->uy S.s S.b (aP e 0 d) (K (aP e 0 d)) z.2.1 (λO Z=>ok=ab/\O=g/\Z=ct)->
        cV (S.opn j ((S.pt j).R++ [(aP e 0 d,(ro,o),(S.pt j).n)]) ((S.pt j).n+1) (S.V++ [(⟨ro,o,q1,q2⟩:Rp).ae z.2.1]) (aX q1::aX q2::aX p1::aX p2::S.fs) op oc) K (W++ [(j,aP e 0 d)]) E N:=λop oc ok x5 hri=>
      KD h hj (h0:=aV (aP e 0 d) S.b g) (ct:=ct) _ _ _ _ op oc _ ok ko rfl hg rfl
        (λy hy=>(mu.1 hy).imp id λhy=>by simp only [lx]at hy;rw [hy])
        (λa U=>by simp only [gy];exact .inr (.inr (.inr (.inr U))))
        (λk a w _ _ U=>by rw [gP (dA.1 U).1];exact U)
        (λk w hw=>by rw [gP (dA.1 hw).1];exact hw)
        (by rw [aW,aW,h.wl];rfl)
        (λk2 hk2=>by rw [Qm _ f1,if_neg hk2]) x5
        (λx2 _ _=> .inr ⟨⟨ro,o,q1,q2⟩,z.2.1,S.V.length,(S.pt j).n,by rw [Qm _ f1,if_pos rfl],d1,d2,aq,kX ..,jN _ (kX ..),by rw [<-h.wl];simp,hri.congr λO Z=>⟨λ⟨e1,e2,e3⟩=>⟨by rw [e2];exact hg,.inr ⟨e1,by rw [e2],e3⟩⟩,λ⟨e1,e2⟩=>by
          rcases e2 with e2|⟨e2,e3,e4⟩
          .exact absurd e2 (f2 O Z e1)
          .exact⟨e2,(BN h.sb kl.2.2 e1 kl.2.2 hg e3).2,e4⟩⟩⟩)
    refine x6 z _ _ _ _ ⟨λh0=>?_,λh0=>?_,λhv h9 _ _=>ez hv h9,λhno=>absurd hk (hno x hx),λa U=>by simp only [gy];exact .inr (.inr (.inr (.inr U)))⟩ (λh0=>?_)
    .rcases op with⟨_,o2,F,o4,o5⟩|⟨o1,_⟩
     .exact⟨o2,λho=>f2 g ct hg ho,_,h7 _ _ ab (by rw [dU];rfl) (o5.congr λO Z=>⟨λe=>e.elim (λe=>e.elim) λe=>⟨rfl,e⟩,λe=> .inr e.2⟩)⟩
     .exact absurd h0 o1
    .rcases op with⟨o1,_⟩|⟨_,o2,F⟩
     .exact absurd o1 h0
     .refine⟨?_,_,h7 _ _ af aq ?_⟩
      .rcases F with⟨_,F⟩|F|F|F|F
       .exact F.elim
       .exact .inr (.inl F)
       .exact .inr (.inr (.inl F))
       .exact .inr (.inr (.inr (.inr (.inl F))))
       .exact .inr (.inr (.inr (.inr (.inr F))))
      .rw [o2];exact(SW k0 k1).congr λO Z=>⟨λe=>e.elim,λe=>by cases e.1⟩
    .rcases op with⟨_,o2,F,o4,o5⟩|⟨o1,_⟩
     .exact o4
     .exact absurd h0 o1
   .rw [hk]at f1 f7 f8;obtain⟨i,i1,i2⟩:=ab3 f1;refine abT (S.pt j).m.l hn hM hX S.nn (S.pt j).dv (S.pt j).m.g (S.pt j).m.ep S.s S.b (S.pt j).z (S.pt j).R (S.pt j).n S.V S.fs pF mF hf.fr.f2 u _ ct hf.fr.tk (aP e 0 d) x0 d G.1 G.2.1 y1 f8.ok hf.fr i1 i2 f2 f3 f4 f5 f6 ?_;intro q1 q2 d1 d2;have op:=RW hf f8;obtain⟨z,hz⟩:=ax (gd rk (aV (aP e 0 d) S.b g) ct pF.2.2 u);rw [<-hz]at op d1 d2|-;have h7:∀(op:List pg) (oc:Nat) (ok:Bool),op.map iW=S.op.map iW++(if ok=ab then [jx (j:Int) (aV (aP e 0 d) S.b g) ct]else [])->uy S.s S.b (aP e 0 d) (K (aP e 0 d)) z.2.1 (λO Z=>(O.toNat<2^S.b/\oK S j (aV (aP e 0 d) S.b O) Z)\/(ok=ab/\O=g/\Z=ct))->
        cV (S.opn j (S.pt j).R (S.pt j).n (S.V.set k ((⟨qq.r,qq.o,q1,q2⟩:Rp).ae z.2.1)) (aX q1::aX q2::S.fs) op oc) K W E N:=λop oc ok x5 hri=>
      KD h hj (h0:=aV (aP e 0 d) S.b g) (ct:=ct) _ _ _ _ op oc _ ok ko rfl hg rfl
        (λy hy=> .inl hy)
        (λa U=>by simp only [gy];exact .inr (.inr U))
        (λk2 a w hw hne U=>by
          have:k≠k2:=λe=>by subst e;rw [f7]at hw;exact hne (Option.some.inj hw).symm
          rw [List.getElem?_set_ne this];exact U)
        (λk w hw=>hw) (by rw [fJ];exact h.wl)
        (λk2 hk2=>rfl) x5
        (λx2 _ _=> .inr ⟨⟨qq.r,qq.o,q1,q2⟩,z.2.1,k,t,f1,d1,d2,uk (dA.1 f4).1,kX ..,jN _ (kX ..),f7,hri.congr λO Z=>⟨λe=>by
          rcases e with⟨e1,e2⟩|⟨e1,e2,e3⟩
          .exact⟨e1,.inl e2⟩
          .exact⟨by rw [e2];exact hg,.inr ⟨e1,by rw [e2],e3⟩⟩,λ⟨e1,e2⟩=>by
          rcases e2 with e2|⟨e2,e3,e4⟩
          .exact .inl ⟨e1,e2⟩
          .exact .inr ⟨e2,(BN h.sb kl.2.2 e1 kl.2.2 hg e3).2,e4⟩⟩⟩)
    refine x6 z _ _ _ _ ⟨λh0=>?_,λh0=>?_,λ_ _ hno _=>(by rw [f1]at hno;cases hno),λhno=>absurd hk (hno x hx),λa U=>by simp only [gy];exact .inr (.inr U)⟩ (λh0=>?_)
    .rcases op with⟨_,o2,F,o4,o5⟩|⟨o1,_⟩
     .exact⟨o2,λho=>F ⟨hg,ho⟩,_,h7 _ _ ab (by rw [dU];rfl) (o5.congr λO Z=>or_congr qO ⟨λe=>⟨rfl,e⟩,λe=>e.2⟩)⟩
     .exact absurd h0 o1
    .rcases op with⟨o1,_⟩|⟨_,o2,F⟩
     .exact absurd o1 h0
     .refine⟨?_,_,h7 _ _ af aq ?_⟩
      .rcases F with⟨F,o4⟩|F|F|F|F
       .exact .inl ⟨F,o4.2⟩
       .exact .inr (.inl F)
       .exact .inr (.inr (.inl F))
       .exact .inr (.inr (.inr (.inr (.inl F))))
       .exact .inr (.inr (.inr (.inr (.inr F))))
      .rw [o2];exact f8.congr λO Z=>⟨.inl,λe=>e.elim id λe=>by cases e.1⟩
    .rcases op with⟨_,o2,F,o4,o5⟩|⟨o1,_⟩
     .exact o4
     .exact absurd h0 o1
  .have hno:∀x,x∈(S.pt j).m.l->x.kid≠aP e 0 d:=λx hx hk=>h6 ⟨x,hx,hk⟩
   have hy:=adq h hj (d:=d) (e:=e) hno ab (S.pt j).m.ep;obtain⟨I,x7⟩:=ax (pz (S.pt j).m.l d e ab (S.pt j).m.ep);rw [<-x7]at hy;have hne:I≠0:=by rcases hy with hy|hy<;>rw [hy]<;>decide
   refine bV.x (abS (S.pt j).m.l hn hM hX S.nn (S.pt j).dv (S.pt j).m.g (S.pt j).m.ep S.s S.b (S.pt j).z (S.pt j).R (S.pt j).n S.V S.fs pF mF hf.fr.f2 u _ ct hf.fr.tk (aP e 0 d) x0 d G.1 G.2.1 I (by rw [G.2.2];exact x7.symm) AZ) ?_;refine⟨I,sL (S.pt j).R (aP e 0 d),(S.pt j).n,S.V,S.fs,⟨λh0=>absurd h0 hne,λ_=>⟨?_,W,?_⟩,λ_ _ _ hx=>absurd hx h6,λ_=>hne,λ_ h=>h⟩,.inr ⟨hne,rfl,rfl⟩⟩
   .rcases hy with hy|hy
    .exact .inr (.inr (.inl hy))
    .exact .inr (.inr (.inr (.inl hy)))
   .exact KD h hj (h0:=aV (aP e 0 d) S.b g) (ct:=ct) _ _ _ _ _ _ _ af ko rfl hg rfl (λy hy=> .inl (List.mem_of_mem_eraseP hy)) (λ_ h=>h) (λ_ _ _ _ _ h=>h) (λ_ _ h=>h) h.wl (λk2 hk2=>Qn hk2 _) aq (λx hx hk=>absurd hk (hno x hx))
end
end Go.Sh
namespace Go.Sh
variable{t:Nat}
section
variable {P:Program} {o:Oper} {p:cC} {Y:YB} {fs:List FE}
theorem aep{R:eM}{H:cG}{el q:Nat}{x:Operand}(ho:o.op= .call {callee:= .builtin .len,args:= #[x],argTypes:= #[t]})(hu:P.underlying t=aa (.slice el))(hx:aZ R x=aa (.lit p.1))(hq:H q=aa (.ext Y))(hY:Y= .fam fs\/∃la,Y= .ar la fs)(hm:aX p∈fs):LT P o R H [q] [] (aa (.i (p.2.2.length:Int))):=by
 refine LT.pure cJ λe w ρ h1 h2=>?_
 have hx2:=h1 x fG _ hx;obtain⟨rb,hr,r⟩:=h2 q aq _ hq;simp only [av]at hx2;obtain⟨a2,F,u,G,_⟩:=(Kf r hY hm).1;have u:p.1= .slice a2 p.2.2.length F:=u;have he:e x= .slice a2 p.2.2.length F:=by rw [hx2.1,u]
 exact Nx
theorem afA{R:RL}{H:HL}{L:Nat}{k:K1}{el:Nat}(q:Nat){x:Operand}(ho:o.op= .call {callee:= .builtin .len,args:= #[x],argTypes:= #[t]})(hu:P.underlying t=aa (.slice el))(hx:ev R x=aa (.lit p.1))(hq:hk H q=aa (.ext Y))(hY:Y= .fam fs\/∃la,Y= .ar la fs)(hm:aX p∈fs)(h:k (aa (.i (p.2.2.length:Int))) [] [q] L):cR P o R H L k:=
 dB (aep ho hu (bq hx) (gb hq) hY hm) h
theorem aeq{R:eM}{H:cG}{G F id c:Nat}{x:Operand}{M:List pg}(ho:o.op= .call {callee:= .builtin .len,args:= #[x],argTypes:= #[t]})(hu:P.underlying t=aa (.map G F))(hx:aZ R x=aa (.mp id))(hb:H id=aa (.ext (.lit (jJ M c)))):LT P o R H [id] [] (aa (.i (M.length:Int))):=by
 refine LT.pure cJ λe w ρ h1 h2=>?_
 have hx2:=h1 x fG _ hx;simp only [av]at hx2;obtain⟨rb,hr,he⟩:=hx2;obtain⟨I,r,u⟩:=h2 id aq _ hb;rw [hr]at r;cases r;have hw:=u.2;exact⟨.int .i64 (M.length:Int),by simp [execOp,ho,resolve,invoke,builtin,Builtin.len_,he,eS hu,goInt,jJ,MapKept.run_getObj_map hw],gO⟩
theorem afB{R:RL}{H:HL}{L:Nat}{k:K1}{u r c:Nat}(id:Nat){x:Operand}{M:List pg}(ho:o.op= .call {callee:= .builtin .len,args:= #[x],argTypes:= #[t]})(hu:P.underlying t=aa (.map u r))(hx:ev R x=aa (.mp id))(hb:hk H id=aa (.ext (.lit (jJ M c))))(h:k (aa (.i (M.length:Int))) [] [id] L):cR P o R H L k:=
 dB (aeq ho hu (bq hx) (gb hb)) h
end
open Go.Proofs
theorem MH{p:cC}{Y:YB}{fs:List FE}(hY:Y= .fam fs\/∃l,Y= .ar l fs)(m:aX p∈fs){u:Nat}{h c:UInt64}(hT:fg p.2.2=aa (u,h,c))(hl:p.2.2.length<1000000000):aM 35 [.lit p.1] [aa (.ext Y)] (.tup [.agg [.u64 h,.u64 c],.i (u:Int)]) []:=by have q:=f18 p.2.2 hl;rw [<-Qw,hT]at q;exact bV.lend (p:=p) (Y:=Y) [] (bs:= []) 0 1 q hY m rfl aw rfl rfl ⟨.inl rfl,trivial⟩ ⟨.inl rfl,trivial⟩ (bH _) (λid b h hb=>by match id,h with|0,h=>exact .inl rfl|id+1,h=>simp [hg]at h)
theorem agj{j:Nat}(hj:j=0\/j=1\/j=2)(T:St)(E:List FE)(Z:T.A.m.sm=ab)(c:Pc){u:Nat}{h0 ct:UInt64}(hT:fg c.b.2.2=aa (u,h0,ct))(h7:c.b.2.2.length<1000000)(h6:c.fr<3)(ht:aX c.t∈E){pF:cC}(ch bo:Bool)(I:uz Tryz.prog 161 T.op)(G:bo=ab↔jx (j:Int) h0 ct∈T.op.map iW){Out:Int->List ij->Nat->List AE->List FE->Prop}(q:fc Tryz.prog 72 [.p 5 0,.slnil,.lit pF.1] (tM T T.A T.A.R T.A.n T.V T.fs []) λret H=>∃r R n V fs,Out r R n V fs/\((r=0/\ret= .tup [.sl 10 0 c.t.2.2.length 1 af,.agg [.u8 0,.u8 (dN c.fr)],.i 0]/\H=tM T T.A R n V fs [aC 5 c.t.2.2])\/(r≠0/\ret= .tup [.slnil,.agg [.u8 0,.u8 0],.i r]/\H=tM T T.A R n V fs [])))(o1:∀R n V fs,Out 0 R n V fs->ch=af/\bo=af)(o2:∀r R n V fs,r≠0->Out r R n V fs->(r=160/\bo=ab)\/r=161\/r=241\/r=240\/r=5\/(r=140/\ch=ab))(o3:∀r R n V fs,Out r R n V fs->aX c.b∈fs):fc Tryz.prog 36 [.p 0 0,.i (j:Int),.agg (rR c),.lit pF.1,.b ch] (eG (cF j) (cE j) T [aa (.ext (.fam E))]) λret H=>ret= .b ab/\∃r R n V fs op oc,Out r R n V fs/\((r=0/\op=T.op++ [(jx (j:Int) h0 ct,T.oc)]/\oc=T.oc+1)\/(r≠0/\op=T.op/\oc=T.oc))/\H=eG (cF j) (cE j) {T with A:={T.A with R:=R,n:=n},V:=V,fs:=fs,op:=op,oc:=oc} [aa (.ext (.fam E))]:=by
  obtain⟨s,b,x,y,z,g,ep,now,ro,fr,op,oc,sl,sc,nn,A,B,C,V,fs⟩:=T;obtain⟨dv,⟨sm,mg,h8,ds,l⟩,zz,R,n⟩:=A;dsimp only at Z I G q;subst Z;have O:ju (SB.box [SV.u8 0,.u8 (dN c.fr)]).cells [SV.u8 0,.u8 (cX c.fr)]=ab:=by
    show((0:UInt8)==0&&((dN c.fr==cX c.fr)&&ab))=ab
    simp
  refine wF ?_;refine Nn (fn:=Tryz.f36) ?_;refine zE ?_;refine zW (mn (J:= [1,2]) dw fq bD) ?_;rcases hj with rfl|rfl|rfl
  all_goals
    refine wu rfl ?_;refine zW (wo (pre:= [_,_,_,_,_,_,_,_]) dw bD) ?_;refine zl ?_;refine D3 (zs:= [.p 21 0,.slnil,.lit pF.1]) (caps:= []) [10,11,12,9,8,21,22,33,23,24] [af,af,af,af,af,af,ab,ab,af,af,ab] af bD q rfl rfl rfl rfl rfl rfl rfl ?_ rfl ?_
    .exact bU
    rintro ret H1 ⟨r,R2,n2,V2,U,F,⟨e0,rfl,rfl⟩|⟨e0,rfl,rfl⟩⟩
    .subst e0;obtain⟨rfl,rfl⟩:=o1 _ _ _ _ F;have qt:=MH (.inr ⟨V2,rfl⟩) (o3 _ _ _ _ _ F) hT ag;refine⟨IU,rfl,?_⟩;refine y8 ?_;refine zJ ?_;refine oY ?_;refine zW (aE [33] [ab] ab qt) ?_;refine zq ?_;refine zW (La 6 af (jx _ h0 ct) KJ I (Gn _ aw h0 ct) G rfl (by kernel_rfl:Tryz.prog.underlying 54=aa (.map 161 103)) rfl rfl rfl rfl bD) ?_;refine zq ?_;refine zW (RI 6 (jx _ h0 ct) rfl KJ I (Gn _ aw h0 ct) (λhm=>absurd (G.2 hm) aw) rfl (by kernel_rfl:Tryz.prog.underlying 54=aa (.map 161 103)) rfl rfl rfl rfl rfl) ?_;refine yj ?_;refine zW (aE [] [] ab ((F0 c.fr h6))) ?_;repeat(first|(refine fW _ (aJ Fl ?_);conv=>whnf)|refine zW (bl O) ?_|refine aS ?_)
     refine zW (afu (p:=c.t) (el:=5) 34 rfl bD bD bD rfl rfl (.inl rfl) ht) ?_;repeat(first|refine zW (bl O) ?_|refine zW (iN O) ?_|refine zf ?_)
     refine⟨.b ab,_,⟨rfl,0,R2,n2,V2,U,_,_,F,.inl ⟨rfl,rfl,rfl⟩,rfl⟩,?_⟩;conv=>whnf
     exact zQ
    .have o:=o2 _ _ _ _ _ e0 F;have qt:=MH (.inr ⟨V2,rfl⟩) (o3 _ _ _ _ _ F) hT ag;rcases o with⟨rfl,hb⟩|rfl|rfl|rfl|rfl|⟨rfl,hb⟩
     all_goals
       refine⟨az,rfl,?_⟩;refine y8 ?_;refine zJ ?_;refine oY ?_;refine zW (aE [33] [ab] ab qt) ?_;refine zq ?_;refine zW (La 6 bo (jx _ h0 ct) KJ I (Gn _ aw h0 ct) G rfl (by kernel_rfl:Tryz.prog.underlying 54=aa (.map 161 103)) rfl rfl rfl rfl bD) ?_;repeat(first|refine zH (df rfl az) ?_|refine zW (bC (by assumption)) ?_|refine zW (iN (by assumption)) ?_|refine aS ?_)
       refine⟨.b ab,_,⟨rfl,_,R2,n2,V2,U,_,_,F,.inr ⟨e0,rfl,rfl⟩,rfl⟩,?_⟩;conv=>whnf
       refine⟨[0,1,2,3,4,5,6,7,8,9,10,11,12,13,14,15,16,17,18,19,20,21,22,23,24,25,26,27,28,29,30,31,32,33,34],?_,rfl,rfl,?_,rfl⟩
       ·(repeat'(fail))<;>first|rfl|exact AT (by exact hb.symm)|fail
       .exact bU
theorem Dz{sel:List Nat}(a:sel[10]?=aa 10)(b:sel[14]?=aa 14)(c:sel[18]?=aa 18)(j:Nat):bu sel (cF j)=aa (cF j):=by match j with|0=>simp only [cF,bu,bG,a,b,c]|1=>simp only [cF,bu,bG,a,b,c]|j+2=>simp only [cF,bu,bG,a,b,c]
theorem Dy{sel:List Nat}(a:sel[21]?=aa 21)(b:sel[25]?=aa 25)(c:sel[29]?=aa 29)(j:Nat):bu sel (cE j)=aa (cE j):=by match j with|0=>simp only [cE,bu,bG,a,b,c]|1=>simp only [cE,bu,bG,a,b,c]|j+2=>simp only [cE,bu,bG,a,b,c]
theorem oa{sel:List Nat}{l m:List SV}(h:bu sel l=aa m):cZ sel (.row t l)=aa (.row t m):=by simp only [cZ,h]
theorem Ca{sel:List Nat}{l m:List SV}(h:bu sel l=aa m):cZ sel (.box l)=al m:=by simp only [cZ,h]
section
variable {S:St} {K:UInt64->List UInt8} {W:List (Nat×UInt64)} {E:List FE} {N:Nat}
theorem aiY(h:cV S K W E N):uz Tryz.prog 161 S.op:=λy hy=>by obtain⟨i,e,d,g,c,g1,g2,g3,g4⟩:=h.op y.1 (mw.2 ⟨y,hy,rfl⟩);rw [g4];exact Gn i g1 _ _
theorem aiZ(h:cV S K W E N):uz Tryz.prog 69 S.sl:=λy hy=>by obtain⟨e,d,g,ct,z,g1,g2,g3,_⟩:=h.sl y.1 (mw.2 ⟨y,hy,rfl⟩);rw [g3];exact KK _ _
def Oc(F X:List UInt8)(ch:Bool):Prop:=(ch=af/\X=F)\/(ch=ab/\∃i v,i<4/\F[F.length-1-i]?≠aa v/\X=F.set (F.length-1-i) v)
def Bi(S:St)(K:UInt64->List UInt8)(W:List (Nat×UInt64))(E:List FE)(N j:Nat)(c:Pc)(ch:Bool)(u:St):Prop:=∃e d g ct r R n V fs op oc,j6 S.ep e d/\g.toNat<2^S.b/\c.b.2.2=rA S.s S.b (K (aP e 0 d)) (aP e 0 d) g ct c.t.2.2/\tf S K W E N j (aP e 0 d) g (aV (aP e 0 d) S.b g) ct (!ch) r R n V fs/\
 ((r=0/\op=S.op++ [(jx (j:Int) (aV (aP e 0 d) S.b g) ct,S.oc)]/\oc=S.oc+1)\/(r≠0/\op=S.op/\oc=S.oc))/\u=S.opn j R n V fs op oc
theorem RO{j:Nat}{c:Pc}{ch:Bool}{u:St}(h:Bi S K W E N j c ch u):∃F,cV u K F E N:=by
 obtain⟨e,d,g,ct,G,R,n,V,fs,op,oc,g1,g2,g3,o,ho,rfl⟩:=h;rcases ho with⟨r,rfl,rfl⟩|⟨r,rfl,rfl⟩
 .exact(o.ok r).2.2
 .exact(o.no r).2
theorem RV(h:cV S K W E N)(he:S.ep≠0){j:Nat}(hj:j=0\/j=1\/j=2){c:Pc}(hc:c∈S.fr){pF:cC}(mF:aX pF∈S.fs){ch:Bool}(hF:Oc c.b.2.2 pF.2.2 ch):fc Tryz.prog 36 [.p 0 0,.i (j:Int),.agg (rR c),.lit pF.1,.b ch] (eG (cF j) (cE j) (S.sw j) [aa (.ext (.fam E))]) λret H=>ret= .b ab/\∃S2,Bi S K W E N j c ch S2/\H=eG (cF j) (cE j) (S2.sw j) [aa (.ext (.fam E))]:=by
 obtain⟨e,d,g,ct,g1,g2,g3,g4,g5,g6,g7⟩:=h.fr c hc;have I:j<3:=ag;have kl:=h.el g1;have hl:=Ku h.s1 h.s2 S.b (K (aP e 0 d)) (aP e 0 d) g ct c.t.2.2;have hu:=sC (aV (aP e 0 d) S.b g) ct;have ht:=Co S.s;have hf:ux S.s S.b (aP e 0 d) (K (aP e 0 d)) g ct pF.2.2 (bF (aV (aP e 0 d) S.b g) ct).length (!ch) c.t.2.2:=by
  rcases hF with⟨rfl,hX⟩|⟨rfl,i,v,h1,h2,hX⟩
  .rw [hX,g4];exact acd h.s1 h.s2 h.sb _ kl.2.2 g3 ct g5
  .rw [hX,g4];rw [g4]at h2;exact acb h.s1 h.s2 h.sb _ kl.2.2 g3 ct g5 h1 h2 _
 have hP:(!ch)=ab->pF.2.2.length-(bF (aV (aP e 0 d) S.b g) ct).length-dH S.s=c.t.2.2.length:=by
  rcases hF with⟨rfl,hX⟩|⟨rfl,i,v,h1,h2,hX⟩
  .intro _;rw [hX,g4,hl];omega
  .intro h;cases h
 have q:=af6 h I g1 g3 mF hf hP;have hd:dN c.fr=d:=by rw [g2];exact UInt8.ofNat_toNat
 rw [<-hd]at q;obtain⟨G,F⟩:∃G:Bool,G=ab↔jx (j:Int) (aV (aP e 0 (dN c.fr)) S.b g) ct∈S.op.map iW:=by
  by_cases hm:jx (j:Int) (aV (aP e 0 (dN c.fr)) S.b g) ct∈S.op.map iW
  .exact⟨ab,λ_=>hm,λ_=>rfl⟩
  .exact⟨af,λh=>(by cases h),λh=>absurd h hm⟩
 have hT:fg c.b.2.2=aa ((bF (aV (aP e 0 (dN c.fr)) S.b g) ct).length,aV (aP e 0 (dN c.fr)) S.b g,ct):=by rw [g4,hd];exact BJ _ _ _
 have sm:=(h.pt j I).sm.resolve_right he;have Z:c.fr<3:=by rw [g2];exact g1.d
 have U:c.b.2.2.length<1000000:=by rw [g4,hl];omega
 have o1:∀(R:List ij) (n:Nat) (V:List AE) (fs:List FE),tf S K W E N j (aP e 0 (dN c.fr)) g (aV (aP e 0 (dN c.fr)) S.b g) ct (!ch) 0 R n V fs->ch=af/\G=af:=λR n V fs o=>by
  obtain⟨a1,a2,_⟩:=o.ok rfl;refine⟨by simpa using a1,?_⟩;cases hb:G with
  |false=>rfl
  |true=>exact absurd (F.1 hb) a2
 have o2:∀(u:Int) (R:List ij) (n:Nat) (V:List AE) (fs:List FE),u≠0->tf S K W E N j (aP e 0 (dN c.fr)) g (aV (aP e 0 (dN c.fr)) S.b g) ct (!ch) u R n V fs->(u=160/\G=ab)\/u=161\/u=241\/u=240\/u=5\/(u=140/\ch=ab):=λu R n V fs h0 o=>by
  rcases(o.no h0).1 with⟨a,b⟩|a|a|a|a|⟨a,b⟩
  .exact .inl ⟨a,F.2 b⟩
  .exact .inr (.inl a)
  .exact .inr (.inr (.inl a))
  .exact .inr (.inr (.inr (.inl a)))
  .exact .inr (.inr (.inr (.inr (.inl a))))
  .exact .inr (.inr (.inr (.inr (.inr ⟨a,by simpa using b⟩))))
 have o3:∀(u:Int) (R:List ij) (n:Nat) (V:List AE) (fs:List FE),tf S K W E N j (aP e 0 (dN c.fr)) g (aV (aP e 0 (dN c.fr)) S.b g) ct (!ch) u R n V fs->aX c.b∈fs:=λu R n V fs o=>o.fs _ g6
 have O:∀u R n V fs op oc,tf S K W E N j (aP e 0 (dN c.fr)) g (aV (aP e 0 (dN c.fr)) S.b g) ct (!ch) u R n V fs->((u=0/\op=S.op++ [(jx (j:Int) (aV (aP e 0 (dN c.fr)) S.b g) ct,S.oc)]/\oc=S.oc+1)\/(u≠0/\op=S.op/\oc=S.oc))->Bi S K W E N j c ch (S.opn j R n V fs op oc):=λu R n V fs op oc o ho=>by rw [hd]at o ho;exact⟨e,d,g,ct,u,R,n,V,fs,op,oc,g1,g3,g4,o,ho,rfl⟩
 have h6:=aiY h;refine(agj hj (S.sw j) E ?_ c hT U Z g7 ch G ?_ ?_ (Out:=tf S K W E N j (aP e 0 (dN c.fr)) g (aV (aP e 0 (dN c.fr)) S.b g) ct (!ch)) ?_ o1 o2 o3).mono ?_
 .rcases hj with rfl|rfl|rfl<;>exact sm
 .rcases hj with rfl|rfl|rfl<;>exact h6
 .rcases hj with rfl|rfl|rfl<;>exact F
 .rcases hj with rfl|rfl|rfl<;>exact q
 .rintro r H ⟨e1,u,R,n,V,fs,op,oc,o,ho,e2⟩;rcases hj with rfl|rfl|rfl<;>exact⟨e1,_,O u R n V fs op oc o ho,e2⟩
end
end Go.Sh
