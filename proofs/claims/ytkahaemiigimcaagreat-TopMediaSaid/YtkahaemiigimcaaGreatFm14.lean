/- Merged for a claim: W18, W24, Sh51, W25, W26, W27, W28, Sh52, W29, Sh46, Sh49. -/
import Derived.Test.YtkahaemiigimcaaGreatFm13
set_option linter.unusedSimpArgs false
set_option linter.unusedVariables false
set_option maxHeartbeats 4000000
open Option renaming some->aa,none->ah
open Bool renaming true->ab,false->af,and_eq_true->fI
open List renaming take->aB,drop->aG,length_append->aW,take_of_length_le->bW,drop_zero->cq,range->cQ,getElem?_eq_getElem->dy,getElem?_eq_some_iff->dA,getElem?_eq_none->dI,length_take->eZ,length_set->fJ,length_drop->fQ,lookup_cons->gJ,getElem?_append_left->gP,getElem?_take_of_lt->ic,append_assoc->iw,getElem?_append_right->iR,getElem?_drop->iS,map_take->iU,all_eq_true->jg,append_nil->jz,length_cons->jM,mem_of_getElem?->jO,ext_getElem?->ku,take_length->ly,drop_drop->ng,take_append_drop->nJ,take_take->nK,length_nil->oZ,getElem?_set->pQ,drop_left->qP,mem_of_mem_take->qS,drop_take->sX,take_left->sZ,all_append->uf,take_left'->vz,all_cons->vA,getElem?_range->wR,take_append_of_le_length->wS,take_succ_eq_append_getElem->Bc
open UInt64 renaming ofNat->aF
open And renaming intro->aJ
open Int renaming toNat->aU
open Nat renaming le_refl->bH,le_of_ble_eq_true->cr,ble->eU,mul_le_mul_right->iV,lt_or_ge->js,min_eq_left->jt,le_trans->jP,zero_le->kD,add_mul->nh,sub_self->pR
open Go.Sem renaming run_bind->bM,run_pure->bZ
open Go.Result renaming andThen_ok->bQ,andThen->pd
open UInt8 renaming ofNat->cX
open Array renaming getElem?_eq_some_iff->jL,getElem?_toList->lU
open Iff renaming rfl->qO
namespace Go.Sh
open Go.Proofs
variable{l:List Hd}{args:List SV}{j:Nat}{P:Program}{s:UInt16}{now:UInt64}
theorem acI{H:HL}{id:Nat}{b:SB}(hj:j<H.length):hg (H.set j (aa b)) id=if id=j then aa b else hg H id:=BM hj
theorem bV.short{f:Nat}{H0 H1:HL}{ret:SV}(h:bV P f args H0 ret H1)(j t n:Nat){l:List SV}(hj:hg H1 j=aa (.row t l)):bV P f args H0 ret (H1.set j (aa (.row t (l.take n)))):=by
 have hl:j<H1.length:=XU;have u:∀{id:Nat} {b:SB},hg (H1.set j (aa (.row t (l.take n)))) id=aa b->∃F,hg H1 id=aa F/\F.own=b.own/\(∀rb k q,foot rb b k q↔foot rb F k q)/\∀ρ w rb,cd ρ w rb F->cd ρ w rb b:=fun{id b} hb=>by
  rw [acI hl]at hb;by_cases e:id=j
  .rw [if_pos e]at hb;cases hb;subst e;refine⟨_,hj,rfl,λ_ _ _=>qO,λρ w rb hr=>?_⟩;rcases hr with⟨h1,h2⟩|⟨h1,c,fz,g1,g2,g3,g4,g5,g6⟩
   .exact .inl ⟨h1,by rw [h2];exact List.take_nil⟩
   .refine .inr ⟨h1,c,fz,g1,g2,g3,?_,?_,lu⟩
    .simp only [cw,jg]at g4|-;exact λx hx=>g4 x (qS hx)
    .have:=aD.take n g5;rw [nK]at this;rw [eZ];exact this
  .rw [if_neg e]at hb;exact⟨b,hb,rfl,λ_ _ _=>qO,λ_ _ _ h=>h⟩
 refine⟨h.fn,λnn ρ w vs a b c d=>(h.call nn ρ w vs a b c d).mono λe Z hr=>?_⟩;cases e with
 |returned v=>
  obtain⟨ρ1,q1,q2,q3,q4,O⟩:=hr;refine⟨ρ1,q1,?_,?_,λid hid=>q4 id ou,O.ext,O.fr,?_⟩
  .intro id b hb;obtain⟨F,g1,_,_,g4⟩:=u hb;obtain⟨rb,k1,U⟩:=q2 id F g1;exact⟨rb,k1,g4 _ _ _ U⟩
  .intro i k bi bk ri rk hne hi hk hri hrk hw q p ⟨f1,f2⟩;obtain⟨G,g1,g2,g3,_⟩:=u hi;obtain⟨I,k1,_,V,_⟩:=u hk;exact q3 i k G I ri rk hne g1 k1 hri hrk (g2.trans hw) q p ⟨(g3 _ _ _).1 f1,(V _ _ _).1 f2⟩
  .rintro k q ⟨id,b,r,g1,g2,g3,g4⟩;obtain⟨F,m1,m2,W,_⟩:=u g1;exact O.own k q ⟨id,F,r,m1,g2,m2.trans g3,(W _ _ _).1 g4⟩
 |_=>exact hr
theorem bV.fill{f:Nat}{H0 H1:HL}{ret:SV}(h:bV P f args H0 ret H1)(j:Nat)(l:List SV)(hj:eU (j+1) H0.length=ab)(h6:eU H0.length H1.length=ab)(h0:hg H0 j=ah)(h1:hg H1 j=ah)(hp:bJ l=ab):bV P f args (H0.set j (an l)) ret (H1.set j (an l)):=by
 have h7:=cr hj;have hl1:=cr h6;refine⟨h.fn,λnn ρ w vs hA hH hS hF=>?_⟩;have g0:∀id,hg (H0.set j (an l)) id=if id=j then an l else hg H0 id:=λid=>BM ag
 have g1:∀id,hg (H1.set j (an l)) id=if id=j then an l else hg H1 id:=λid=>BM ag
 have I:∀{id b},hg H0 id=aa b->id≠j/\hg (H0.set j (an l)) id=aa b:=fun{id b} hb=>by
  have:id≠j:=λe=>by subst e;rw [h0]at hb;cases hb
  exact⟨this,by rw [g0,if_neg this];exact hb⟩
 obtain⟨rb,hρ,hB⟩:=hH j (.ro l) (by rw [g0,if_pos rfl]);have F:∀k q,dV ρ (hg H0) k q->dV ρ (hg (H0.set j (an l))) k q:=by rintro k q ⟨id,b,r,e1,e2,e3,G⟩;exact⟨id,b,r,(I e1).2,e2,e3,G⟩
 have u:∀k q,foot rb (.ro l) k q->¬dV ρ (hg H0) k q:=by rintro k q hf ⟨id,b,r,e1,e2,e3,G⟩;exact hS id j b (.ro l) r rb (I e1).1 (I e1).2 (by rw [g0,if_pos rfl]) e2 hρ e3 k q ⟨G,hf⟩
 refine(h.call nn ρ w vs hA (λid b hb=>hH id b (I hb).2) (λi k bi bk ri rk hne hi hk=>hS i k bi bk ri rk hne (I hi).2 (I hk).2) (λid hid=>hF id ou)).mono λe w' hr=>?_
 cases e with
 |returned v=>
  obtain⟨ρ1,q1,q2,q3,q4,O⟩:=hr;have V:=O.ext j ag rb hρ;have Z:cd ρ1 w' rb (.ro l):=by
   have h2:=hB.frame O.fr u;rcases h2 with h2|⟨⟨c,t,fz,e1,e2,e3,G,e5⟩,e6,e7⟩
   .exact .inl h2
   .exact .inr ⟨⟨c,t,fz,e1,e2,oR hp e3,G,e5⟩,e6,e7⟩
  refine⟨ρ1,q1,?_,?_,λid hid=>q4 id ou,λid hid=>O.ext id ou,O.fr.mono (λk q _=>F k q),?_⟩
  .intro id b hb;rw [g1]at hb;by_cases e:id=j
   .rw [if_pos e]at hb;cases hb;subst e;exact⟨rb,V,Z⟩
   .rw [if_neg e]at hb;exact q2 id b hb
  .intro i k bi bk ri rk hne hi hk hri hrk hw q p ⟨f1,f2⟩;rw [g1]at hi hk;by_cases U:i=j
   .rw [if_pos U]at hi;cases hi;cases hw
   rw [if_neg U]at hi;by_cases W:k=j
   .rw [if_pos W]at hk;cases hk;subst W;rw [V]at hrk;cases hrk;rcases O.own q p ⟨i,bi,ri,hi,hri,hw,f1⟩with ho|ho
    .exact u q p f2 ho
    .rcases hB with hB|⟨⟨c,t,fz,e1,_⟩,_⟩
     .subst hB;simp only [foot,oZ]at f2;omega
     .have:=(jL.1 e1).1;have h3:=f2.1;omega
   .rw [if_neg W]at hk;exact q3 i k bi bk ri rk hne hi hk hri hrk hw q p ⟨f1,f2⟩
  .rintro k q ⟨id,b,r,e1,e2,e3,G⟩;rw [g1]at e1;by_cases U:id=j
   .rw [if_pos U]at e1;cases e1;cases e3
   .rw [if_neg U]at e1;exact(O.own k q ⟨id,b,r,e1,e2,e3,G⟩).imp (λho=>F k q ho) (λh=>h)
 |_=>exact hr
def dR(s:UInt16)(kid:UInt64)(b:List UInt8):List UInt8:=(Dt s kid b).take (gT s)
theorem Gk(h:1<=s.toNat)(h2:s.toNat<=5)(kid:UInt64)(b:List UInt8):(dR s kid b).length=gT s:=by
 unfold dR;rw [eZ];rcases qG h h2 with rfl|rfl|rfl|rfl|rfl
 .have:=pY (cS [] b) (dL iE kid 1) 2;show min 48 (fD _ _ 2).length=48;omega
 .have:=pY (cS [] b) (dL iE kid 2) 2;show min 48 (fD _ _ 2).length=48;omega
 .have:=pY (cS [] b) (dL iE kid 3) 2;show min 48 (fD _ _ 2).length=48;omega
 .have:=pY (cS [] b) (dL iE kid 4) 1;show min 16 (fD _ _ 1).length=16;omega
 .have:=tz (dF [] b) (dL iE kid 5) 1;show min 32 (fZ _ _ 1).length=32;omega
theorem Ki(h:1<=s.toNat)(h2:s.toNat<=5)(p:UInt64)(b:Nat)(g:UInt64)(D:List UInt8)(h0:0<D.length)(h1:D.length<=1024)(f:Bool):aM 106 [.agg (nZ s p b g 0 D.length f)] [aa (.ro (D.map .u8))] (.agg (.u16 s:: .u64 (aV p b g):: .sl 1 0 (gT s) 1 ab::(dP s (aV p b g) D).map .u8)) [aa (.row 5 ((dR s (aV p b g) D).map .u8))]:=by have q:=(aeV h h2 p b g D h0 h1 f).short 1 5 (gT s) rfl;unfold dR;rw [iU];exact q
abbrev qZ:UInt64:=aF (aU 18446744073709551615)
theorem Qh(h:1<=s.toNat)(h2:s.toNat<=5)(p:UInt64)(b:Nat)(hb:b<=16)(hp:decide (p>bh qZ ((b:Int)).toNat)=af)(D:List UInt8)(h0:0<D.length)(h1:D.length<=1024)(f:Bool):aM 138 [.u16 s,.sl 0 0 D.length 1 f,.u64 p,.i (b:Int)] [ak D] (.tup [.agg (nZ s p b 0 1 D.length af),.i 0]) [aC 5 D]:=by
 have q:=Jy h h2 D h0 h1 f 0;have e1:decide (((b:Nat):Int)<0)=af:=aq;have e2:decide (((b:Nat):Int)>16)=af:=ox;obtain⟨X,hX⟩:=ax (dP s 0 D);obtain⟨Y,hY⟩:=ax (Dt s 0 D);have lX:X.length=12:=EL;rw [<-hX,<-hY]at q;obtain⟨k,hk⟩:=ax (gT s);rw [<-hk]at q;refine aL (fn:=Tryz.f138) ?_;refine zp ?_;refine oN [0] [ak D,aC 5 Y] (.tup [.agg (.u16 s:: .u64 0:: .sl 2 0 k 1 ab::X.map .u8),.i 0]) (q) rfl rfl ⟨⟨rfl,az⟩,bU,bU,EF,?_⟩;conv=>whnf
 repeat(first|refine zH (cK rfl az) ?_|refine zH (df rfl NW) ?_|refine zW (cO e1) ?_|refine zW (bl e2) ?_|refine zW (cO e2) ?_|refine zW (bC hp) ?_|refine aS ?_)
 refine⟨[0,4],?_,rfl,rfl,?_,rfl⟩
 .exact zo
 ·(repeat'(first|exact trivial|exact aY (cY _) (rW aq).symm|refine aJ ?_ ?_|fail))<;>first|rfl|exact aY bY az|fail
theorem aa5(h:1<=s.toNat)(h2:s.toNat<=5)(p:UInt64)(b:Nat)(hb:b<=16)(hp:decide (p>bh qZ ((b:Int)).toNat)=af)(D:List UInt8)(h0:0<D.length)(h1:D.length<=1024)(f:Bool):aM 105 [.u16 s,.sl 0 0 D.length 1 f,.u64 p,.i (b:Int)] [ak D] (.tup [.p 1 0,.i 0]) [al (nZ s p b 0 2 D.length af++ [.u64 0,.b af]),aC 5 D]:=by have q:=Qh h h2 p b hb hp D h0 h1 f;refine aL (fn:=Tryz.f105) ?_;exact Xt
abbrev wZ:List SV:= [.b af,.u64 0,.u64 0,.u64 0,.u64 0,.u64 0,.u64 0,.u64 0,.u64 0,.u64 0,.u64 0,.u64 0,.u64 0,.u64 0,.u64 0,.u64 0,.u64 0,.u64 0]
abbrev lnZ:List SV:= [.u16 0,.u64 0,.i 0,.u64 0,.slnil]
theorem aa6(h:1<=s.toNat)(h2:s.toNat<=5)(p:UInt64)(b:Nat)(hb:b<=16)(hp:decide (p>bh qZ ((b:Int)).toNat)=af)(D:List UInt8)(h0:0<D.length)(h1:D.length<=1024)(f:Bool):aM 108 [.u16 s,.sl 0 0 D.length 1 f,.u64 p,.i (b:Int)] [ak D] (.tup [.p 1 0,.i 0]) [al (nZ s p b 0 2 D.length af++wZ++lnZ++wZ++ [.b af]),aC 5 D]:=by have q:=Qh h h2 p b hb hp D h0 h1 f;refine aL (fn:=Tryz.f108) ?_;exact Xt
abbrev AK(s:UInt16)(p:UInt64)(b:Nat)(g:UInt64)(id n:Nat)(f:Bool)(c:UInt64)(sp:Bool):List SV:=nZ s p b g id n f++ [.u64 c,.b sp]
theorem abV(h:1<=s.toNat)(h2:s.toNat<=5)(p:UInt64)(b:Nat)(g c:UInt64)(r:Bool)(D:List UInt8)(h0:0<D.length)(h1:D.length<=1024)(f:Bool)(hg:(g==cB b)=af):aQ 73 [.p 0 0] [al (AK s p b g 1 D.length f c r),ak D] (.i 0) [al (AK s p b (g1 g) 2 (uO s) ab 0 af),ak D,aC 5 (ra s D)]:=by
 have q1:=pD s p b g D f;have q2:=KV h h2 p b g D h0 h1 f;refine XA ?_;repeat(first|refine zW (bC hg) ?_|refine zf ?_)
 refine zW (aE [1] [ab,ab] af q2) ?_;repeat(first|refine zH (df rfl az) ?_|refine zf ?_)
 exact kU
theorem abW(p:UInt64)(b:Nat)(g c:UInt64)(r:Bool)(D:List UInt8)(f:Bool)(hg:(g==cB b)=ab):aM 73 [.p 0 0] [al (AK s p b g 1 D.length f c r),ak D] (.i 150) []:=by
 have q1:=pD s p b g D f;refine XA ?_;repeat(first|refine zW (bl hg) ?_|refine zf ?_)
 exact jy
theorem aiD(h:1<=s.toNat)(h2:s.toNat<=5)(kid c:UInt64)(K S P:List UInt8)(hk:K.length=gT s)(hS:S.length=12)(hP:P.length<=65536)(r:Bool):aM 6 [.agg (kC s kid 0 (gT s) S),.u64 c,.slnil,.sl 2 0 P.length 1 r] [ak K,ah,ak P] (.tup [.sl 3 0 ((bF kid c).length+(P.length+dH s)) 1 af,.i 0]) [aC 5 (bF kid c++mA s K (bf S c) (bF kid c) P)]:=by have q:=Th h h2 kid c K S [] P hk hS aw hP af r;rw [jz]at q;exact bV.nilD [.agg (kC s kid 0 (gT s) S),.u64 c] (bs:= [.sl 2 0 P.length 1 r]) 1 0 1 5 q rfl aw NX rfl ⟨.inr (.inl bI),.inl rfl,.inr (.inl bI),trivial⟩ ⟨.inr (.inl bI),.inl rfl,.inr (.inl bI),.inr (.inl bI),trivial⟩ aq
theorem agc(h:1<=s.toNat)(h2:s.toNat<=5)(K S F:List UInt8)(u:Nat)(kid c:UInt64)(hT:fg F=aa (u,kid,c))(hu:u<=F.length)(I:0<u)(O:u<100000)(r:dH s<=F.length-u)(U:F.length-u<=65536)(hk:K.length=gT s)(hS:S.length=12)(G:mM s K (bf S c) (F.take u) (F.drop u)=ab):aM 10 [.agg (kC s kid 0 (gT s) S),.slnil,.sl 2 0 F.length 1 af] [ak K,ah,ak F] (.tup [.sl 3 0 (F.length-u-dH s) 1 af,.u64 c,.i 0]) [aC 5 (mh s K (bf S c) (F.drop u))]:=by have q:=RT h h2 K S [] F u kid c hT hu I O r U hk hS aw af (by rw [jz];exact G);exact bV.nilD [.agg (kC s kid 0 (gT s) S)] (bs:= [.sl 2 0 F.length 1 af]) 1 0 1 5 q rfl aw NX rfl ⟨.inr (.inl bI),.inl rfl,.inr (.inl bI),trivial⟩ ⟨.inr (.inl bI),.inl rfl,.inr (.inl bI),.inr (.inl bI),trivial⟩ aq
theorem agb(h:1<=s.toNat)(h2:s.toNat<=5)(K S F:List UInt8)(u:Nat)(kid c:UInt64)(hT:fg F=aa (u,kid,c))(hu:u<=F.length)(I:0<u)(O:u<100000)(r:dH s<=F.length-u)(U:F.length-u<=65536)(hk:K.length=gT s)(hS:S.length=12)(G:mM s K (bf S c) (F.take u) (F.drop u)=af):aM 10 [.agg (kC s kid 0 (gT s) S),.slnil,.sl 2 0 F.length 1 af] [ak K,ah,ak F] (.tup [.slnil,.u64 0,.i 140]) []:=by have q:=agh h h2 K S [] F u kid c hT hu I O r U hk hS aw af (by rw [jz];exact G);exact bV.nilD [.agg (kC s kid 0 (gT s) S)] (bs:= [.sl 2 0 F.length 1 af]) 1 0 1 5 q rfl aw NX rfl ⟨.inr (.inl bI),.inl rfl,.inr (.inl bI),trivial⟩ ⟨.inr (.inl bI),.inl rfl,.inr (.inl bI),trivial⟩ aq
theorem abR(h:1<=s.toNat)(h2:s.toNat<=5)(p:UInt64)(b:Nat)(g c:UInt64)(D P:List UInt8)(h0:0<D.length)(h1:D.length<=1024)(hP:P.length<=65536)(f u:Bool):aQ 71 [.p 0 0,.slnil,.sl 2 0 P.length 1 u] [al (AK s p b g 1 D.length f c af),ak D,ak P] (.tup [.sl 3 0 ((bF (aV p b g) c).length+(P.length+dH s)) 1 af,.i 0]) [al (AK s p b g 1 D.length f (c+aF (aU 1)) (c+aF (aU 1)==aF (aU 0))),ak D,ak P,aC 5 (bF (aV p b g) c++mA s (dR s (aV p b g) D) (bf (dP s (aV p b g) D) c) (bF (aV p b g) c) P)]:=by have q1:=Ki h h2 p b g D h0 h1 f;have q2:=aiD h h2 (aV p b g) c (dR s (aV p b g) D) (dP s (aV p b g) D) P (Gk h h2 _ _) (DS _ _ _) hP u;have q2:=q2.fill 1 (P.map .u8) rfl rfl rfl rfl aq;obtain⟨X,hX⟩:=ax (dP s (aV p b g) D);obtain⟨Y,hY⟩:=ax (dR s (aV p b g) D);obtain⟨k,hk⟩:=ax (gT s);obtain⟨kd,r⟩:=ax (aV p b g);have lX:X.length=12:=EL;rw [<-hX,<-hY,<-hk,<-r]at q1 q2;rw [<-hX,<-hY,<-r];obtain⟨B,hB⟩:=ax (bF kd c++mA s Y (bf X c) (bF kd c) P);rw [<-hB]at q2|-;obtain⟨n,hn⟩:=ax ((bF kd c).length+(P.length+dH s));rw [<-hn]at q2|-;refine aL (fn:=Tryz.f71) ?_;refine zM ?_;refine oN [1] [ak D,aC 5 Y] (.agg (.u16 s:: .u64 kd:: .sl 3 0 k 1 ab::X.map .u8)) (q1) rfl rfl ⟨⟨rfl,az⟩,bU,bU,EF,?_⟩;refine zL ?_;refine zW (aE [3,2,2] [ab,ab,ab,ab] af q2) ?_;refine zl ?_;exact bE [0,1,2,4]
def pr(now:UInt64)(x:Hd):Bool:=x.en&&decide (x.un<=now)
theorem Qi(x:Hd)(now:UInt64):aM 75 [.agg (iq x),.p 0 0] [an [.u64 now]] (.b (pr now x)) []:=by
 obtain⟨ep,d,kid,key,un,en⟩:=x;cases en with
 |true=>
  have e:pr now ⟨ep,d,kid,key,un,ab⟩=decide (un<=now):=by unfold pr;simp
  rw [e];refine aL (fn:=Tryz.f75) ?_;refine zM ?_;exact bE [0]
 |false=>
  have e:pr now ⟨ep,d,kid,key,un,af⟩=af:=rfl;rw [e];refine aL (fn:=Tryz.f75) ?_;refine zM ?_;exact gH
def im(now:UInt64)(l:List Hd):Nat:=l.findIdx (pr now)
theorem P3(now:UInt64)(l:List Hd):im now l<=l.length:=List.findIdx_le_length
def uL(now:UInt64)(l:List Hd):Int:=if im now l<l.length then(im now l:Int)else-1
theorem P4{i:Nat}{x:Hd}(h:i<im now l)(hx:l[i]?=aa x):pr now x=af:=by have hi:=(dA.1 hx).1;have:=List.not_of_lt_findIdx h;rw [(dA.1 hx).2]at this;exact pK
theorem P0{x:Hd}(hx:l[im now l]?=aa x):pr now x=ab:=by have hi:=(dA.1 hx).1;have:=List.findIdx_getElem (p:=pr now) (xs:=l) (w:=hi);rw [<-(dA.1 hx).2];exact this
theorem Qf(l:List Hd)(hn:l.length<1000000)(now:UInt64)(f:Bool):aM 112 [.sl 0 0 l.length 23 f,.fn 75 [.p 1 0]] [an (aI l),an [.u64 now]] (.i (uL now l)) []:=by
 have hle:=P3 now l;refine aL (fn:=Tryz.f112) ?_;refine zp ?_;refine fH (ι:={i:Nat//i<=im now l}) (λi=> [(0,.sl 0 0 l.length 23 f),(1,.fn 75 [.p 1 0]),(7,.i (l.length:Int)),(8,.i (i.1:Int))]) (λ_=> [an (aI l),an [.u64 now]]) (λ_=>2) (λi=>l.length-i.1) ⟨0,kD _⟩ ?_ ?_
 .exact bL [0,1]
 .rintro⟨i,hi⟩;dsimp only;by_cases hil:i<l.length
  .have e1:decide ((i:Int)<(l.length:Int))=ab:=aA;obtain⟨x,hx⟩:∃x,l[i]?=aa x:=⟨_,dy hil⟩;have q:=Qi x now;have ew:au ((i:Int)+1)=((i+1:Nat):Int):=cp;by_cases r:i<im now l
   .have e2:=P4 r hx;rw [e2]at q;refine WR ?_;refine zC ?_;exact bL [0,1]
   .obtain rfl:i=im now l:=ag;have e2:=P0 hx;rw [e2]at q;have e3:uL now l=(im now l:Int):=by unfold uL;rw [if_pos hil]
    rw [e3];refine WR ?_;exact jy
  .have e1:decide ((i:Int)<(l.length:Int))=af:=aA;have e3:uL now l= -1:=by unfold uL;rw [if_neg (by omega)]
   rw [e3];refine AX ?_;exact jy
def de(now:UInt64)(l:List Hd):List Hd:=l.filter λx=> !pr now x
def kF(now:UInt64)(l:List Hd)(j:Nat):List Hd:=de now (l.take j)++l.drop (de now (l.take j)).length
theorem Dv(now:UInt64)(l:List Hd):(de now l).length<=l.length:=List.length_filter_le _ _
theorem KL(now:UInt64)(l:List Hd)(j:Nat):(de now (l.take j)).length<=j:=jP (Dv _ _) (by rw [eZ];omega)
theorem Dw{x:Hd}(hx:l[j]?=aa x):de now (l.take (j+1))=if pr now x then de now (l.take j)else de now (l.take j)++ [x]:=by unfold de;rw [List.take_add_one,hx,List.filter_append];cases h:pr now x<;>simp [h]
theorem Pb(hj:j<=l.length):(kF now l j).length=l.length:=by have:=KL now l j;unfold kF;rw [aW,fQ];omega
theorem Zh{i:Nat}(h:(de now (l.take j)).length<=i):(kF now l j)[i]?=l[i]?:=by unfold kF;rw [iR h,iS];congr 1;omega
theorem Zg{x:Hd}(hx:l[j]?=aa x)(hd:pr now x=ab):kF now l (j+1)=kF now l j:=by unfold kF;rw [Dw hx,if_pos hd]
theorem Zi{x:Hd}(hx:l[j]?=aa x)(hd:pr now x=af)(hj:j<l.length):(kF now l j).set (de now (l.take j)).length x=kF now l (j+1):=by have:=KL now l j;unfold kF;have h3:l.drop (de now (l.take j)).length=l[(de now (l.take j)).length]::l.drop ((de now (l.take j)).length+1):=List.drop_eq_getElem_cons ag;rw [Dw hx,if_neg (by rw [hd];simp),List.set_append_right _ _ (bH _),pR,h3,List.set_cons_zero,aW,iw];rfl
theorem QR(now:UInt64)(l:List Hd):de now (l.take (im now l))=l.take (im now l):=by
 unfold de;rw [List.filter_eq_self];intro x hx;obtain⟨i,hi⟩:=List.mem_iff_getElem?.1 hx;have h1:i<im now l:=by have:=(dA.1 hi).1;rw [eZ]at this;omega
 rw [ic h1]at hi;rw [P4 h1 hi];rfl
theorem Zf{x:Hd}(hx:l[im now l]?=aa x):kF now l (im now l+1)=l/\(de now (l.take (im now l+1))).length=im now l:=by
 have hi:=(dA.1 hx).1;have h1:de now (l.take (im now l+1))=l.take (im now l):=by rw [Dw hx,if_pos (P0 hx),QR]
 have h2:(l.take (im now l)).length=im now l:=lu;refine⟨?_,by rw [h1,h2]⟩;unfold kF;rw [h1,h2,nJ]
theorem adm(h:¬im now l<l.length):de now l=l:=by have:=QR now l;have h2:=P3 now l;rw [bW ag]at this;exact this
theorem abZ(l:List Hd)(hn:l.length<1000000)(now:UInt64)(h:¬im now l<l.length):aM 74 [.sl 0 0 l.length 23 af,.fn 75 [.p 1 0]] [ao 164 (aI l),an [.u64 now]] (.sl 0 0 l.length 23 af) []:=by
 have q:=Qf l hn now af;have e3:uL now l= -1:=by unfold uL;rw [if_neg h]
 rw [e3]at q;refine WM ?_;exact jy
abbrev oX:List SV:= [.u8 0,.u8 0,.u8 0,.u8 0,.u8 0,.u8 0,.u8 0,.u8 0,.u8 0,.u8 0,.u8 0,.u8 0,.u8 0,.u8 0,.u8 0,.u8 0,.u64 0,.u8 0,.u8 0,.u64 0,.s [],.u64 0,.b af]
theorem agV(n:Nat):bJ (dK n oX)=ab:=by rw [Hj];simp only [bJ,jg,List.mem_flatten,List.mem_replicate];rintro x ⟨_,⟨_,rfl⟩,hx⟩;have:bJ oX=ab:=rfl;simp only [bJ,jg]at this;exact this x hx
theorem akQ(sel:List Nat)(l:List Hd){k n:Nat}:bu sel (bN (aI l) k (.agg (dK n oX)))=aa (bN (aI l) k (.agg (dK n oX))):=by refine jc sel ?_;have h1:=u5 l;have h2:=agV n;simp only [bJ,bN,uf,fI,jg]at h1 h2|-;exact⟨⟨λx hx=>h1 x (qS hx),h2⟩,λx hx=>h1 x (List.mem_of_mem_drop hx)⟩
theorem abY(l:List Hd)(hn:l.length<1000000)(now:UInt64)(h:im now l<l.length):aQ 74 [.sl 0 0 l.length 23 af,.fn 75 [.p 1 0]] [ao 164 (aI l),an [.u64 now]] (.sl 0 0 (de now l).length 23 af) [ao 164 (bN (aI (kF now l l.length)) ((de now l).length*23) (.agg (dK (l.length-(de now l).length) oX))),an [.u64 now]]:=by
 have q:=Qf l hn now af;have e3:uL now l=(im now l:Int):=by unfold uL;rw [if_pos h]
 rw [e3]at q;obtain⟨y,hy⟩:∃y,l[im now l]?=aa y:=⟨_,dy h⟩;obtain⟨d1,Z⟩:=Zf hy;have ew:au ((im now l:Int)+1)=((im now l+1:Nat):Int):=cp;have e4:(((im now l:Nat):Int)== -1)=af:=aq;refine WM ?_;refine fH (ι:={j:Nat//im now l+1<=j/\j<=l.length}) (λj=> [(0,.sl 0 0 l.length 23 af),(1,.fn 75 [.p 1 0]),(5,.i ((de now (l.take j.1)).length:Int)),(6,.i (j.1:Int))]) (λj=> [ao 164 (aI (kF now l j.1)),an [.u64 now]]) (λ_=>2) (λj=>l.length-j.1) ⟨im now l+1,bH _,h⟩ ?_ ?_
 .rw [ew];dsimp only;rw [d1,Z];exact bL [0,1]
 .rintro⟨j,hj,hjl⟩;dsimp only;have hkl:=KL now l j;have O:=Pb (now:=now) hjl;have U:=mJ (kF now l j);obtain⟨i,hi⟩:=ax ((de now (l.take j)).length);rw [<-hi]at hkl|-;by_cases u:j<l.length
  .have e1:decide ((j:Int)<(l.length:Int))=ab:=aA;obtain⟨x,hx⟩:∃x,l[j]?=aa x:=⟨_,dy u⟩;have hxj:(kF now l j)[j]?=aa x:=by rw [Zh (by omega)];exact hx
   obtain⟨y2,W⟩:∃y,(kF now l j)[i]?=aa y:=⟨_,dy ag⟩;have q2:=Qi x now;have h7:au ((j:Int)+1)=((j+1:Nat):Int):=cp;have h6:au ((i:Int)+1)=((i+1:Nat):Int):=cp;cases r:pr now x with
   |true=>
    have G:(de now (l.take (j+1))).length=i:=by rw [Dw hx,if_pos r,hi]
    have F:=Zg hx r;rw [r]at q2;refine Ww ?_;refine zc ?_;refine⟨⟨j+1,ag,ag⟩,dt,?_⟩;dsimp only;rw [G,F];refine bP [0,1] ?_ ?_
    ·(repeat'(first|exact trivial|refine aJ ?_ ?_|fail))<;>first|rfl|exact dh ag|fail
    .exact bU
   |false=>
    have G:(de now (l.take (j+1))).length=i+1:=by rw [Dw hx,if_neg (by rw [r];simp),aW,hi];rfl
    have F:=Zi hx r u;rw [<-hi]at F;rw [r]at q2;refine Ww ?_;repeat(first|refine zH (cK rfl az) ?_|refine zH (Ty W aq) ?_|refine aS ?_)
    rw [F];refine⟨⟨j+1,ag,ag⟩,dt,?_⟩;dsimp only;rw [G];refine bP [0,1] ?_ ?_
    ·(repeat'(first|exact trivial|refine aJ ?_ ?_|fail))<;>first|rfl|exact dh ag|fail
    .exact bU
  .obtain rfl:j=l.length:=ag;have e1:decide ((l.length:Int)<(l.length:Int))=af:=aq;have hil:i<=l.length:=ag;have V:(de now l).length=i:=by rw [hi,ly]
   rw [V];conv=>whnf
   refine Ez ?_;have e8:0+((i:Nat):Int).toNat*23=i*23:=aq;have e9:l.length-((i:Nat):Int).toNat=l.length-i:=aq;rw [O]at U;have I:i*23+(l.length-i)*23<=(aI (kF now l l.length)).length:=ag;have hb2:0<(aI (kF now l l.length)).length:=ag;rw [e8,e9];refine zW (afw (t:=136) (el:=164) (z:= .agg oX) rfl (by kernel_rfl:Tryz.prog.underlying 136=aa (.slice 164)) bD rfl aw rfl rfl rfl I hb2 (cr rfl)) ?_;refine zl ?_;refine⟨[0,1],?_,rfl,rfl,?_,rfl⟩
   .exact zo
   ·(repeat'(first|exact trivial|exact akQ _ _|refine aJ ?_ ?_|(refine dM ?_ ?_)))<;>first|rfl|fail
theorem abX(l:List Hd)(hn:l.length<1000000)(now:UInt64):aQ 74 [.sl 0 0 l.length 23 af,.fn 75 [.p 1 0]] [ao 164 (aI l),an [.u64 now]] (.sl 0 0 (de now l).length 23 af) [ao 164 (aI (de now l)),an [.u64 now]]:=by
 by_cases h:im now l<l.length
 .have q:=(abY l hn now h).short 0 164 ((de now l).length*23) rfl;have e:(bN (aI (kF now l l.length)) ((de now l).length*23) (.agg (dK (l.length-(de now l).length) oX))).take ((de now l).length*23)=aI (de now l):=by
   have h2:kF now l l.length=de now l++l.drop (de now l).length:=by unfold kF;rw [ly]
   simp only [bN];rw [iw,wS (by rw [eZ,mJ,Pb (bH _)];have:=Dv now l;omega),nK,Nat.min_self,BL,h2,vz];rfl
  rw [e]at q;exact q
 .rw [adm h];exact abZ l hn now h
end Go.Sh
namespace Go.Sh
variable{l:List Hd}{X:List SV}{M:SV}{e:UInt64}{d:UInt8}
theorem cl.mv{A:Nat}{R:RL}{H:HL}{L:Nat}(t:Nat){j o n sz:Nat}{f:Bool}{x:SV}{b:SB}(ht:lk t R=aa x)(hx:qJ x=aa (j,o,n,sz,f))(hj:hk H j=aa b):cl A R H L ((t,.sl L o n sz af)::R) (eX H [(L,aa b),(j,ah)]) (L+1):=by
 intro N B ρ a w hs hl;have hjl:=gn hl hj;rw [kJ]at hj;have hg2:∀id,hg (eX H [(L,aa b),(j,ah)]) id=if id=L then aa b else if id=j then ah else hg H id:=λid=>by
  rw [mK];by_cases h:id=L
  .subst h;simp [jX]
  .have h1:(id==L)=af:=kV;by_cases h2:id=j
   .subst h2;simp [jX,gJ,h1,h]
   .have h3:(id==j)=af:=mY;simp [jX,gJ,h1,h,h3,h2]
 have u:∀{id:Nat} {y:SB},hg (eX H [(L,aa b),(j,ah)]) id=aa y->(id=L/\y=b)\/(id≠L/\id≠j/\hg H id=aa y):=fun{id y} h=>by
  rw [hg2]at h;split at h
  .rename_i e;cases h;exact .inl ⟨e,rfl⟩
  .split at h
   .cases h
   .exact .inr ⟨by assumption,by assumption,h⟩
 obtain⟨rb,hr,I⟩:=hs.heap j b hj;have F:=AO hx (hs.regs t x pN);simp only [av]at F;obtain⟨Z,U,V,k1,O,G,_,W⟩:=F;rw [hr]at k1;cases k1;let ρ2:bw:=λid=>if id=L then aa rb else ρ id
 have e1:∀id,id≠L->ρ2 id=ρ id:=λid hid=>if_neg hid
 have e2:ρ2 L=aa rb:=if_pos rfl;have hE:fK ρ ρ2:=λid r hr=>by
  have:id≠L:=λe=>by subst e;rw [hs.fresh _ (bH _)]at hr;cases hr
  rw [e1 id this];exact hr
 refine⟨ρ2,⟨hs.size,?_,?_,?_,?_,hs.dfr⟩,?_,⟨λid _ r h=>hE _ _ h,Fr.refl _ _,?_⟩⟩
 .intro t2 v hv;simp only [rg,gJ]at hv;split at hv
  .rename_i e;have:t2=t:=lS;subst this;cases hv;simp only [av];exact⟨rb,U,V,e2,O,G,λh=>(by cases h),W⟩
  .exact(hs.regs t2 v hv).ext hE
 .intro id y hy;rcases u hy with⟨rfl,rfl⟩|⟨h1,h2,h3⟩
  .exact⟨rb,e2,I.ext hE⟩
  .obtain⟨r,g1,g2⟩:=hs.heap id y h3;exact⟨r,hE _ _ g1,g2.ext hE⟩
 .intro i k bi bk ri rk hne hi hk hri hrk hw q p hf;rcases u hi with⟨rfl,rfl⟩|⟨h1,h2,h3⟩<;>rcases u hk with⟨rfl,rfl⟩|⟨k1,O,G⟩
  .exact hne rfl
  .rw [e2]at hri;cases hri;rw [e1 k k1]at hrk;exact hs.sep j k bi bk rb rk (λe=>O e.symm) hj G hr hrk hw q p hf
  .rw [e2]at hrk;cases hrk;rw [e1 i h1]at hri;exact hs.sep i j bi bk ri rb h2 h3 hj hri hr hw q p hf
  .rw [e1 i h1]at hri;rw [e1 k k1]at hrk;exact hs.sep i k bi bk ri rk hne h3 G hri hrk hw q p hf
 .intro id hid;rw [e1 id ag];exact hs.fresh id ag
 .exact pw ag (λid ob hm=>A3)
 .rintro k q ⟨id,y,r,h1,h2,h3,h4⟩;rcases u h1 with⟨rfl,rfl⟩|⟨g1,g2,g3⟩
  .rw [e2]at h2;cases h2;exact .inl ⟨j,_,rb,hj,hr,h3,h4⟩
  .rw [e1 id g1]at h2;exact .inl ⟨id,y,r,g3,h2,h3,h4⟩
open Go.Proofs
theorem bV.mv{P:Program}{f:Nat}{args:List SV}{H0 H1:HL}{o n sz:Nat}{fl:Bool}(m j:Nat){b:SB}(h:bV P f args H0 (.sl j o n sz fl) H1)(hm:H1.length=m)(hj:hg H1 j=aa b):bV P f args H0 (.sl m o n sz af) (H1.set j ah++ [aa b]):=by
 subst hm;have hl:j<H1.length:=XU;have u:∀{id:Nat} {x:SB},hg (H1.set j ah++ [aa b]) id=aa x->(id=H1.length/\x=b)\/(id<H1.length/\id≠j/\hg H1 id=aa x):=fun{id x} hx=>by
  unfold hg at hx;rcases Nat.lt_trichotomy id H1.length with h|h|h
  .rw [gP kV,pQ]at hx;by_cases e:j=id
   .rw [if_pos e]at hx;split at hx<;>simp at hx
   .rw [if_neg e]at hx;exact .inr ⟨h,λe2=>e e2.symm,hx⟩
  .rw [iR aA]at hx;subst h;simp at hx;exact .inl ⟨rfl,hx.symm⟩
  .rw [iR aA]at hx;rw [dI aA]at hx;simp at hx
 refine⟨h.fn,λnn ρ w vs a W c d=>(h.call nn ρ w vs a W c d).mono λe w' hr=>?_⟩;cases e with
 |returned v=>
  obtain⟨ρ1,q1,q2,q3,q4,I⟩:=hr;obtain⟨rb,g1,g2⟩:=q2 j b hj;let ρ2:bw:=λid=>if id=H1.length then aa rb else ρ1 id
  have e1:∀id,id≠H1.length->ρ2 id=ρ1 id:=λid hid=>if_neg hid
  have e2:ρ2 H1.length=aa rb:=if_pos rfl;have hx:fK ρ1 ρ2:=λid r hr=>by
   have:id≠H1.length:=λe=>by subst e;rw [q4 _ (bH _)]at hr;cases hr
   rw [e1 id this];exact hr
  refine⟨ρ2,?_,?_,?_,?_,?_,I.fr,?_⟩
  .simp only [av]at q1|-;obtain⟨r,V,Z,k1,F,G,_,k5⟩:=q1;rw [g1]at k1;cases k1;exact⟨rb,V,Z,e2,F,G,λh=>(by cases h),k5⟩
  .intro id x O;rcases u O with⟨rfl,rfl⟩|⟨h1,h2,h3⟩
   .exact⟨rb,e2,g2.ext hx⟩
   .obtain⟨r,k1,F⟩:=q2 id x h3;exact⟨r,hx _ _ k1,F.ext hx⟩
  .intro i k bi bk ri rk hne hi hk hri hrk hw q p hf;rcases u hi with⟨rfl,rfl⟩|⟨h1,h2,h3⟩<;>rcases u hk with⟨rfl,rfl⟩|⟨k1,F,G⟩
   .exact hne rfl
   .rw [e2]at hri;cases hri;rw [e1 k ag]at hrk;exact q3 j k bi bk rb rk (λe=>F e.symm) hj G g1 hrk hw q p hf
   .rw [e2]at hrk;cases hrk;rw [e1 i ag]at hri;exact q3 i j bi bk ri rb h2 h3 hj hri g1 hw q p hf
   .rw [e1 i ag]at hri;rw [e1 k ag]at hrk;exact q3 i k bi bk ri rk hne h3 G hri hrk hw q p hf
  .intro id hid;rw [aW,fJ]at hid;simp only [jM,oZ]at hid;rw [e1 id ag];exact q4 id ag
  .intro id hid r hr;exact hx _ _ (I.ext id hid r hr)
  .rintro k q ⟨id,x,r,k1,F,G,U⟩;rcases u k1 with⟨rfl,rfl⟩|⟨h1,h2,h3⟩
   .rw [e2]at F;cases F;exact I.own k q ⟨j,_,rb,hj,g1,G,U⟩
   .rw [e1 id ag]at F;exact I.own k q ⟨id,x,r,h3,F,G,U⟩
 |_=>exact hr
def i6(l:List Hd)(i:Nat)(x:Hd):List Hd:=l.take i++x::l.drop i
theorem acS(l:List Hd)(x:Hd):aI (i6 l l.length x)=aB (l.length*23) (aG 0 (aI l))++aB (1*23) (aG 0 (iq x)):=by unfold i6;rw [ly,List.drop_length,Al,cq,cq,bW (by rw [mJ];omega)];rfl
theorem acZ(l:List Hd)(i:Nat)(hi:i<l.length):(aI l).take (0+0*23+((i+1:Nat):Int).toNat*23)++(((SB.row 164 (aI l)).cells).drop (0+0*23+((i:Nat):Int).toNat*23)).take ((((l.length+1:Nat):Int).toNat-0-((i+1:Nat):Int).toNat)*23)=aI (l.take (i+1)++l.drop i):=by
 have e1:0+0*23+((i+1:Nat):Int).toNat*23=(i+1)*23:=ag;have e2:0+0*23+((i:Nat):Int).toNat*23=i*23:=ag;have e3:(((l.length+1:Nat):Int).toNat-0-((i+1:Nat):Int).toNat)=l.length-i:=ag;rw [e1,e2,e3];show(aI l).take ((i+1)*23)++((aI l).drop (i*23)).take ((l.length-i)*23)=_
 rw [BL,Ge,BL,bW (l:=l.drop i) (by rw [fQ];omega),Al]
theorem acW(l:List Hd)(i:Nat)(hi:i<l.length)(x:Hd):(l.take (i+1)++l.drop i).set i x=i6 l i x:=by unfold i6;have hl:(l.take i).length=i:=lu;rw [Bc hi,iw,List.set_append_right _ _ ag,hl,pR];rfl
theorem acR(l:List Hd)(i:Nat)(hi:i<l.length):(l.take (i+1)++l.drop i)[i]?=aa l[i]:=by rw [gP lu,ic ag,dy hi]
theorem acY(l:List Hd)(i k m:Nat)(hi:i<l.length)(x:Hd)(hk:k=i*23)(hm:1<=m):bN (aI (l.take (i+1)++l.drop i)) k (.agg (((((SB.row 164 (iq x)).cells).drop 0).take (1*23)).take (min 1 m*23)))=aI (i6 l i x):=by rw [jt hm,<-acW l i hi x];exact Ty (acR l i hi) hk
theorem acX(l:List Hd)(i:Nat)(hi:i<l.length):(aI (l.take (i+1)++l.drop i)).length=(l.length+1)*23:=by rw [mJ,aW,eZ,fQ];have:min (i+1) l.length+(l.length-i)=l.length+1:=ag;rw [this]
theorem akR(m:Nat):(dK m oX).length=m*23:=we m oX
theorem acT(l:List Hd)(i m:Nat):(((SB.row 164 (aI l)).cells).drop (0+0*23)).take ((((i:Nat):Int).toNat-0)*23)++dK m (SV.agg oX).cells=aI (l.take i)++dK m oX:=by
 show((aI l).drop 0).take (i*23)++_=_
 rw [cq,BL];rfl
theorem acU(l:List Hd)(i k m:Nat)(hi:i<l.length)(x:Hd)(Z:List SV)(hZ:23<=Z.length)(hk:k=i*23)(hm:1<=m):bN (aI (l.take i)++Z) k (.agg (((((SB.row 164 (iq x)).cells).drop 0).take (1*23)).take (min 1 m*23)))=aI (l.take i++ [x])++Z.drop 23:=by
 subst hk;have h1:(aI (l.take i)).length=i*23:=by rw [mJ,eZ,jt (by omega)]
 rw [jt hm];show bN _ _ (.agg (iq x))=_
 rw [AL _ _ _ (by show _+23<=_;rw [aW,h1];omega),wS ag,<-h1,ly,List.drop_length_add_append,Al];show _++iq x++Z.drop 23=_++(iq x++ [])++_
 rw [jz]
theorem acV(l:List Hd)(i k n m:Nat)(hi:i<l.length)(x:Hd)(Z:List SV)(hZ:Z.length=(l.length-i)*23)(hk:k=(i+1)*23)(hm:m=l.length-i)(hn:n=i*23)(q:Nat)(hq:l.length-i<=q):bN (aI (l.take i++ [x])++Z) k (.agg (((((SB.row 164 (aI l)).cells).drop n).take (m*23)).take (min m q*23)))=aI (i6 l i x):=by
 subst hk hm hn;have h1:(aI (l.take i++ [x])).length=(i+1)*23:=by rw [mJ,aW,eZ,jt (by omega)];rfl
 have h2:(aI (l.drop i)).length=(l.length-i)*23:=by rw [mJ,fQ]
 rw [jt hq];show bN _ _ (.agg ((((aI l).drop (i*23)).take ((l.length-i)*23)).take ((l.length-i)*23)))=_
 rw [Ge,bW (l:=aI (l.drop i)) ag,bW (l:=aI (l.drop i)) ag];rw [AL _ _ _ (by show _+(aI (l.drop i)).length<=_;rw [aW,h1,h2];omega),wS ag,<-h1,ly,List.drop_length_add_append];show _++aI (l.drop i)++Z.drop (aI (l.drop i)).length=_
 rw [List.drop_of_length_le (l:=Z) ag,jz,<-Al];unfold i6;rw [iw];rfl
theorem abd(l:List Hd)(hn:l.length<1000000)(x:Hd):aQ 134 [.sl 0 0 l.length 23 af,.i (l.length:Int),.sl 1 0 1 23 ab] [ao 164 (aI l),ao 164 (iq x)] (.sl 2 0 (l.length+1) 23 af) [ah,ao 164 (iq x),ao 164 (aI (i6 l l.length x))]:=by
 have e1:(((l.length:Nat):Int)==((l.length:Nat):Int))=ab:=aq;have hl:=mJ l;refine aL (fn:=Tryz.f134) ?_;refine zp ?_;repeat(first|refine zW (bl e1) ?_|refine aS ?_)
 refine zN (by exact⟨by rw [hl];omega,bH _,jP (iV _ (by omega:l.length+1<=1000000)) (by decide)⟩) ?_;refine⟨[0,1,2],?_,rfl,rfl,?_,rfl⟩
 .exact zo
 ·(repeat'(first|exact trivial|exact aY (u5 _) (acS l x)|refine aJ ?_ ?_|(refine dM ?_ ?_)))<;>first|rfl|fail
theorem abf(l:List Hd)(hn:l.length<1000000)(i:Nat)(hi:i<l.length)(x:Hd)(k:Nat)(hk:l.length+1<=k):bp Tryz.prog (·=ah) Tryz.f134.ntmps 2 (Tryz.f134.body.getD .skip) (Di tt Tryz.f134 2 (.sl 2 0 (l.length+1) 23 af) [ah,ao 164 (iq x),ao 164 (aI (i6 l i x))]) ((0,.slc 0 0 l.length k 23)::regs 0 [.sl 0 0 l.length 23 af,.i (i:Int),.sl 1 0 1 23 ab]) [ao 164 (aI l),ao 164 (iq x)] 2:=by
 have e1:(((i:Nat):Int)==((l.length:Nat):Int))=af:=IG;have hl:=mJ l;have u:i<=l.length:=ag;have ew:au (((l.length:Nat):Int)+((1:Nat):Int))=((l.length+1:Nat):Int):=cp;have r:au (((i:Nat):Int)+((1:Nat):Int))=((i+1:Nat):Int):=cp;have e2:decide (((l.length+1:Nat):Int)>((k:Nat):Int))=af:=ox;refine zW (mn (J:= [17]) dw fq bD) ?_;refine Ez ?_;rw [ew];conv=>whnf
 refine zW (RG (t:=136) 164 rfl rfl bD) ?_;repeat(first|refine zW (bC e2) ?_|refine zf ?_)
 rw [ew];refine zI ?_;rw [r];refine zI ?_;have hin:0<(((l.length+1:Nat):Int).toNat-0-((i+1:Nat):Int).toNat):=aA;refine zW (dB (aeF (P:=Tryz.prog) (X:= .sl 1 0 1 23 ab) (Y:= .slc 0 (0+0*23+((i+1:Nat):Int).toNat*23) (((l.length+1:Nat):Int).toNat-0-((i+1:Nat):Int).toNat) (k-0-((i+1:Nat):Int).toNat) 23) (tS:=136) (tR:=4) (el:=164) (sz:=23) (i:=1) (j:=0) Tryz.f171 bD bD bD bD bD bD bD aw rfl (bq rfl) (C9 rfl) rfl rfl aw aw hin (gb rfl) (gb rfl) aw aw)) ?_;refine zc ?_;rw [r];refine zI ?_;refine afx (t:=136) (e:=164) (sz:=23) 164 rfl bD bD aw rfl rfl (by rw [hl];omega) hin ag (by rw [hl];omega) rfl rfl rfl (by show _<=(aI l).length;rw [hl];omega) (cr rfl) ?_;rw [acZ l i hi];refine zI ?_;have hl2:=acX l i hi;refine RH (t:=136) (e:=164) (sz:=23) 164 rfl bD bD rfl rfl rfl (by rw [hl2];omega) rfl rfl rfl (cr rfl) (by rw [hl2];omega) (cr rfl) ?_;rw [acY l i _ _ hi x ag ag];conv=>whnf
 refine bp.weak (cl.mv 0 rfl rfl rfl) ?_;refine zu ?_;exact kU
theorem abe(l:List Hd)(hn:l.length<1000000)(i:Nat)(hi:i<l.length)(x:Hd):bp Tryz.prog (·=ah) Tryz.f134.ntmps 2 (Tryz.f134.body.getD .skip) (Di tt Tryz.f134 2 (.sl 2 0 (l.length+1) 23 af) [ah,ao 164 (iq x),ao 164 (aI (i6 l i x))]) ((0,.slc 0 0 l.length l.length 23)::regs 0 [.sl 0 0 l.length 23 af,.i (i:Int),.sl 1 0 1 23 ab]) [ao 164 (aI l),ao 164 (iq x)] 2:=by
 have e1:(((i:Nat):Int)==((l.length:Nat):Int))=af:=IG;have hl:=mJ l;have r:i<=l.length:=ag;have ew:au (((l.length:Nat):Int)+((1:Nat):Int))=((l.length+1:Nat):Int):=cp;have I:au (((i:Nat):Int)+((1:Nat):Int))=((i+1:Nat):Int):=cp;have es:au (((l.length+1:Nat):Int)-((i:Nat):Int))=((l.length+1-i:Nat):Int):=cp;have e2:decide (((l.length+1:Nat):Int)>((l.length:Nat):Int))=ab:=by rw [decide_eq_true_iff];omega
 refine zu ?_;refine Ez ?_;rw [ew];conv=>whnf
 refine zW (RG (t:=136) 164 rfl rfl bD) ?_;repeat(first|refine zW (bl e2) ?_|refine aS ?_)
 rw [ew];conv=>whnf
 rw [es];conv=>whnf
 refine afs (t:=136) (sz:=23) 164 72 (l.length+1-i) (.agg oX) rfl bD bD bD rfl aw bD bD aw rfl rfl (by show _<=(aI l).length;rw [hl];simp;omega) rfl rfl (jP (iV _ (by simp;omega:_<=1000000)) aw) aA (cr rfl) ?_;rw [acT,show(((i:Nat):Int).toNat-0+(l.length+1-i))=l.length+1 from by omega];have hz:=akR (l.length+1-i);have G:(aI (l.take i)++dK (l.length+1-i) oX).length=(l.length+1)*23:=by rw [aW,hz,mJ,eZ,jt r,<-nh];congr 1;omega
 conv=>whnf
 repeat(first|refine zN ⟨ag,by first|(simp [r,hl,G];done)|fail⟩ ?_|refine aS ?_)
 rw [I];refine zI ?_;rw [acU l i _ _ hi x _ (by rw [hz];omega) ag ag];have F:((dK (l.length+1-i) oX).drop 23).length=(l.length-i)*23:=by rw [fQ,hz];omega
 have u:(aI (l.take i++ [x])++(dK (l.length+1-i) oX).drop 23).length=(l.length+1)*23:=by
  rw [aW,F,mJ,aW,eZ,jt r];show(i+1)*23+_=_
  rw [<-nh];congr 1;omega
 refine RH (t:=136) (e:=164) (sz:=23) 164 rfl bD bD rfl rfl rfl (by rw [u];omega) rfl rfl rfl (by show _<=(aI l).length;rw [hl];omega) (by rw [u];omega) (cr rfl) ?_;rw [acV l i _ _ _ hi x _ F ag ag ag _ ag];refine zL ?_;exact kU
theorem abc(l:List Hd)(hn:l.length<1000000)(i:Nat)(hi:i<=l.length)(x:Hd):aQ 134 [.sl 0 0 l.length 23 af,.i (i:Int),.sl 1 0 1 23 ab] [ao 164 (aI l),ao 164 (iq x)] (.sl 2 0 (l.length+1) 23 af) [ah,ao 164 (iq x),ao 164 (aI (i6 l i x))]:=by
 rcases js i l.length with h|h
 .refine aL (fn:=Tryz.f134) ?_;refine bp.room 0 rfl λk hk=>?_
  by_cases e:l.length+1<=k
  .exact abf l hn i h x k e
  .have:k=l.length:=ag;subst this;exact abe l hn i h x
 .have:i=l.length:=ag;subst this;exact abd l hn x
abbrev bA(hi xi:Nat)(M:SV)(s:UInt8)(sm:Bool)(g:UInt8)(ep:UInt64)(n:Nat):List SV:= [.ifc 140 xi 0,.u8 0,.u8 s,.b sm,.u8 g,.u8 0,.u8 0,.u8 0,.u8 0,.u8 0,.u8 0,.u8 0,.u8 0,.u8 0,.u8 0,.u8 0,.u8 0,.u8 0,.u8 0,.u8 0,.u64 ep,M,.sl hi 0 n 23 af,.slnil]
def MV(M:SV):Prop:=∀sel:List Nat,sel[2]?=aa 2->bG sel M=aa M
theorem uW(n:Nat):MV (.sl 2 0 n 2 af):=λsel h=>by simp only [bG,h]
theorem uU{sel:List Nat}{hi hj r u:Nat}{N:SV}{s g:UInt8}{sm:Bool}{ep:UInt64}{n:Nat}(hM:bG sel M=aa N)(h1:sel[hi]?=aa hj)(h2:sel[r]?=aa u):bu sel (bA hi r M s sm g ep n)=aa (bA hj u N s sm g ep n):=by simp only [bu,bG,h1,h2,hM]
theorem FZ(l:List Hd)(hn:l.length<1000000)(k:UInt64)(p:Nat)(hp:oC l k p)(hM:MV M)(hX:bJ X=ab)(nn:UInt8)(s:UInt8)(sm:Bool)(g:UInt8)(ep:UInt64):aM 103 [.p 0 0,.u64 k] [an (bA 1 3 M s sm g ep l.length),an (aI l),an X,an [.fn 28 [.p 4 0]],an [.u8 nn]] (.tup [.i (p:Int),.b (rF l k p)]) []:=by have q:=abg l hn k p hp af;refine aL (fn:=Tryz.f103) ?_;refine zM ?_;refine zW (aE [1] [af] ab q) ?_;exact AY
theorem BG(l:List Hd)(hn:l.length<1000000)(now:UInt64)(hM:MV M)(hX:bJ X=ab)(nn:UInt8)(s:UInt8)(sm:Bool)(g:UInt8)(ep:UInt64):aQ 38 [.p 0 0,.u64 now] [al (bA 1 3 M s sm g ep l.length),ao 164 (aI l),an X,an [.fn 28 [.p 4 0]],an [.u8 nn]] (.tup []) [al (bA 1 3 M s sm g ep (de now l).length),ao 164 (aI (de now l)),an X,an [.fn 28 [.p 4 0]],an [.u8 nn]]:=by have q:=abX l hn now;refine aL (fn:=Tryz.f38) ?_;refine zM ?_;refine zW (dY [1,5] [ao 164 (aI (de now l)),an [.u64 now]] (.sl 1 0 (de now l).length 23 af) q) ?_;refine zl ?_;exact AY
def tF(d:UInt8)(e:UInt64)(x:Hd):Bool:=x.d==d&&x.ep==e
def rH(l:List Hd)(d:UInt8)(e:UInt64):Nat:=l.findIdx (tF d e)
theorem adn(l:List Hd)(d:UInt8)(e:UInt64):rH l d e<=l.length:=List.findIdx_le_length
def vR(l:List Hd)(d:UInt8)(e:UInt64):List UInt8:=match l[rH l d e]? with|some x=>x.key|none=> []
def pz(l:List Hd)(d:UInt8)(e:UInt64)(sm:Bool)(ep:UInt64):Int:=match l[rH l d e]? with|some x=>0|none=>if sm&&decide (e<ep)then 241 else 240
theorem ado{i:Nat}{x:Hd}(h:i<rH l d e)(hx:l[i]?=aa x):tF d e x=af:=by have hi:=(dA.1 hx).1;have:=List.not_of_lt_findIdx h;rw [(dA.1 hx).2]at this;exact pK
theorem KN{x:Hd}(hx:l[rH l d e]?=aa x):tF d e x=ab:=by have hi:=(dA.1 hx).1;have:=List.findIdx_getElem (p:=tF d e) (xs:=l) (w:=hi);rw [<-(dA.1 hx).2];exact this
theorem JC(x:Hd)(d:UInt8):ju (aB Cq.sz (aG (0+0+17) (SB.box (iq x)).cells)) (SB.ro [.u8 0,.u8 d]).cells=(x.d==d):=by
 show((0:UInt8)==0&&(x.d==d&&ab))=(x.d==d)
 simp
theorem Kj(l:List Hd)(hn:l.length<1000000)(d:UInt8)(e:UInt64)(hM:MV M)(hX:bJ X=ab)(nn:UInt8)(s:UInt8)(sm:Bool)(g:UInt8)(ep:UInt64):aM 107 [.p 0 0,.agg [.u8 0,.u8 d],.u64 e] [an (bA 1 3 M s sm g ep l.length),an (aI l),an X,an [.fn 28 [.p 4 0]],an [.u8 nn]] (.tup [.s (vR l d e),.i (pz l d e sm ep)]) []:=by
 have hle:=adn l d e;refine aL (fn:=Tryz.f107) ?_;refine zM ?_;refine fH (ι:={i:Nat//i<=rH l d e}) (λi=> [(0,.p 0 0),(2,.u64 e),(4,.p 5 0),(8,.s []),(17,.sl 1 0 l.length 23 af),(18,.i (l.length:Int)),(19,.i (i.1:Int))]) (λ_=> [an (bA 1 3 M s sm g ep l.length),an (aI l),an X,an [.fn 28 [.p 4 0]],an [.u8 nn],an [.u8 0,.u8 d]]) (λ_=>6) (λi=>l.length-i.1) ⟨0,kD _⟩ ?_ ?_
 .exact t7
 .rintro⟨i,hi⟩;dsimp only;by_cases hil:i<l.length
  .have e1:decide ((i:Int)<(l.length:Int))=ab:=aA;obtain⟨x,hx⟩:∃x,l[i]?=aa x:=⟨_,dy hil⟩;have ew:au ((i:Int)+1)=((i+1:Nat):Int):=cp;by_cases u:i<rH l d e
   .have e2:=ado u hx;unfold tF at e2;cases e3:x.d==d with
    |true=>
     rw [e3]at e2;refine xE ?_;rw [JC,e3];conv=>whnf
     repeat(first|refine zW (bC e2) ?_|refine zf ?_)
     refine zC ?_;exact bL [0,1,2,3,4,5]
    |false=>
     refine xE ?_;rw [JC,e3];refine zL ?_;refine zC ?_;exact t7
   .obtain rfl:i=rH l d e:=ag;have e2:=KN hx;unfold tF at e2;rw [fI]at e2;obtain⟨e2,e3⟩:=e2;have r:vR l d e=x.key:=by unfold vR;rw [hx]
    have ee:pz l d e sm ep=0:=by unfold pz;rw [hx]
    rw [r,ee];refine xE ?_;rw [JC,e2];conv=>whnf
    repeat(first|refine zW (bl e3) ?_|refine zf ?_)
    exact AY
  .have e1:decide ((i:Int)<(l.length:Int))=af:=aA;have hx:l[rH l d e]?=ah:=dI ag;have r:vR l d e= []:=by unfold vR;rw [hx]
   have ee:pz l d e sm ep=if sm&&decide (e<ep)then 241 else 240:=by unfold pz;rw [hx]
   rw [r,ee];cases sm with
   |false=>
    refine Im ?_;exact bE [0,1,2,3,4]
   |true=>
    cases e3:decide (e<ep)with
    |false=>
     conv=>whnf
     repeat(first|refine zW (bC e1) ?_|refine zW (bC e3) ?_|refine zf ?_)
     exact bE [0,1,2,3,4]
    |true=>
     conv=>whnf
     repeat(first|refine zW (bC e1) ?_|refine zW (bl e3) ?_|refine zf ?_)
     exact AY
def CL(ep:UInt64):Prop:=decide (ep>=aF (aU 1))=ab/\decide (ep<=aF (aU 1099511627776))=ab
def I6(d:UInt8):Prop:=decide (d<cX (aU 4))=ab
theorem aa3(ep:UInt64)(d:UInt8)(key:List UInt8)(h1:I6 d)(h2:CL ep):aQ 101 [.agg (pq ep d (aP ep 0 d) key)] [] (.b ab) []:=by
 have q:=Gu ep 0 d;have h4:(aP ep 0 d==aP ep 0 d)=ab:=aq;obtain⟨h2,h3⟩:=h2;unfold I6 at h1;refine aL (fn:=Tryz.f101) ?_;refine zp ?_;repeat(first|refine zW (bl h1) ?_|refine zW (iN h1) ?_|refine zW (bl h2) ?_|refine zW (iN h2) ?_|refine zW (bl h3) ?_|refine zf ?_)
 refine zW (aE [] [] ab q) ?_;repeat(first|refine zW (bl h3) ?_|refine zW (iN h3) ?_|refine zf ?_)
 rw [h4];exact gI
theorem ai0{i k:Nat}{x:Hd}(h:l[i]?=aa x)(hk:k=i*23):dz ab 21 (aI l) k=aa (.agg (pq x.ep x.d x.kid x.key)):=by subst hk;have h1:=Dl h;exact Wd
theorem Qe(l:List Hd)(hn:l.length<1000000)(p:Nat){x:Hd}(hx:l[p]?=aa x)(hM:MV M)(hX:bJ X=ab)(nn:UInt8)(s:UInt8)(g:UInt8)(ep:UInt64)(hp:oC l (aP ep 0 s) p)(hk:x.kid=aP ep 0 s):aM 104 [.p 0 0] [an (bA 1 3 M s ab g ep l.length),an (aI l),an X,an [.fn 28 [.p 4 0]],an [.u8 nn]] (.tup [.agg (pq x.ep x.d x.kid x.key),.b ab]) []:=by
 have u:=(dA.1 hx).1;have q0:=Gu ep 0 s;have q:=FZ l hn (aP ep 0 s) p hp hM hX nn s ab g ep;have r:rF l (aP ep 0 s) p=ab:=by unfold rF;rw [hx];simp [hk]
 rw [r]at q;refine Wu ?_;repeat(first|refine zH (cK rfl az) ?_|refine zH (df rfl az) ?_|refine zH (ai0 hx aq) ?_|refine aS ?_)
 exact AY
theorem Qd(l:List Hd)(hn:l.length<1000000)(p:Nat)(ep:UInt64)(d:UInt8)(kid:UInt64)(key:List UInt8)(hp:oC l kid p)(hM:MV M)(hX:bJ X=ab)(nn:UInt8)(s:UInt8)(sm:Bool)(g:UInt8)(r:UInt64):aQ 100 [.p 0 0,.agg (pq ep d kid key)] [al (bA 1 3 M s sm g r l.length),ao 164 (aI l),an X,an [.fn 28 [.p 4 0]],an [.u8 nn]] (.tup []) [al (bA 5 3 M s sm g r (l.length+1)),ah,an X,an [.fn 28 [.p 4 0]],an [.u8 nn],ao 164 (aI (i6 l p ⟨ep,d,kid,key,0,af⟩))]:=by have q:=FZ l hn kid p hp hM hX nn s sm g r;have q2:=abc l hn p hp.le ⟨ep,d,kid,key,0,af⟩;refine aL (fn:=Tryz.f100) ?_;refine zM ?_;refine zW (aE [0,1,2,3,4] [af,af,af,af,af] ab q) ?_;refine yj ?_;refine oN [1,6] [ah,ao 164 (iq ⟨ep,d,kid,key,0,af⟩),ao 164 (aI (i6 l p ⟨ep,d,kid,key,0,af⟩))] (.sl 7 0 (l.length+1) 23 af) (q2) rfl rfl ⟨⟨rfl,az⟩,by(repeat'(first|exact trivial|refine aJ ?_ ?_))<;>first|exact aY (u5 _) rfl|rfl|fail,bU,az,?_⟩;refine zI ?_;exact bE [0,1,2,3,4,7]
theorem jG(ds:List UInt8):bJ (aN ds)=ab:=by
 induction ds with
 |nil=>rfl
 |cons d ds ih=>show(ab&&bJ (aN ds))=ab;rw [ih];rfl
theorem abQ(l:List Hd)(hn:l.length<1000000)(p:Nat)(ep:UInt64)(he:CL ep){s:UInt8}(hd:d=0\/d=1\/d=2)(hs:s=0\/s=1\/s=2)(r:(d==s)=af)(key:List UInt8)(hp:oC l (aP ep 0 d) p)(F:rF l (aP ep 0 d) p=af){ds:List UInt8}(hm:ds∈jI)(h1:d∈ds)(h2:s∈ds)(nn:UInt8):aQ 69 [.p 0 0,.agg (pq ep d (aP ep 0 d) key)] [al (bA 1 3 (.sl 2 0 ds.length 2 af) s ab 5 ep l.length),ao 164 (aI l),an (aN ds),an [.fn 28 [.p 4 0]],an [.u8 nn]] (.i 0) [al (bA 5 3 (.sl 2 0 ds.length 2 af) s ab 5 ep (l.length+1)),ah,an (aN ds),an [.fn 28 [.p 4 0]],an [.u8 nn],ao 164 (aI (i6 l p ⟨ep,d,aP ep 0 d,key,0,af⟩))]:=by
 have hX:=jG ds;have hM:=uW ds.length;have u:I6 d:=by rcases hd with rfl|rfl|rfl<;>rfl
 have q1:=aa3 ep d key u he;have q2:=F6 ep af hs hm;have q3:=F6 ep af hd hm;rw [decide_eq_true h2]at q2;rw [decide_eq_true h1]at q3;have q4:=FZ l hn (aP ep 0 d) p hp hM hX nn s ab 5 ep;rw [F]at q4;have G:=Qd l hn p ep d (aP ep 0 d) key hp hM hX nn s ab 5 ep;have e1:decide (ep>ep)=af:=by rw [decide_eq_false_iff_not];exact UInt64.lt_irrefl ep
 have e2:decide (ep<ep)=af:=by rw [decide_eq_false_iff_not];exact UInt64.lt_irrefl ep
 refine aL (fn:=Tryz.f69) ?_;refine zp ?_;refine yj ?_;refine zW (aE [] [] ab q1) ?_;refine zc ?_;have hq:ju (aB Cq.sz (aG (0+17) (SB.box (pq ep d (aP ep 0 d) key)).cells)) (aB Cq.sz (aG (0+1) (SB.box (bA 1 3 (.sl 2 0 ds.length 2 af) s ab 5 ep l.length)).cells))=af:=by
  show((0:UInt8)==0&&(d==s&&ab))=af
  rw [r];rfl
 rw [hq];refine Im ?_;refine zW (aE [2] [af] ab q2) ?_;refine zc ?_;refine zW (aE [2] [af] ab q3) ?_;refine zc ?_;refine zW (aE [0,1,2,3,4] [af,af,af,af,af] ab q4) ?_;refine yj ?_;refine oN [0,1,2,3,4] [al (bA 6 3 (.sl 2 0 ds.length 2 af) s ab 5 ep (l.length+1)),ah,an (aN ds),an [.fn 28 [.p 4 0]],an [.u8 nn],ao 164 (aI (i6 l p ⟨ep,d,aP ep 0 d,key,0,af⟩))] (.tup []) (G) rfl rfl ⟨⟨rfl,az⟩,by(repeat'(first|exact trivial|refine aJ ?_ ?_))<;>first|exact uU (hM _ rfl) rfl rfl|exact aY hX rfl|exact aY (u5 _) rfl|rfl|fail,bU,NY,?_⟩;conv=>whnf
 exact bE [0,1,2,3,4,6]
end Go.Sh
namespace Go.Sh
variable{tys:Array TypeId}{H:HL}{args0:List SV}{L off:Nat}{o:Oper}{name:String}
section
variable {P:Program}
theorem aej{H:cG}{R:eM}{x:Operand}{t el id:Nat}(ho:o.op= .makeInterface t x)(hu:P.underlying t=aa (.pointer el))(hx:aZ R x=aa (.p id off)):LT P o R H [] [] (aa (.ifc t id off)):=by
 refine LT.pure cJ λe w ρ h1 _=>?_
 have h3:=h1 x dj _ hx;simp only [av]at h3;obtain⟨rb,h4,h5⟩:=h3;refine⟨.iface t (.pointer (aa ⟨rb.blk,rb.off+off,ah⟩)),?_,?_⟩
 .simp only [execOp,ho,Instr.makeInterface,h5,bM,eS hu,bQ,bZ]
 .simp only [av];exact⟨rb,h4,rfl⟩
theorem afy{R:RL}{k:K1}{x:Operand}{t id:Nat}(el:Nat)(ho:o.op= .makeInterface t x)(hu:P.underlying t=aa (.pointer el))(hx:ev R x=aa (.p id off))(h:k (aa (.ifc t id off)) [] [] L):cR P o R H L k:=dB (aej ho hu (bq hx)) h
theorem aif{e:Operand->Value}{x:Operand}{f t:Nat}{v:Value}{w:World}(ho:o.op= .call ⟨.invoke x name, #[],tys⟩)(hx:e x= .iface t v)(hm:∀w:World,(method (P.types.size+Made.depth) t v name).run P w= .ok (f,v) w)(hf:wY P f):(execOp e o).run P w= .ok (.enter f #[v]) w:=by unfold execOp;simp only [ho,resolve,hx,bM,bZ,pd,invoke];simp [callMethod,run_program,hm,LV hf,bM,pd]
theorem aeo{R:eM}{x:Operand}{f t id:Nat}{sel:List Nat}{H0 H1:HL}{ret z:SV}{W:ix}(hl:H.length<=L)(ho:o.op= .call ⟨.invoke x name, #[],tys⟩)(hx:aZ R x=aa (.ifc t id off))(hm:∀(v:Value) (w:World),(method (P.types.size+Made.depth) t v name).run P w= .ok (f,v) w)(hc:bV P f args0 H0 ret H1)(V:bu sel args0=aa [.p id off])(cx:sel.length=H0.length)(h7:iF sel H sel H0)(hd:iA sel 0 sel H0=ab)(hW:cW (sel++dc L (H1.length-H0.length)) (sel++dc L (H1.length-H0.length)) H0 H1=aa W)(hz:bG (sel++dc L (H1.length-H0.length)) ret=aa z):LT P o R (hg H) sel W (aa z):=by
 refine KU hl cx h7 hd hW hz ?_;intro r n a w ρ next Q hR h6 O U hk
 refine⟨λ_ _=>trivial,?_⟩;have Z:av ρ (.ifc t id off) (a.eval x):=by
  cases x with
  |tmp s=>exact hR s (by simp [oQ,ho,Op.operands,Call.operands]) _ (by simpa [aZ]using hx)
  |const u=>exact(qo hx).1
  |_=>simp [aZ]at hx
 simp only [av]at Z;obtain⟨rb,h4,h5⟩:=Z;have I:aD (cu sel ρ) args0 (#[Value.pointer (aa ⟨rb.blk,rb.off+off,ah⟩)]:Array Value).toList:=by refine(jH args0 V).2 ?_;simp only [aD,av];exact⟨_,_,rfl,⟨rb,h4,rfl⟩,rfl⟩
 have F:=hc.call (n-1) (cu sel ρ) w _ I h6 O U;rw [Oper.semAt_eq _ _ _ (by intro c;rw [ho];simp),aif ho h5 (hm _) hc.fn];refine⟨λh=>(by cases h),?_⟩;refine CallsIn.mono F ?_;intro e w' G;cases e with
 |panicked c=>exact G.elim
 |outgrown=>exact G.elim
 |returned v=>exact hk v w' G
theorem afz{R:RL}{k:K1}{x:Operand}{f t id:Nat}{H0 H1:HL}{ret:SV}(sel:List Nat)(W:ix)(z:SV)(hc:bV P f args0 H0 ret H1)(ho:o.op= .call ⟨.invoke x name, #[],tys⟩)(hx:ev R x=aa (.ifc t id off))(hm:∀(v:Value) (w:World),(method (P.types.size+Made.depth) t v name).run P w= .ok (f,v) w)(hle:eU H.length L=ab)(u:bu sel args0=aa [.p id off])(cx:sel.length=H0.length)(r:iF sel H sel H0)(hd:iA sel 0 sel H0=ab)(hW:cW (sel++dc L (H1.length-H0.length)) (sel++dc L (H1.length-H0.length)) H0 H1=aa W)(hz:bG (sel++dc L (H1.length-H0.length)) ret=aa z)(h:k (aa z) W sel (L+(H1.length-H0.length))):cR P o R H L k:=by
 have hl:=cr hle;obtain⟨w1,w2,U,w4,V⟩:=vJ hW;refine⟨_,_,_,_,aeo hl ho (bq hx) hm hc u cx r hd hW hz,ag,?_,h⟩;intro id O hm;obtain⟨j,hj,I⟩:=U id O hm;by_cases G:j<H0.length
 .rw [gP ag]at hj;obtain⟨Z,F⟩:=V j G;obtain⟨s,b,e1,e2,_⟩:=mL r F;rw [hj]at e1;cases e1;have:=gn hl (by rw [kJ];exact e2:hk H _=aa b);exact⟨ag,λhn=>absurd (jO hj) hn⟩
 .rw [iR ag,vX]at hj;split at hj
  .have:=Option.some.inj hj;exact⟨ag,λ_=>ag⟩
  .cases hj
end
open Go.Proofs
abbrev jS(n:UInt8):List UInt8:= [n,2,0,0,0,0,0,0,0,0,0,0,0,0,0,0,0,0,0,0,0,0,0,0,0,0,0,0,0,0,0,0]
theorem abr(n:UInt8):aQ 28 [.p 0 0] [al [.u8 n]] (.agg ((jS (n+1)).map .u8)) [al [.u8 (n+1)]]:=by refine aL (fn:=Tryz.f28) ?_;refine zp ?_;refine zq ?_;exact gH
theorem abn(n:UInt8):aQ 217 [.p 0 0] [an [.fn 28 [.p 1 0]],al [.u8 n]] (.s (jS (n+1))) [an [.fn 28 [.p 1 0]],al [.u8 (n+1)]]:=by
 have q:=abr n;refine aL (fn:=Tryz.f217) ?_;refine zM ?_;refine zW (aE [1] [ab] ab q) ?_;repeat(first|refine zH (Fm rfl) ?_|refine zH (df rfl az) ?_|refine aS ?_)
 exact jy
theorem Kn(n:UInt8):aM 30 [.fn 28 [.p 0 0]] [an [.u8 n]] (.ifc 140 1 0) [al [.fn 28 [.p 0 0]]]:=by refine aL (fn:=Tryz.f30) ?_;refine zM ?_;refine zW (afy 142 rfl bD rfl) ?_;exact jy
abbrev mb0(xi:Nat)(s:UInt8):List SV:= [.ifc 140 xi 0,.u8 0,.u8 s,.b af,.u8 0,.u8 0,.u8 0,.u8 0,.u8 0,.u8 0,.u8 0,.u8 0,.u8 0,.u8 0,.u8 0,.u8 0,.u8 0,.u8 0,.u8 0,.u8 0,.u64 0,.slnil,.slnil,.slnil]
theorem abt(n s:UInt8):aM 29 [.ifc 140 0 0,.agg [.u8 0,.u8 s]] [an [.fn 28 [.p 1 0]],an [.u8 n]] (.p 2 0) [al (mb0 0 s)]:=by refine aL (fn:=Tryz.f29) ?_;refine zp ?_;refine yj ?_;exact bE [0,1,3]
theorem frM(v:Value)(w:World):(method (Tryz.prog.types.size+Made.depth) 140 v "Fresh").run Tryz.prog w= .ok (217,v) w:=by kernel_rfl
end Go.Sh
namespace Go.Sh
variable{ys:List SV}{P:Program}
theorem Lu:∀{l:List SV},bJ l=ab->cw l=ab
 | [],_=>rfl
 |x::xs,h=>by
  simp only [bJ,vA,fI]at h;simp only [cw,vA,fI];exact⟨by cases x<;>simp_all [iG,SV.atom],by have:=Lu (l:=xs) (by simpa [bJ]using h.2);simpa [cw]using this⟩
theorem bV.part{f:Nat}{W W':List SV}{ret:SV}(h:bV P f (.p 0 0::ys) [aa (.box W)] ret [aa (.box W')])(pre post:List SV)(I:HL)(hl:W'.length=W.length)(hp:bJ W=ab)(h9:bJ W'=ab)(hw0:0<W.length)(ha:bJ ys=ab)(hr:iG ret=ab)(ho:∀id b,hg I id=aa b->b.own=af):bV P f (.p 0 pre.length::ys) (aa (.box (pre++W++post))::I) ret (aa (.box (pre++W'++post))::I):=by
 refine⟨h.fn,λnn ρ w vs hA hH hS hF=>?_⟩;have g0:∀b,hg (aa b::I) 0=aa b:=λb=>rfl
 have gs:∀b id,hg (aa b::I) (id+1)=hg I id:=λb id=>by simp [hg]
 obtain⟨rb,U,hB⟩:=hH 0 _ (g0 _);obtain⟨⟨c,t,fz,c1,c2,c3,c4,c5⟩,c6,c7⟩:=hB;simp only [aW]at c3 c5 c6;let rbs:RB:={rb with off:=rb.off+pre.length,cap:=rb.cap-pre.length}
 let ρs:bw:=λid=>if id=0 then aa rbs else ah
 have x0:aD ρs (.p 0 0::ys) vs:=by simp only [aD]at hA|-;obtain⟨y,ys,e,hy,hys⟩:=hA;refine⟨y,ys,e,?_,oR ha hys⟩;simp only [av]at hy|-;obtain⟨rb2,e1,e2⟩:=hy;rw [U]at e1;cases e1;exact⟨rbs,if_pos rfl,by rw [e2];rfl⟩
 have tk:∀(cc:Array Value) (V:List SV),V.length=W.length->aB V.length (aG rbs.off cc.toList)=aB V.length (aG pre.length (aB (pre.length+W.length+post.length) (aG rb.off cc.toList))):=by intro cc V hV;rw [sX,ng,nK];congr 1;omega
 have ac:cw pre=ab/\cw post=ab:=by simp only [cw,uf,fI]at c2|-;exact⟨c2.1.1,c2.2⟩
 have x7:iX ρs (hg [aa (.box W)]) w:=by
  intro id b hb;cases id with
  |zero=>
   cases hb;refine⟨rbs,if_pos rfl,⟨c,t,fz,c1,Lu hp,?_,c4,CD⟩,CD,c7⟩;have:=aD.take W.length (aD.drop pre.length c3);rw [iw,qP,sZ]at this;rw [tk c W rfl];exact oR hp this
  |succ id=>simp [hg]at hb
 have hSs:l7 ρs (hg [aa (.box W)]):=by
  intro i j bi bj ri rj hne hi hj;have:∀i b,hg [aa (.box W)] i=aa b->i=0:=λi b h=>by cases i<;>simp [hg]at h|-
  exact absurd ((this i bi hi).trans (this j bj hj).symm) hne
 have F:∀k q,dV ρs (hg [aa (.box W)]) k q->k=rb.blk/\rb.off+pre.length<=q/\q<rb.off+pre.length+W.length:=by
  rintro k q ⟨id,b,r,e1,e2,e3,e4⟩;have:id=0:=by cases id<;>simp [hg]at e1|-
  subst this;cases e1;have:ρs 0=aa rbs:=if_pos rfl;rw [this]at e2;cases e2;exact e4
 have h6:∀(V:List SV) k q,V.length=W.length->(k=rb.blk/\rb.off<=q/\q<rb.off+(pre.length+W.length+post.length))->dV ρ (hg (aa (.box (pre++V++post))::I)) k q:=λV k q hV hk=>
  ⟨0,_,rb,g0 _,U,rfl,hk.1,hk.2.1,by simp only [SB.cells,aW];omega⟩
 refine(h.call nn ρs w vs x0 x7 hSs (λid hid=>if_neg (by simp at hid;omega))).mono λe w' hR=>?_
 cases e with
 |returned v=>
  obtain⟨ρ1,q1,q2,q3,q4,q5⟩:=hR;have u:∀(V:List SV) k q,V.length=W.length->foot rb (.box (pre++V++post)) k q->foot rb (.box (pre++W++post)) k q:=λV k q hV hf=>by simp only [foot,aW]at hf|-;omega
  have x6:∀id b,hg I id=aa b->∃r,ρ (id+1)=aa r/\cd ρ w' r b:=λid b hb=>by obtain⟨r,e1,e2⟩:=hH (id+1) b (by rw [gs];exact hb);refine⟨r,e1,e2.frame q5.fr λk q hf hO=>?_⟩;obtain⟨o1,o2,o3⟩:=F k q hO;exact hS 0 (id+1) _ b rb r ag (g0 _) (by rw [gs];exact hb) U e1 rfl k q ⟨⟨o1,ag,CC⟩,hf⟩
  obtain⟨rb1,k1,⟨Z,t',h7,k2,k3,k4,k5,k6⟩,k7,k8⟩:=q2 0 _ rfl;have e1:=q5.ext 0 aq rbs (if_pos rfl);rw [e1]at k1;cases k1;obtain⟨c2',fz2,m1,m2,m3,m4⟩:=q5.fr.blk rb.blk _ c1;have:w'.heap[rb.blk]?=aa (.cells Z t' h7):=k2;rw [this]at m1;cases m1;have x5:cd ρ w' rb (.box (pre++W'++post)):=by
   refine⟨⟨Z,t,h7,this,?_,?_,k5,CC⟩,CC,c7⟩
   .have:=Lu h9;simp only [cw,uf,fI]at ac this|-;exact⟨⟨ac.1,this⟩,ac.2⟩
   .have O:=aD.take pre.length c3;have G:=aD.drop (pre.length+W.length) c3;rw [iw,sZ]at O;have eL:(pre++W++post).drop (pre.length+W.length)=post:=by rw [<-aW,qP]
    rw [eL]at G;have h8:aD ρ W' (aB W'.length (aG rbs.off Z.toList)):=oR h9 k4;have:=aD.append (aD.append O h8) G;have e:aB (pre++W'++post).length (aG rb.off Z.toList)=aB pre.length (aB (pre.length+W.length+post.length) (aG rb.off c.toList))++aB W'.length (aG rbs.off Z.toList)++aG (pre.length+W.length) (aB (pre.length+W.length+post.length) (aG rb.off c.toList)):=by
     have hsame:∀i,(i<pre.length\/pre.length+W.length<=i)->Z.toList[rb.off+i]?=c.toList[rb.off+i]?:=λi hi=>by rw [lU,lU];exact m4 _ λhO=>by have:=F _ _ hO;omega
     have hc':rb.off+(pre.length+W.length+post.length)<=Z.toList.length:=aA;have hc:rb.off+(pre.length+W.length+post.length)<=c.toList.length:=aA;apply ku;intro i;simp only [aW,hl,rbs];rcases js i pre.length with h1|h1
     .exact Wz
     .rcases js i (pre.length+W.length)with h2|h2
      .refine We ?_;congr 1;simp;omega
      .refine Cz ?_;rcases js i (pre.length+W.length+post.length)with h3|h3
       .refine Xv ?_;congr 1;simp;omega
       .rw [dI aA,dI aA]
    rw [e];exact this
  refine⟨ρ,SL hr q1,?_,?_,?_,λid hid rb hr=>hr,?_,?_⟩
  .intro id b hb;cases id with
   |zero=>cases hb;exact⟨rb,U,x5⟩
   |succ id=>rw [gs]at hb;exact x6 id b hb
  .intro i k bi bk ri rk hne hi hk hri hrk hw q p ⟨hfi,hfk⟩;cases i with
   |succ i=>rw [gs]at hi;rw [ho i bi hi]at hw;cases hw
   |zero=>
    cases hi;rw [U]at hri;cases hri;cases k with
    |zero=>exact hne rfl
    |succ k=>
     rw [gs]at hk;exact hS 0 (k+1) _ bk rb rk ag (g0 _) (by rw [gs];exact hk) U hrk rfl q p ⟨u W' q p hl hfi,hfk⟩
  .intro id hid;exact hF id ou
  .exact q5.fr.mono (λk q _ hO=>by
    obtain⟨o1,o2,o3⟩:=F k q hO;exact h6 W k q rfl ⟨o1,ag,ag⟩)
  .rintro k q ⟨id,b,r,e1,e2,e3,e4⟩;cases id with
   |succ id=>rw [gs]at e1;rw [ho id b e1]at e3;cases e3
   |zero=>
    cases e1;rw [U]at e2;cases e2;exact .inl ⟨0,_,rb,g0 _,U,rfl,u W' k q hl e4⟩
 |_=>exact hR
theorem bV.partG{f:Nat}{W W':List SV}{ret:SV}{u N:HL}(n:Nat)(h:bV P f (.p 0 0::ys) (aa (.box W)::u) ret (aa (.box W')::(u++N)))(pre post:List SV)(hl:W'.length=W.length)(hw0:0<W.length)(hW:bu (fF 0 n) W=aa W)(hW':bu (fF 0 n) W'=aa W')(hy:bu (fF 0 n) ys=aa ys)(hr:bG (fF 0 n) ret=aa ret)(x5:∀id b,hg u id=aa b->b.own=af/\cZ (fF 0 n) b=aa b)(hN:∀id b,hg N id=aa b->b.own=ab/\cZ (fF 0 n) b=aa b)(hpre:bu (cQ (u.length+1)) pre=aa pre)(hpost:bu (cQ (u.length+1)) post=aa post):bV P f (.p 0 pre.length::ys) (aa (.box (pre++W++post))::u) ret (aa (.box (pre++W'++post))::(u++N)):=by
 refine⟨h.fn,λnn ρ w vs hA hH hS hF=>?_⟩;have g0:∀(b:SB) (X:HL),hg (aa b::X) 0=aa b:=λb X=>rfl
 have I:∀(b:SB) (X:HL) id,hg (aa b::X) (id+1)=hg X id:=λb X id=>by simp [hg]
 obtain⟨rb,hρ,hB⟩:=hH 0 _ (g0 _ _);obtain⟨⟨c,t,fz,c1,c2,c3,c4,c5⟩,c6,c7⟩:=hB;simp only [aW]at c3 c5 c6;let rbs:RB:={rb with off:=rb.off+pre.length,cap:=rb.cap-pre.length}
 let ρs:bw:=λid=>if id=0 then aa rbs else ρ id
 have h6:∀id,id≠0->ρs id=ρ id:=λid hid=>if_neg hid
 have h9:ρs 0=aa rbs:=if_pos rfl;have tr:∀{ρa ρb:bw} {x:SV} {v:Value},(∀id,id≠0->ρa id=ρb id)->bG (fF 0 n) x=aa x->av ρa x v->av ρb x v:=by intro ρa ρb x v e hx hv;have h1:=(lM x hx (ρ:=ρa)).2 hv;rw [sK e aw]at h1;exact(lM x hx (ρ:=ρb)).1 h1
 have trL:∀{ρa ρb:bw} {x:List SV} {v:List Value},(∀id,id≠0->ρa id=ρb id)->bu (fF 0 n) x=aa x->aD ρa x v->aD ρb x v:=by intro ρa ρb x v e hx hv;have h1:=(jH x hx (ρ:=ρa)).2 hv;rw [sK e aw]at h1;exact(jH x hx (ρ:=ρb)).1 h1
 have trB:∀{ρa ρb:bw} {b:SB} {w:World} {r:RB},(∀id,id≠0->ρa id=ρb id)->cZ (fF 0 n) b=aa b->cd ρa w r b->cd ρb w r b:=by intro ρa ρb b w r e hx hv;have h1:=(l9 hx (ρ:=ρa) (w:=w) (rb:=r)).2 hv;rw [sK e aw]at h1;exact(l9 hx).1 h1
 have es:∀id,id≠0->ρ id=ρs id:=λid hid=>(h6 id hid).symm
 have hA':aD ρs (.p 0 0::ys) vs:=by simp only [aD]at hA|-;obtain⟨y,us,e,hy1,hys⟩:=hA;refine⟨y,us,e,?_,trL es hy hys⟩;simp only [av]at hy1|-;obtain⟨rb2,e1,e2⟩:=hy1;rw [hρ]at e1;cases e1;exact⟨rbs,h9,by rw [e2];rfl⟩
 have tk:∀(cc:Array Value) (V:List SV),V.length=W.length->aB V.length (aG rbs.off cc.toList)=aB V.length (aG pre.length (aB (pre.length+W.length+post.length) (aG rb.off cc.toList))):=by intro cc V hV;rw [sX,ng,nK];congr 1;omega
 have ac:cw pre=ab/\cw W=ab/\cw post=ab:=by simp only [cw,uf,fI]at c2|-;exact⟨c2.1.1,c2.1.2,c2.2⟩
 have hHs:iX ρs (hg (aa (.box W)::u)) w:=by
  intro id b hb;cases id with
  |zero=>
   cases hb;refine⟨rbs,h9,⟨c,t,fz,c1,ac.2.1,?_,c4,CD⟩,CD,c7⟩;have:=aD.take W.length (aD.drop pre.length c3);rw [iw,qP,sZ]at this;rw [tk c W rfl];exact trL es hW this
  |succ id=>
   rw [I]at hb;obtain⟨r,e1,e2⟩:=hH (id+1) b (by rw [I];exact hb);exact⟨r,by rw [h6 _ (by omega)];exact e1,trB es (x5 id b hb).2 e2⟩
 have F:∀(V:List SV) (r:RB) k q,V.length=W.length->(foot r (.box (pre++V++post)) k q↔k=r.blk/\r.off<=q/\q<r.off+(pre.length+W.length+post.length)):=λV r k q hV=>by simp only [foot,aW,hV]
 have hin:∀(V:List SV) k q,V.length=W.length->(foot rbs (.box V) k q↔k=rb.blk/\rb.off+pre.length<=q/\q<rb.off+pre.length+W.length):=λV k q hV=>by simp only [foot,hV,rbs]
 have hSs:l7 ρs (hg (aa (.box W)::u)):=by
  intro i j bi bj ri rj hne hi hj hri hrj hw k q ⟨f1,f2⟩;cases i with
  |succ i=>rw [I]at hi;rw [(x5 i bi hi).1]at hw;cases hw
  |zero=>
   cases hi;rw [h9]at hri;cases hri;cases j with
   |zero=>exact hne rfl
   |succ j=>
    rw [I]at hj;rw [h6 _ ag]at hrj;have:=(hin W k q rfl).1 f1;exact hS 0 (j+1) _ bj rb rj hne (g0 _ _) (by rw [I];exact hj) hρ hrj rfl k q ⟨(F W rb k q rfl).2 ag,f2⟩
 have U:∀k q,dV ρs (hg (aa (.box W)::u)) k q->k=rb.blk/\rb.off+pre.length<=q/\q<rb.off+pre.length+W.length:=by
  rintro k q ⟨id,b,r,e1,e2,e3,e4⟩;cases id with
  |succ id=>rw [I]at e1;rw [(x5 id b e1).1]at e3;cases e3
  |zero=>
   cases e1;rw [h9]at e2;cases e2;exact(hin W k q rfl).1 e4
 have O:∀k q,(k=rb.blk/\rb.off<=q/\q<rb.off+(pre.length+W.length+post.length))->dV ρ (hg (aa (.box (pre++W++post))::u)) k q:=λk q hk=>
  ⟨0,_,rb,g0 _ _,hρ,rfl,(F W rb k q rfl).2 hk⟩
 have hsz:rb.blk<w.heap.size:=(jL.1 c1).1;refine(h.call nn ρs w vs hA' hHs hSs (λid hid=>by rw [h6 _ (by simp at hid;omega)];exact hF id (by simpa using hid))).mono λe w' hR=>?_
 cases e with
 |returned v=>
  obtain⟨ρ1,q1,q2,q3,q4,q5⟩:=hR;let ρ2:bw:=λid=>if id=0 then aa rb else ρ1 id
  have G:∀id,id≠0->ρ1 id=ρ2 id:=λid hid=>(if_neg hid).symm
  have h7:ρ2 0=aa rb:=if_pos rfl;have hx:∀id r,id<u.length+1->ρ id=aa r->ρ2 id=aa r:=λid r hid hr=>by
   by_cases e:id=0
   .subst e;rw [h7];rw [hρ]at hr;exact hr
   .rw [<-G id e];exact q5.ext id ou r (by rw [h6 id e];exact hr)
  have x6:∀{l:List SV} {us:List Value},bu (cQ (u.length+1)) l=aa l->aD ρ l us->aD ρ2 l us:=fun{l us} hl2 hu=>by
   have h1:=(jH l hl2 (ρ:=ρ)).2 hu;refine(jH l hl2 (ρ:=ρ2)).1 (aD.ext ?_ l h1);intro id r hr;simp only [cu]at hr|-;by_cases hid:id<u.length+1
   .rw [wR hid]at hr|-;exact hx id r hid hr
   .rw [dI ou]at hr;cases hr
  obtain⟨rb1,k1,⟨c',t',fz',k2,k3,k4,k5,k6⟩,k7,k8⟩:=q2 0 _ (g0 _ _);have e1:=q5.ext 0 aq rbs h9;rw [e1]at k1;cases k1;obtain⟨c2',fz2,m1,m2,m3,m4⟩:=q5.fr.blk rb.blk _ c1;have:w'.heap[rb.blk]?=aa (.cells c' t' fz'):=k2;rw [this]at m1;cases m1;have hB2:cd ρ2 w' rb (.box (pre++W'++post)):=by
   refine⟨⟨c',t,fz',this,?_,?_,k5,CC⟩,CC,c7⟩
   .have hac:=ac.1;have x7:=ac.2.2;simp only [cw,uf,fI]at hac x7 k3|-;exact⟨⟨hac,k3⟩,x7⟩
   .have h8:=aD.take pre.length c3;have Z:=aD.drop (pre.length+W.length) c3;rw [iw,sZ]at h8;have eL:(pre++W++post).drop (pre.length+W.length)=post:=by rw [<-aW,qP]
    rw [eL]at Z;have hmid:aD ρ2 W' (aB W'.length (aG rbs.off c'.toList)):=trL G hW' k4;have:=aD.append (aD.append (x6 hpre h8) hmid) (x6 hpost Z);have e:aB (pre++W'++post).length (aG rb.off c'.toList)=aB pre.length (aB (pre.length+W.length+post.length) (aG rb.off c.toList))++aB W'.length (aG rbs.off c'.toList)++aG (pre.length+W.length) (aB (pre.length+W.length+post.length) (aG rb.off c.toList)):=by
     have hsame:∀i,(i<pre.length\/pre.length+W.length<=i)->c'.toList[rb.off+i]?=c.toList[rb.off+i]?:=λi hi=>by rw [lU,lU];exact m4 _ λhO=>by have:=U _ _ hO;omega
     have hc':rb.off+(pre.length+W.length+post.length)<=c'.toList.length:=aA;have hc:rb.off+(pre.length+W.length+post.length)<=c.toList.length:=aA;apply ku;intro i;simp only [aW,hl,rbs];rcases js i pre.length with h1|h1
     .exact Wz
     .rcases js i (pre.length+W.length)with h2|h2
      .refine We ?_;congr 1;simp;omega
      .refine Cz ?_;rcases js i (pre.length+W.length+post.length)with h3|h3
       .refine Xv ?_;congr 1;simp;omega
       .rw [dI aA,dI aA]
    rw [e];exact this
  have x0:∀id b,hg (u++N) id=aa b->cZ (fF 0 n) b=aa b/\(hg u id=aa b\/(u.length<=id/\b.own=ab)):=λid b hb=>by
   by_cases hid:id<u.length
   .have:hg u id=aa b:=by rw [<-hb];unfold hg;rw [gP hid]
    exact⟨(x5 id b this).2,.inl this⟩
   .have:hg N (id-u.length)=aa b:=by rw [<-hb];unfold hg;rw [iR (by omega)]
    exact⟨(hN _ b this).2,.inr ⟨ag,(hN _ b this).1⟩⟩
  have ha:∀k bk rk q p,hg (u++N) k=aa bk->ρ1 (k+1)=aa rk->(q=rb.blk/\rb.off<=p/\p<rb.off+(pre.length+W.length+post.length))->foot rk bk q p->False:=λk bk rk q p hk hrk hq hf=>by
   by_cases hp:rb.off+pre.length<=p/\p<rb.off+pre.length+W.length
   .exact q3 0 (k+1) _ bk rbs rk ag (g0 _ _) (by rw [I];exact hk) e1 hrk rfl q p ⟨(hin W' q p hl).2 ⟨hq.1,hp⟩,hf⟩
   .rcases(x0 k bk hk).2 with h1|⟨h1,h2⟩
    .obtain⟨r,f1,f2⟩:=hH (k+1) bk (by rw [I];exact h1);have hkl:k+1<(aa (SB.box W)::u).length:=by
      unfold hg at h1;rcases js k u.length with h|h
      .simpa using h
      .rw [dI h]at h1;simp at h1
     have:=q5.ext (k+1) hkl r (by rw [h6 _ (by omega)];exact f1);rw [hrk]at this;cases this;exact hS 0 (k+1) _ bk rb rk ag (g0 _ _) (by rw [I];exact h1) hρ f1 rfl q p ⟨(F W rb q p rfl).2 hq,hf⟩
    .rcases q5.own q p ⟨k+1,bk,rk,by rw [I];exact hk,hrk,h2,hf⟩with ho|ho
     .exact hp (U q p ho).2
     .omega
  refine⟨ρ2,tr G hr q1,?_,?_,?_,λid hid r hr2=>hx id r ou hr2,?_,?_⟩
  .intro id b hb;cases id with
   |zero=>cases hb;exact⟨rb,h7,hB2⟩
   |succ id=>
    obtain⟨r,f1,f2⟩:=q2 (id+1) b hb;rw [I]at hb;exact⟨r,by rw [<-G _ (by omega)];exact f1,trB G (x0 id b hb).1 f2⟩
  .intro i k bi bk ri rk hne hi hk hri hrk hw q p ⟨hfi,hfk⟩;cases i with
   |zero=>
    cases hi;rw [h7]at hri;cases hri;cases k with
    |zero=>exact hne rfl
    |succ k=>
     rw [I]at hk;rw [<-G _ ag]at hrk;exact ha k bk rk q p hk hrk ((F W' rb q p hl).1 hfi) hfk
   |succ i=>
    rw [I]at hi;rw [<-G _ ag]at hri;cases k with
    |zero=>
     cases hk;rw [h7]at hrk;cases hrk;exact ha i bi ri q p hi hri ((F W' rb q p hl).1 hfk) hfi
    |succ k=>
     rw [<-G _ ag]at hrk;rw [I]at hk;exact q3 (i+1) (k+1) bi bk ri rk hne (by rw [I];exact hi) (by rw [I];exact hk) hri hrk hw q p ⟨hfi,hfk⟩
  .intro id hid;show(if id=0 then aa rb else ρ1 id)=ah
   rw [if_neg (by simp at hid;omega)];exact q4 id ou
  .exact q5.fr.mono (λk q _ hO=>by
    obtain⟨o1,o2,o3⟩:=U k q hO;exact O k q ⟨o1,ag,ag⟩)
  .rintro k q ⟨id,b,r,f1,f2,f3,f4⟩;cases id with
   |zero=>
    cases f1;rw [h7]at f2;cases f2;exact .inl (O k q ((F W' rb k q hl).1 f4))
   |succ id=>
    rw [I]at f1;rw [<-G _ ag]at f2;rcases q5.own k q ⟨id+1,b,r,by rw [I];exact f1,f2,f3,f4⟩with ho|ho
    .obtain⟨o1,o2,o3⟩:=U k q ho;exact .inl (O k q ⟨o1,ag,ag⟩)
    .exact .inr ho
 |_=>exact hR
end Go.Sh
