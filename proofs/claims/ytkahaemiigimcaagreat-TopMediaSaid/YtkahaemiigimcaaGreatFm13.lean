/- Merged for a claim: R7, R8, R9, R10, R11, R12, U3r, G10, G14, G15, G16, W16, W17, W5, W7, Sh48. -/
import Derived.Test.YtkahaemiigimcaaGreatFm12
set_option linter.unusedSimpArgs false
set_option linter.unusedVariables false
set_option maxHeartbeats 8000000
set_option maxRecDepth 100000
open Option renaming some->aa,none->ah
open Bool renaming true->ab,false->af,false_eq_true->gE
open List renaming take->aB,drop->aG,replicate->aK,length_append->aW,take_of_length_le->bW,drop_zero->cq,range->cQ,getD_eq_getElem?_getD->dk,length_map->dm,getElem?_eq_getElem->dy,getElem?_eq_none->dI,map_append->dU,length_take->eZ,length_set->fJ,length_drop->fQ,map->fR,getElem?_append_left->gP,getElem?_take_of_lt->ic,append_assoc->iw,getElem?_append_right->iR,getElem?_drop->iS,map_take->iU,append_nil->jz,nil_append->jA,getElem?_map->ky,length_replicate->kz,cons_append->oz,length_nil->oZ,getElem?_set->pQ,drop_left->qP,map_congr_left->qQ,take_left->sZ
open UInt64 renaming ofNat->aF,toNat_inj->dJ,lt_iff_toNat_lt->gh,toNat_ofNat'->j5,toNat_div->nL,toNat_mod->nM,toNat_toUInt8->oB,toNat_shiftRight->sr,toNat_shiftLeft->uv
open And renaming intro->aJ
open Int renaming toNat->aU,tdiv->lV,tmod_eq_emod_of_nonneg->sk
open Nat renaming le_refl->bH,mul_one->fS,mod_eq_of_lt->gq,zero_add->ig,shiftLeft_eq->nk,shiftRight_eq_div_pow->np,sub_self->pR
open UInt8 renaming toNat_inj->my,toNat_ofNat'->nN,xor_zero->vE
namespace Go.Sh
open Go.Proofs
theorem QK(a c m:Nat)(h:a+c+m<1000000000000000000):au (au ((a:Int)+(c:Int))+(m:Int))=((a+(c+m):Nat):Int):=by rw [AQ (n:=(a:Int)+(c:Int)) ag ag,AQ ag ag];omega
def vf:Nat->Bool
 |0=>af
 |_+1=>ab
theorem rU(i:Nat)(h:i<100000):au ((i:Int)+1)=((i+1:Nat):Int):=by simp only [eI];omega
theorem agL(T:List UInt8):(mP T).length=64*((mP T).length/64):=by
 have h:(mP T).length=T.length+1+d9 T.length+8:=by unfold mP vT;rw [aW,aW,aW,BQ,kz];rfl
 have h2:=Sk T.length;omega
theorem aio(b:List UInt8)(t:Nat):(cQ (t+1)).map (λs=>bO (jn b s 4))=(cQ t).map (λs=>bO (jn b s 4))++ [bO (jn b t 4)]:=by rw [List.range_succ,dU];rfl
theorem aim(b:List UInt8):(cQ 16).map (λs=>bO (jn b s 4))=gZ ((dS b 0).take (0+16)):=by
 unfold gZ;have hl:=Er b 64;apply List.ext_getElem
 .simp [AR]
 .intro i h1 h2;have hi:i<16:=lv;rw [List.getElem_map,List.getElem_map,List.getElem_range,List.getElem_take];have e:=akG b i hi;rw [<-e,dk,dy ag];rfl
theorem acF:bR 8 8 (λj=>fL.getD j 0/jB) (λj=>fL.getD j 0)=gZ j9:=by rw [p9,aco];rfl
theorem acD:bR 8 0 (λj=>fL.getD j 0/jB) (λj=>fL.getD j 0)=fL:=rfl
theorem Yt(D:List UInt8):fX iD j9 D 0=j9:=rfl
theorem Yv(D:List UInt8)(j:Nat):fX iD j9 D (j+1)=nR iD (fX iD j9 D j) ((D.drop (64*j)).take 64):=rfl
theorem akA(b:List UInt8)(t:Nat):bO (jn b t 0)=aF (aU 0):=by unfold jn bO;decide
theorem C3(x:List UInt32)(i:Nat)(h:i<x.length):(gZ x).getD i 0=bO (x.getD i 0):=by unfold gZ;rw [dk,dk,ky,dy h];rfl
theorem ahX(H:List UInt32):jE H (4*0)= []:=rfl
theorem ahV(H:List UInt32)(i m:Nat)(hm:m<4):jE H (4*i+(m+1))=jE H (4*i+m)++ [(kf (H.getD i 0) (8*(4-1-m))).toUInt8]:=by
 show jE H (4*i+m)++ [(kf (H.getD ((4*i+m)/4) 0) (8*(4-1-(4*i+m)%4))).toUInt8]=_
 rw [show(4*i+m)/4=i by omega,show 4-1-(4*i+m)%4=4-1-m by omega]
theorem ahw(T:List UInt8):jE (fX iD j9 (mP T) ((mP T).length/64)) (4*8)=oI iD j9 T:=rfl
theorem Zy(x:UInt32):(bO x).toUInt8=x.toUInt8:=by
 apply my.1;have r:(bO x).toNat=x.toNat:=by exact mc x
 rw [oB,r];first|exact(UInt32.toNat_toUInt8 x).symm|fail
theorem ajN:∀t:Nat,t<16->au (lV (au ((t:Int)*32)) 8)=((4*t:Nat):Int):=by decide+kernel
section
attribute [local irreducible] mP fX oI At jE dS jn mi kZ nR fL gQ jB bO j9 iD
theorem ZJ(T:List UInt8)(hT:T.length<100000000000000)(f:Bool):aM 129 [.sl 0 0 T.length 1 f,.i 32] [ak T] (.sl 1 0 32 1 af) [aC 5 (oI iD j9 T)]:=by
 have qp:=f147 (64-32) aw;have hdn:aF (2^(64-32))=jB:=by unfold jB;rfl
 rw [hdn]at qp;have hd1:aF (aU 1)=iL:=by unfold iL;rfl
 have q8:=ZL T hT f;have hf8:=acF;have hf0:=acD;have hfl:fL.length=8:=by unfold fL;rfl
 have hcl:gQ.length=80:=by unfold gQ;rfl
 refine Wk ?_;try rw [hd1]
 refine bT 8 (λi=> [(0,.sl 0 0 T.length 1 f),(1,.i 32),(5,.i 64),(6,.sl 1 0 8 1 ab),(7,.sl 2 0 80 1 ab),(8,.u64 jB),(9,.i (i.1:Int))]) (λi=> [ak T,dC 24 (bR 8 i.1 (λj=>fL.getD j 0/jB) (λj=>fL.getD j 0)),eJ gQ]) 3 ?_ ?_
 .dsimp only;rw [hf0];exact xA
 .rintro⟨i,hi⟩;dsimp only;have hfln:=kG 8 i (λj=>fL.getD j 0/jB) (λj=>fL.getD j 0);by_cases ha:i<8
  .have hlt:decide ((i:Int)<8)=ab:=aA;have hp:=rU i ag;have hx:(bR 8 i (λj=>fL.getD j 0/jB) (λj=>fL.getD j 0)).getD i 0/jB=(λj=>fL.getD j 0/jB) i:=by rw [qe ha,if_neg ag]
   have hs:=nx (f:=λj=>fL.getD j 0/jB) (g:=λj=>fL.getD j 0) ha hx;have hdz:jB≠0:=by unfold jB;decide
   refine zt ?_;refine zT ?_;exact yV
  .obtain rfl:i=8:=ag;rw [hf8];refine zy ?_;refine zW (aE [0] [af,ab] af q8) ?_;have hDl:=agL T;obtain⟨D,hD⟩:=ax (mP T);rw [<-hD]at hDl|-;have hDb:D.length<200000000000000:=by
    rw [hD];have h:(mP T).length=T.length+1+d9 T.length+8:=by unfold mP vT;rw [aW,aW,aW,BQ,kz];rfl
    have hpl:d9 T.length<64:=NU;omega
   refine fH (ι:={j:Nat//64*j<=D.length}) (λj=> [(1,.i 32),(5,.i 64),(6,.sl 1 0 8 1 ab),(7,.sl 2 0 80 1 ab),(8,.u64 jB),(10,.sl 3 0 D.length 1 af),(11,.i ((64*j.1:Nat):Int))]) (λj=> [ak T,dC 24 (gZ (fX iD j9 D j.1)),eJ gQ,ak D]) (λ_=>4) (λj=>D.length-64*j.1) ⟨0,ag⟩ ?_ ?_
   .have hz:=Yt D;refine yL ?_;exact sf
   .rintro⟨j,hj⟩;dsimp only;have I:=Yv D j;have u:=Bn iD Qt D j;obtain⟨h,hh⟩:=ax (fX iD j9 D j);rw [<-hh]at I u|-;by_cases hc:64*(j+1)<=D.length
    .have hlt:decide (((64*j:Nat):Int)<(D.length:Int))=ab:=aA;obtain⟨b,hb⟩:=ax ((D.drop (64*j)).take 64);rw [<-hb]at I;have hbg:∀i,i<64->D.getD (64*j+i) 0=b.getD i 0:=λi hi=>by rw [hb,dk,dk,ic hi,iS]
     have hbl:b.length=64:=by rw [hb,eZ,fQ];omega
     refine zt ?_;refine bp.weak (cl.virt 12 24 1 rfl) ?_;refine bT 16 (λt=> [(1,.i 32),(5,.i 64),(6,.sl 1 0 8 1 ab),(7,.sl 2 0 80 1 ab),(8,.u64 jB),(10,.sl 3 0 D.length 1 af),(11,.i ((64*j:Nat):Int)),(12,.sl 4 0 t.1 1 af),(13,.i (t.1:Int))]) (λt=> [ak T,dC 24 (gZ h),eJ gQ,ak D,dC 24 ((cQ t.1).map (λs=>bO (jn b s 4)))]) 5 ?_ ?_
     .exact yH
     .rintro⟨t,ht⟩;dsimp only;have hws:=aio b t;by_cases ht2:t<16
      .have hlt2:decide ((t:Int)<16)=ab:=aA;have hp:=rU t ag;obtain⟨Y,hY⟩:=ax ((cQ t).map (λs=>bO (jn b s 4)));have G:Y.length=t:=by rw [hY];simp
       rw [<-hY]at hws|-;refine yt ?_;refine bT 4 (λm=> [(1,.i 32),(5,.i 64),(6,.sl 1 0 8 1 ab),(7,.sl 2 0 80 1 ab),(8,.u64 jB),(10,.sl 3 0 D.length 1 af),(11,.i ((64*j:Nat):Int)),(12,.sl 4 0 t 1 af),(13,.i (t:Int)),(14,.u64 (bO (jn b t m.1))),(15,.i (m.1:Int))]) (λm=> [ak T,dC 24 (gZ h),eJ gQ,ak D,dC 24 Y]) 5 ?_ ?_
       .have hz:=akA b t;exact wE
       .rintro⟨m,hm⟩;dsimp only;by_cases hm2:m<4
        .have hlt3:decide ((m:Int)<au (lV 32 8))=ab:=by rw [show au (lV 32 8)=4 from by decide];simp;omega
         have x5:=rU m ag;have hti:au (lV (au ((t:Int)*32)) 8)=((4*t:Nat):Int):=ajN t ht2;have hix:au (au (((64*j:Nat):Int)+au (lV (au ((t:Int)*32)) 8))+(m:Int))=((64*j+(4*t+m):Nat):Int):=by rw [hti];exact QK _ _ _ ag
         have hwr:=aky b t m hm2;rw [<-hbg (4*t+m) ag]at hwr;have hin:64*j+(4*t+m)<D.length:=ag;refine zL ?_;first|refine du (by exact hlt3) ?_|fail
         conv=>whnf
         repeat(first|refine zH (cU (i:=64*j+(4*t+m)) aT ag) ?_|refine zH (bg (m:=64*j+(4*t+m)) aT) ?_|refine aS ?_)
         rw [hwr];refine xO ?_;refine bP [0,1,2,3,4] ?_ ?_
         ·(repeat'(first|exact trivial|refine aJ ?_ ?_|fail))<;>first|exact dh (by first|exact x5|exact x5.symm|fail)|rfl|fail
         .exact zo
        .obtain rfl:m=4:=ag;have hlt3:decide ((4:Int)<au (lV 32 8))=af:=aw;obtain⟨x,hx⟩:=ax (bO (jn b t 4));rw [<-hx]at hws|-;have hap:(Y++ [x]).map SV.u64=aB (t*1) (aG 0 (Y.map SV.u64))++aB (1*1) (aG 0 [SV.u64 x]):=by rw [cq,bW (l:=Y.map SV.u64) gX,dU];rfl
         exact Wj
      .obtain rfl:t=16:=ag;rw [aim];refine zy ?_;refine fH (ι:={t:Nat//t<=64-16}) (λt=> [(1,.i 32),(5,.i 64),(6,.sl 1 0 8 1 ab),(7,.sl 2 0 80 1 ab),(8,.u64 jB),(10,.sl 3 0 D.length 1 af),(11,.i ((64*j:Nat):Int)),(12,.sl 4 0 (t.1+16) 1 af),(16,.i ((t.1+16:Nat):Int))]) (λt=> [ak T,dC 24 (gZ h),eJ gQ,ak D,dC 24 (gZ ((dS b t.1).take (t.1+16)))]) (λ_=>5) (λt=>64-t.1) ⟨0,ag⟩ ?_ ?_
       .exact yH
       .rintro⟨t,ht3⟩;dsimp only;have hwl:=AR b t;by_cases ht4:t<64-16
        .have hlt:decide (((t+16:Nat):Int)<64)=ab:=aA;have h14:au (((t+16:Nat):Int)-2)=((t+14:Nat):Int):=ot t 2 ag ag;have h9:au (((t+16:Nat):Int)-7)=((t+9:Nat):Int):=ot t 7 ag ag;have h1:au (((t+16:Nat):Int)-15)=((t+1:Nat):Int):=ot t 15 ag ag;have h0:au (((t+16:Nat):Int)-16)=((t:Nat):Int):=ot t 16 ag ag;have hp:au (((t+16:Nat):Int)+1)=((t+1+16:Nat):Int):=cp;have r:=akq b t ht4;have htk:=aku b t ht4;have hgt:∀i,i<t+16->(gZ ((dS b t).take (t+16))).getD i 0=bO ((dS b t).getD i 0):=λi hi=>by rw [C3 _ i (by rw [eZ,hwl];omega),aks b t i ag hi]
         have g14:=hgt (t+14) ag;have g9:=hgt (t+9) ag;have g1:=hgt (t+1) ag;have g0:=hgt t ag;obtain⟨U,F⟩:=ax ((dS b t).getD (t+14) 0);obtain⟨a9,h6⟩:=ax ((dS b t).getD (t+9) 0);obtain⟨a1,W⟩:=ax ((dS b t).getD (t+1) 0);obtain⟨a0,V⟩:=ax ((dS b t).getD t 0);rw [<-F]at g14 r;rw [<-h6]at g9 r;rw [<-W]at g1 r;rw [<-V]at g0 r;obtain⟨Y,hY⟩:=ax (gZ ((dS b t).take (t+16)));have G:Y.length=t+16:=by rw [hY,Bt,eZ,hwl];omega
         obtain⟨v,hv⟩:=ax ((dS b (t+1)).getD (t+16) 0);have hYs:gZ ((dS b (t+1)).take (t+1+16))=Y++ [bO v]:=by rw [htk,hY,<-hv];unfold gZ;rw [dU];rfl
         rw [<-hv]at r;rw [<-hY]at g14 g9 g1 g0|-;have q3:=ZQ U;have q2:=ZP a1;obtain⟨s3,x7⟩:=ax (oS U 17 19 10);obtain⟨s2,x6⟩:=ax (oS a1 7 18 3);rw [<-x7]at q3 r;rw [<-x6]at q2 r;have qc:=vM (bO s3+bO a9+bO s2+bO a0);rw [ajt,<-r]at qc;obtain⟨x,hx⟩:=ax (bO v);rw [<-hx]at qc hYs;have hap:(Y++ [x]).map SV.u64=aB ((t+16)*1) (aG 0 (Y.map SV.u64))++aB (1*1) (aG 0 [SV.u64 x]):=by rw [cq,bW (l:=Y.map SV.u64) gX,dU];rfl
         clear x7 x6 hx hv r F h6 W V hgt htk;refine zt ?_;refine zU ?_;rw [g0];exact xM
        .obtain rfl:t=64-16:=ag;have O:(dS b (64-16)).take (64-16+16)=dS b (64-16):=bW ag;rw [O];have hel:=Bt h;rw [u]at hel;have hvc:aB (0*t5.sz) (aG 0 (dK 0 (SV.u64 0).cells))++aB (8*t5.sz) (aG 0 (SB.row 24 ((gZ h).map SV.u64)).cells)=(gZ h).map SV.u64:=by
          show([]:List SV)++aB (8*1) ((gZ h).map SV.u64)=_
          rw [jA,bW gX]
         refine WI ?_;refine bT 64 (λt=> [(1,.i 32),(5,.i 64),(6,.sl 1 0 8 1 ab),(7,.sl 2 0 80 1 ab),(8,.u64 jB),(10,.sl 3 0 D.length 1 af),(11,.i ((64*j:Nat):Int)),(12,.sl 4 0 64 1 af),(17,.sl 5 0 8 1 (vf t.1)),(18,.i (t.1:Int))]) (λt=> [ak T,dC 24 (gZ h),eJ gQ,ak D,dC 24 (gZ (dS b (64-16))),dC 24 (gZ (mi iD h b t.1))]) 6 ?_ ?_
         .have hz:=S1 iD h b;refine yL ?_;exact bL [0,1,2,3,4,6]
         .rintro⟨t,ht5⟩;dsimp only;have hrl:=SX (k:=iD) u b t;have hrs:=SZ iD h b t;by_cases ht6:t<64
          .have hlt:decide ((t:Int)<64)=ab:=aA;have hp:=rU t ag;have hke:=ac9 t ag;have hwe:=C3 (dS b (64-16)) t ag;have hdz:jB≠0:=by unfold jB;decide
           have G:=Bt (dS b (64-16));rw [hwl]at G;have q:=ZV (mi iD h b t) hrl (iD.getD t 0) ((dS b (64-16)).getD t 0) (vf t);rw [<-hrs]at q;exact Xr
          .obtain rfl:t=64:=ag;obtain⟨X,hX⟩:=ax (mi iD h b 64);rw [<-hX]at hrl|-;refine zy ?_;refine bT 8 (λi=> [(1,.i 32),(5,.i 64),(6,.sl 1 0 8 1 ab),(7,.sl 2 0 80 1 ab),(8,.u64 jB),(10,.sl 3 0 D.length 1 af),(11,.i ((64*j:Nat):Int)),(17,.sl 4 0 8 1 ab),(19,.i (i.1:Int))]) (λi=> [ak T,dC 24 (gZ (kZ h X i.1)),eJ gQ,ak D,eJ (gZ X)]) 5 ?_ ?_
           .have hz:=On h X;refine yL ?_;exact bL [0,1,2,3,5]
           .rintro⟨i,hi7⟩;dsimp only;have hal:=EU u X i;have h7:=Bt (kZ h X i);rw [hal]at h7;have hXl:=Bt X;rw [hrl]at hXl;have has:=Om h X i;by_cases hi6:i<8
            .have hlt:decide ((i:Int)<8)=ab:=aA;have hp:=rU i ag;have ga:=C3 (kZ h X i) i ag;have gx:=C3 X i ag;have qc:=vM (bO ((kZ h X i).getD i 0)+bO (X.getD i 0));rw [HH]at qc;have hse:(gZ (kZ h X i)).set i (bO ((kZ h X i).getD i 0+X.getD i 0))=gZ (kZ h X (i+1)):=by rw [has];unfold gZ;rw [List.map_set]
             refine zt ?_;exact xY
            .obtain rfl:i=8:=ag;have x0:au (((64*j:Nat):Int)+au (2*32))=((64*(j+1):Nat):Int):=by rw [show au (2*32)=((64:Nat):Int)from by decide,AQ ag ag];omega
             have hcs:kZ h X 8=fX iD j9 D (j+1):=by rw [I,OZ,hX]
             rw [hcs];refine zy ?_;refine⟨⟨j+1,hc⟩,dt,?_⟩;dsimp only;refine bP [0,1,2,3] ?_ ?_
             ·(repeat'(first|exact trivial|refine aJ ?_ ?_|fail))<;>first|exact dh (by first|exact x0|exact x0.symm|fail)|rfl|fail
             .exact zo
    .obtain rfl:j=D.length/64:=ag;have hge:decide (((64*(D.length/64):Nat):Int)<(D.length:Int))=af:=aA;have hfin:jE h (4*8)=oI iD j9 T:=by rw [hh,hD];exact ahw T
     rw [<-hfin];have hel:=Bt h;rw [u]at hel;refine xq ?_;conv=>whnf
     refine bp.weak (cl.virt 20 5 1 rfl) ?_;refine bT 8 (λi=> [(1,.i 32),(6,.sl 1 0 8 1 ab),(20,.sl 4 0 (4*i.1) 1 af),(21,.i (i.1:Int))]) (λi=> [ak T,dC 24 (gZ h),eJ gQ,ak D,aC 5 (jE h (4*i.1))]) 5 ?_ ?_
     .have hz:=ahX h;exact wE
     .rintro⟨i,hi7⟩;dsimp only;by_cases hi6:i<8
      .have hlt:decide ((i:Int)<8)=ab:=aA;have hp:=rU i ag;refine zt ?_;refine zc ?_;refine bT 4 (λm=> [(1,.i 32),(6,.sl 1 0 8 1 ab),(20,.sl 4 0 (4*i+m.1) 1 af),(21,.i (i:Int)),(22,.i (4-1-(m.1:Int)))]) (λm=> [ak T,dC 24 (gZ h),eJ gQ,ak D,aC 5 (jE h (4*i+m.1))]) 5 ?_ ?_
       .exact yH
       .rintro⟨m,hm⟩;dsimp only;have hol:=GO h (4*i+m);by_cases hm4:m<4
        .have hge2:decide ((4-1-(m:Int))>=0)=ab:=aA;have h8:au (8*(4-1-(m:Int)))=((8*(4-1-m):Nat):Int):=cp;have hp2:au (4-1-(m:Int)-1)=4-1-((m+1:Nat):Int):=cp;have hs:=ahV h i m hm4;have gx:=C3 h i ag;have qp:=f147 (8*(4-1-m)) ag;have hnz:=wb (n:=8*(4-1-m)) ag;have hsh:=Tn (h.getD i 0) (8*(4-1-m)) ag;have hm2:=GA (bO (kf (h.getD i 0) (8*(4-1-m))));rw [Zy]at hm2;rw [<-h8]at qp;obtain⟨Z,hZ⟩:=ax (jE h (4*i+m));rw [<-hZ]at hol hs|-;obtain⟨c,hc2⟩:=ax ((kf (h.getD i 0) (8*(4-1-m))).toUInt8);rw [<-hc2]at hs hm2;have hap4:(Z++ [c]).map SV.u8=aB ((4*i+m)*1) (aG 0 (Z.map SV.u8))++aB (1*1) (aG 0 [SV.u8 c]):=(Cd (o:=0) (n:=4*i+m) (E:=Z) (b:= [c]) ag rfl).symm;exact Xe
        .obtain rfl:m=4:=ag;refine zy ?_;refine xI ?_;rw [show 4*(i+1)=4*i+4 by omega];exact yH
      .obtain rfl:i=8:=ag;refine zy ?_;exact bE [0,4]
end
theorem agM(T:List UInt8):(mQ T).length=128*((mQ T).length/128):=by
 have h:(mQ T).length=T.length+1+eC T.length+16:=by unfold mQ vU;rw [aW,aW,aW,BR,kz];rfl
 have h2:=Sl T.length;omega
theorem aip(b:List UInt8)(t:Nat):(cQ (t+1)).map (λs=>bS (jo b s 8))=(cQ t).map (λs=>bS (jo b s 8))++ [bS (jo b t 8)]:=by rw [List.range_succ,dU];rfl
theorem ain(b:List UInt8):(cQ 16).map (λs=>bS (jo b s 8))=hQ ((dT b 0).take (0+16)):=by
 unfold hQ;have hl:=Es b 128;apply List.ext_getElem
 .simp [AS]
 .intro i h1 h2;have hi:i<16:=lv;rw [List.getElem_map,List.getElem_map,List.getElem_range,List.getElem_take];have e:=akH b i hi;rw [<-e,dk,dy ag];rfl
theorem acG:bR 8 8 (λj=>fL.getD j 0/iL) (λj=>fL.getD j 0)=hQ kH:=by rw [p9,acp];rfl
theorem acE:bR 8 0 (λj=>fL.getD j 0/iL) (λj=>fL.getD j 0)=fL:=rfl
theorem Yu(D:List UInt8):fY i7 kH D 0=kH:=rfl
theorem Yw(D:List UInt8)(j:Nat):fY i7 kH D (j+1)=nS i7 (fY i7 kH D j) ((D.drop (128*j)).take 128):=rfl
theorem akB(b:List UInt8)(t:Nat):bS (jo b t 0)=aF (aU 0):=by unfold jo bS;decide
theorem C4(x:List UInt64)(i:Nat)(h:i<x.length):(hQ x).getD i 0=bS (x.getD i 0):=by unfold hQ;rw [dk,dk,ky,dy h];rfl
theorem ahY(H:List UInt64):jF H (8*0)= []:=rfl
theorem ahW(H:List UInt64)(i m:Nat)(hm:m<8):jF H (8*i+(m+1))=jF H (8*i+m)++ [(bh (H.getD i 0) (8*(8-1-m))).toUInt8]:=by
 show jF H (8*i+m)++ [(bh (H.getD ((8*i+m)/8) 0) (8*(8-1-(8*i+m)%8))).toUInt8]=_
 rw [show(8*i+m)/8=i by omega,show 8-1-(8*i+m)%8=8-1-m by omega]
theorem ahx(T:List UInt8):jF (fY i7 kH (mQ T) ((mQ T).length/128)) (8*8)=oJ i7 kH T:=rfl
theorem Zz(x:UInt64):(bS x).toUInt8=x.toUInt8:=by
 apply my.1;have r:(bS x).toNat=x.toNat:=by first|rfl
 rw [oB,r];first|exact(oB x).symm
theorem ajO:∀t:Nat,t<16->au (lV (au ((t:Int)*64)) 8)=((8*t:Nat):Int):=by decide+kernel
section
attribute [local irreducible] mQ fY oJ Au jF dT jo mj k9 nS fL gQ iL bS kH i7
theorem ZK(T:List UInt8)(hT:T.length<100000000000000)(f:Bool):aM 129 [.sl 0 0 T.length 1 f,.i 64] [ak T] (.sl 1 0 64 1 af) [aC 5 (oJ i7 kH T)]:=by
 have qp:=f147 (64-64) aw;have hdn:aF (2^(64-64))=iL:=by unfold iL;rfl
 rw [hdn]at qp;have hd1:aF (aU 1)=iL:=by unfold iL;rfl
 have q8:=ZM T hT f;have hf8:=acG;have hf0:=acE;have hfl:fL.length=8:=by unfold fL;rfl
 have hcl:gQ.length=80:=by unfold gQ;rfl
 refine Wk ?_;try rw [hd1]
 refine bT 8 (λi=> [(0,.sl 0 0 T.length 1 f),(1,.i 64),(5,.i 80),(6,.sl 1 0 8 1 ab),(7,.sl 2 0 80 1 ab),(8,.u64 iL),(9,.i (i.1:Int))]) (λi=> [ak T,dC 24 (bR 8 i.1 (λj=>fL.getD j 0/iL) (λj=>fL.getD j 0)),eJ gQ]) 3 ?_ ?_
 .dsimp only;rw [hf0];exact xA
 .rintro⟨i,hi⟩;dsimp only;have hfln:=kG 8 i (λj=>fL.getD j 0/iL) (λj=>fL.getD j 0);by_cases ha:i<8
  .have hlt:decide ((i:Int)<8)=ab:=aA;have hp:=rU i ag;have hx:(bR 8 i (λj=>fL.getD j 0/iL) (λj=>fL.getD j 0)).getD i 0/iL=(λj=>fL.getD j 0/iL) i:=by rw [qe ha,if_neg ag]
   have hs:=nx (f:=λj=>fL.getD j 0/iL) (g:=λj=>fL.getD j 0) ha hx;have hdz:iL≠0:=by unfold iL;decide
   refine zt ?_;refine zT ?_;exact yV
  .obtain rfl:i=8:=ag;rw [hf8];refine zy ?_;refine zW (aE [0] [af,ab] af q8) ?_;have hDl:=agM T;obtain⟨D,hD⟩:=ax (mQ T);rw [<-hD]at hDl|-;have hDb:D.length<200000000000000:=by
    rw [hD];have h:(mQ T).length=T.length+1+eC T.length+16:=by unfold mQ vU;rw [aW,aW,aW,BR,kz];rfl
    have hpl:eC T.length<128:=NV;omega
   refine fH (ι:={j:Nat//128*j<=D.length}) (λj=> [(1,.i 64),(5,.i 80),(6,.sl 1 0 8 1 ab),(7,.sl 2 0 80 1 ab),(8,.u64 iL),(10,.sl 3 0 D.length 1 af),(11,.i ((128*j.1:Nat):Int))]) (λj=> [ak T,dC 24 (hQ (fY i7 kH D j.1)),eJ gQ,ak D]) (λ_=>4) (λj=>D.length-128*j.1) ⟨0,ag⟩ ?_ ?_
   .have hz:=Yu D;refine yL ?_;exact sf
   .rintro⟨j,hj⟩;dsimp only;have I:=Yw D j;have u:=Bo i7 Qu D j;obtain⟨h,hh⟩:=ax (fY i7 kH D j);rw [<-hh]at I u|-;by_cases hc:128*(j+1)<=D.length
    .have hlt:decide (((128*j:Nat):Int)<(D.length:Int))=ab:=aA;obtain⟨b,hb⟩:=ax ((D.drop (128*j)).take 128);rw [<-hb]at I;have hbg:∀i,i<128->D.getD (128*j+i) 0=b.getD i 0:=λi hi=>by rw [hb,dk,dk,ic hi,iS]
     have hbl:b.length=128:=by rw [hb,eZ,fQ];omega
     refine zt ?_;refine bp.weak (cl.virt 12 24 1 rfl) ?_;refine bT 16 (λt=> [(1,.i 64),(5,.i 80),(6,.sl 1 0 8 1 ab),(7,.sl 2 0 80 1 ab),(8,.u64 iL),(10,.sl 3 0 D.length 1 af),(11,.i ((128*j:Nat):Int)),(12,.sl 4 0 t.1 1 af),(13,.i (t.1:Int))]) (λt=> [ak T,dC 24 (hQ h),eJ gQ,ak D,dC 24 ((cQ t.1).map (λs=>bS (jo b s 8)))]) 5 ?_ ?_
     .exact yH
     .rintro⟨t,ht⟩;dsimp only;have hws:=aip b t;by_cases ht2:t<16
      .have hlt2:decide ((t:Int)<16)=ab:=aA;have hp:=rU t ag;obtain⟨Y,hY⟩:=ax ((cQ t).map (λs=>bS (jo b s 8)));have G:Y.length=t:=by rw [hY];simp
       rw [<-hY]at hws|-;refine yt ?_;refine bT 8 (λm=> [(1,.i 64),(5,.i 80),(6,.sl 1 0 8 1 ab),(7,.sl 2 0 80 1 ab),(8,.u64 iL),(10,.sl 3 0 D.length 1 af),(11,.i ((128*j:Nat):Int)),(12,.sl 4 0 t 1 af),(13,.i (t:Int)),(14,.u64 (bS (jo b t m.1))),(15,.i (m.1:Int))]) (λm=> [ak T,dC 24 (hQ h),eJ gQ,ak D,dC 24 Y]) 5 ?_ ?_
       .have hz:=akB b t;exact wE
       .rintro⟨m,hm⟩;dsimp only;by_cases hm2:m<8
        .have hlt3:decide ((m:Int)<au (lV 64 8))=ab:=by rw [show au (lV 64 8)=8 from by decide];simp;omega
         have x5:=rU m ag;have hti:au (lV (au ((t:Int)*64)) 8)=((8*t:Nat):Int):=ajO t ht2;have hix:au (au (((128*j:Nat):Int)+au (lV (au ((t:Int)*64)) 8))+(m:Int))=((128*j+(8*t+m):Nat):Int):=by rw [hti];exact QK _ _ _ ag
         have hwr:=akz b t m hm2;rw [<-hbg (8*t+m) ag]at hwr;have hin:128*j+(8*t+m)<D.length:=ag;refine zL ?_;first|refine du (by exact hlt3) ?_|fail
         conv=>whnf
         repeat(first|refine zH (cU (i:=128*j+(8*t+m)) aT ag) ?_|refine zH (bg (m:=128*j+(8*t+m)) aT) ?_|refine aS ?_)
         rw [hwr];refine xO ?_;refine bP [0,1,2,3,4] ?_ ?_
         ·(repeat'(first|exact trivial|refine aJ ?_ ?_|fail))<;>first|exact dh (by first|exact x5|exact x5.symm|fail)|rfl|fail
         .exact zo
        .obtain rfl:m=8:=ag;have hlt3:decide ((8:Int)<au (lV 64 8))=af:=aw;obtain⟨x,hx⟩:=ax (bS (jo b t 8));rw [<-hx]at hws|-;have hap:(Y++ [x]).map SV.u64=aB (t*1) (aG 0 (Y.map SV.u64))++aB (1*1) (aG 0 [SV.u64 x]):=by rw [cq,bW (l:=Y.map SV.u64) gX,dU];rfl
         exact Wj
      .obtain rfl:t=16:=ag;rw [ain];refine zy ?_;refine fH (ι:={t:Nat//t<=80-16}) (λt=> [(1,.i 64),(5,.i 80),(6,.sl 1 0 8 1 ab),(7,.sl 2 0 80 1 ab),(8,.u64 iL),(10,.sl 3 0 D.length 1 af),(11,.i ((128*j:Nat):Int)),(12,.sl 4 0 (t.1+16) 1 af),(16,.i ((t.1+16:Nat):Int))]) (λt=> [ak T,dC 24 (hQ h),eJ gQ,ak D,dC 24 (hQ ((dT b t.1).take (t.1+16)))]) (λ_=>5) (λt=>80-t.1) ⟨0,ag⟩ ?_ ?_
       .exact yH
       .rintro⟨t,ht3⟩;dsimp only;have hwl:=AS b t;by_cases ht4:t<80-16
        .have hlt:decide (((t+16:Nat):Int)<80)=ab:=aA;have h14:au (((t+16:Nat):Int)-2)=((t+14:Nat):Int):=ot t 2 ag ag;have h9:au (((t+16:Nat):Int)-7)=((t+9:Nat):Int):=ot t 7 ag ag;have h1:au (((t+16:Nat):Int)-15)=((t+1:Nat):Int):=ot t 15 ag ag;have h0:au (((t+16:Nat):Int)-16)=((t:Nat):Int):=ot t 16 ag ag;have hp:au (((t+16:Nat):Int)+1)=((t+1+16:Nat):Int):=cp;have r:=akr b t ht4;have htk:=akv b t ht4;have hgt:∀i,i<t+16->(hQ ((dT b t).take (t+16))).getD i 0=bS ((dT b t).getD i 0):=λi hi=>by rw [C4 _ i (by rw [eZ,hwl];omega),akt b t i ag hi]
         have g14:=hgt (t+14) ag;have g9:=hgt (t+9) ag;have g1:=hgt (t+1) ag;have g0:=hgt t ag;obtain⟨U,F⟩:=ax ((dT b t).getD (t+14) 0);obtain⟨a9,h6⟩:=ax ((dT b t).getD (t+9) 0);obtain⟨a1,W⟩:=ax ((dT b t).getD (t+1) 0);obtain⟨a0,V⟩:=ax ((dT b t).getD t 0);rw [<-F]at g14 r;rw [<-h6]at g9 r;rw [<-W]at g1 r;rw [<-V]at g0 r;obtain⟨Y,hY⟩:=ax (hQ ((dT b t).take (t+16)));have G:Y.length=t+16:=by rw [hY,Bu,eZ,hwl];omega
         obtain⟨v,hv⟩:=ax ((dT b (t+1)).getD (t+16) 0);have hYs:hQ ((dT b (t+1)).take (t+1+16))=Y++ [bS v]:=by rw [htk,hY,<-hv];unfold hQ;rw [dU];rfl
         rw [<-hv]at r;rw [<-hY]at g14 g9 g1 g0|-;have q3:=ZU U;have q2:=ZT a1;obtain⟨s3,x7⟩:=ax (oT U 19 61 6);obtain⟨s2,x6⟩:=ax (oT a1 1 8 7);rw [<-x7]at q3 r;rw [<-x6]at q2 r;have qc:=vN (bS s3+bS a9+bS s2+bS a0);rw [aju,<-r]at qc;obtain⟨x,hx⟩:=ax (bS v);rw [<-hx]at qc hYs;have hap:(Y++ [x]).map SV.u64=aB ((t+16)*1) (aG 0 (Y.map SV.u64))++aB (1*1) (aG 0 [SV.u64 x]):=by rw [cq,bW (l:=Y.map SV.u64) gX,dU];rfl
         clear x7 x6 hx hv r F h6 W V hgt htk;refine zt ?_;refine zU ?_;rw [g0];exact xM
        .obtain rfl:t=80-16:=ag;have O:(dT b (80-16)).take (80-16+16)=dT b (80-16):=bW ag;rw [O];have hel:=Bu h;rw [u]at hel;have hvc:aB (0*t5.sz) (aG 0 (dK 0 (SV.u64 0).cells))++aB (8*t5.sz) (aG 0 (SB.row 24 ((hQ h).map SV.u64)).cells)=(hQ h).map SV.u64:=by
          show([]:List SV)++aB (8*1) ((hQ h).map SV.u64)=_
          rw [jA,bW gX]
         refine WI ?_;refine bT 80 (λt=> [(1,.i 64),(5,.i 80),(6,.sl 1 0 8 1 ab),(7,.sl 2 0 80 1 ab),(8,.u64 iL),(10,.sl 3 0 D.length 1 af),(11,.i ((128*j:Nat):Int)),(12,.sl 4 0 80 1 af),(17,.sl 5 0 8 1 (vf t.1)),(18,.i (t.1:Int))]) (λt=> [ak T,dC 24 (hQ h),eJ gQ,ak D,dC 24 (hQ (dT b (80-16))),dC 24 (hQ (mj i7 h b t.1))]) 6 ?_ ?_
         .have hz:=S5 i7 h b;refine yL ?_;exact bL [0,1,2,3,4,6]
         .rintro⟨t,ht5⟩;dsimp only;have hrl:=SY (k:=i7) u b t;have hrs:=S4 i7 h b t;by_cases ht6:t<80
          .have hlt:decide ((t:Int)<80)=ab:=aA;have hp:=rU t ag;have hke:=ada t ag;have hwe:=C4 (dT b (80-16)) t ag;have hdz:iL≠0:=by unfold iL;decide
           have G:=Bu (dT b (80-16));rw [hwl]at G;have q:=ZW (mj i7 h b t) hrl (i7.getD t 0) ((dT b (80-16)).getD t 0) (vf t);rw [<-hrs]at q;exact Xr
          .obtain rfl:t=80:=ag;obtain⟨X,hX⟩:=ax (mj i7 h b 80);rw [<-hX]at hrl|-;refine zy ?_;refine bT 8 (λi=> [(1,.i 64),(5,.i 80),(6,.sl 1 0 8 1 ab),(7,.sl 2 0 80 1 ab),(8,.u64 iL),(10,.sl 3 0 D.length 1 af),(11,.i ((128*j:Nat):Int)),(17,.sl 4 0 8 1 ab),(19,.i (i.1:Int))]) (λi=> [ak T,dC 24 (hQ (k9 h X i.1)),eJ gQ,ak D,eJ (hQ X)]) 5 ?_ ?_
           .have hz:=Oq h X;refine yL ?_;exact bL [0,1,2,3,5]
           .rintro⟨i,hi7⟩;dsimp only;have hal:=EV u X i;have h7:=Bu (k9 h X i);rw [hal]at h7;have hXl:=Bu X;rw [hrl]at hXl;have has:=Oo h X i;by_cases hi6:i<8
            .have hlt:decide ((i:Int)<8)=ab:=aA;have hp:=rU i ag;have ga:=C4 (k9 h X i) i ag;have gx:=C4 X i ag;have qc:=vN (bS ((k9 h X i).getD i 0)+bS (X.getD i 0));rw [HI]at qc;have hse:(hQ (k9 h X i)).set i (bS ((k9 h X i).getD i 0+X.getD i 0))=hQ (k9 h X (i+1)):=by rw [has];unfold hQ;rw [List.map_set]
             refine zt ?_;exact xY
            .obtain rfl:i=8:=ag;have x0:au (((128*j:Nat):Int)+au (2*64))=((128*(j+1):Nat):Int):=by rw [show au (2*64)=((128:Nat):Int)from by decide,AQ ag ag];omega
             have hcs:k9 h X 8=fY i7 kH D (j+1):=by rw [I,O0,hX]
             rw [hcs];refine zy ?_;refine⟨⟨j+1,hc⟩,dt,?_⟩;dsimp only;refine bP [0,1,2,3] ?_ ?_
             ·(repeat'(first|exact trivial|refine aJ ?_ ?_|fail))<;>first|exact dh (by first|exact x0|exact x0.symm|fail)|rfl|fail
             .exact zo
    .obtain rfl:j=D.length/128:=ag;have hge:decide (((128*(D.length/128):Nat):Int)<(D.length:Int))=af:=aA;have hfin:jF h (8*8)=oJ i7 kH T:=by rw [hh,hD];exact ahx T
     rw [<-hfin];have hel:=Bu h;rw [u]at hel;refine xq ?_;conv=>whnf
     refine bp.weak (cl.virt 20 5 1 rfl) ?_;refine bT 8 (λi=> [(1,.i 64),(6,.sl 1 0 8 1 ab),(20,.sl 4 0 (8*i.1) 1 af),(21,.i (i.1:Int))]) (λi=> [ak T,dC 24 (hQ h),eJ gQ,ak D,aC 5 (jF h (8*i.1))]) 5 ?_ ?_
     .have hz:=ahY h;exact wE
     .rintro⟨i,hi7⟩;dsimp only;by_cases hi6:i<8
      .have hlt:decide ((i:Int)<8)=ab:=aA;have hp:=rU i ag;refine zt ?_;refine zc ?_;refine bT 8 (λm=> [(1,.i 64),(6,.sl 1 0 8 1 ab),(20,.sl 4 0 (8*i+m.1) 1 af),(21,.i (i:Int)),(22,.i (8-1-(m.1:Int)))]) (λm=> [ak T,dC 24 (hQ h),eJ gQ,ak D,aC 5 (jF h (8*i+m.1))]) 5 ?_ ?_
       .exact yH
       .rintro⟨m,hm⟩;dsimp only;have hol:=GP h (8*i+m);by_cases hm4:m<8
        .have hge2:decide ((8-1-(m:Int))>=0)=ab:=aA;have h8:au (8*(8-1-(m:Int)))=((8*(8-1-m):Nat):Int):=cp;have hp2:au (8-1-(m:Int)-1)=8-1-((m+1:Nat):Int):=cp;have hs:=ahW h i m hm4;have gx:=C4 h i ag;have qp:=f147 (8*(8-1-m)) ag;have hnz:=wb (n:=8*(8-1-m)) ag;have hsh:=To (h.getD i 0) (8*(8-1-m)) ag;have hm2:=GA (bS (bh (h.getD i 0) (8*(8-1-m))));rw [Zz]at hm2;rw [<-h8]at qp;obtain⟨Z,hZ⟩:=ax (jF h (8*i+m));rw [<-hZ]at hol hs|-;obtain⟨c,hc2⟩:=ax ((bh (h.getD i 0) (8*(8-1-m))).toUInt8);rw [<-hc2]at hs hm2;have hap4:(Z++ [c]).map SV.u8=aB ((8*i+m)*1) (aG 0 (Z.map SV.u8))++aB (1*1) (aG 0 [SV.u8 c]):=(Cd (o:=0) (n:=8*i+m) (E:=Z) (b:= [c]) ag rfl).symm;exact Xe
        .obtain rfl:m=8:=ag;refine zy ?_;refine xI ?_;rw [show 8*(i+1)=8*i+8 by omega];exact yH
      .obtain rfl:i=8:=ag;refine zy ?_;exact bE [0,4]
end
theorem aaG:aQ 93 [.u8 1] [] (.i 32) []:=by exact XD
theorem J7(T:List UInt8)(hT:T.length<100000000000000)(f:Bool):aM 94 [.u8 1,.sl 0 0 T.length 1 f] [ak T] (.sl 1 0 32 1 af) [aC 5 (gB T)]:=by have q:=ZJ T hT f;rw [show oI iD j9 T=gB T from rfl]at q;obtain⟨X,hX⟩:=ax (gB T);rw [<-hX]at q|-;refine aL (fn:=Tryz.f94) ?_;refine zp ?_;refine vv ?_;refine zW (aE [0] [af,ab] af q) ?_;exact jy
theorem aaH:aQ 93 [.u8 2] [] (.i 64) []:=by exact XD
theorem J8(T:List UInt8)(hT:T.length<100000000000000)(f:Bool):aM 94 [.u8 2,.sl 0 0 T.length 1 f] [ak T] (.sl 1 0 64 1 af) [aC 5 (gD T)]:=by have q:=ZK T hT f;rw [show oJ i7 kH T=gD T from rfl]at q;obtain⟨X,hX⟩:=ax (gD T);rw [<-hX]at q|-;refine aL (fn:=Tryz.f94) ?_;refine zp ?_;refine vw ?_;refine zW (aE [0] [af,ab] af q) ?_;exact jy
theorem GQ(Y:List UInt8)(n i:Nat):(Y++aK n 0).getD i 0=Y.getD i 0:=by
 rw [dk,dk];by_cases h:i<Y.length
 .rw [gP h]
 .rw [iR ag,dI (i:=i) (l:=Y) ag,List.getElem?_replicate];split<;>rfl
theorem DL{E b:List UInt8}{n m:Nat}(hn:n=E.length)(hm:m=b.length):(E++b).map SV.u8=aB (n*1) (aG 0 (E.map SV.u8))++aB (m*1) (aG 0 (b.map SV.u8)):=by subst hn;subst hm;rw [fS,fS,cq,cq,bW (l:=b.map SV.u8) A5,bW (l:=E.map SV.u8) A5,dU]
theorem aaJ(K:List UInt8)(O:K.length<=64)(w:UInt8)(f:Bool):aM 95 [.u8 1,.sl 0 0 K.length 1 f,.u8 w] [ak K] (.sl 1 0 64 1 af) [aC 5 (gM 64 K w)]:=by
 have hz0:0+K.length=K.length:=ig _;have hbk:aB (0*cM.sz) (aG 0 (dK 0 (SV.u8 0).cells))++aB (K.length*cM.sz) (aG 0 (SB.ro (fR SV.u8 K)).cells)=K.map SV.u8:=by
  show([]:List SV)++aB (K.length*1) (K.map SV.u8)=_
  simp
 have hlt:decide ((K.length:Int)>au (2*32))=af:=by rw [show au (2*32)=64 from by decide];simp;omega
 refine xf ?_;refine vv ?_;first|refine eV (by exact hlt) ?_|fail
 conv=>whnf
 have G:K.length+0=K.length:=rfl;refine fH (ι:={j:Nat//K.length+j<=64}) (λj=> [(0,.u8 1),(2,.u8 w),(7,.sl 1 0 (K.length+j.1) 1 af)]) (λj=> [ak K,aC 5 (K++aK j.1 0)]) (λ_=>2) (λj=>64-j.1) ⟨0,ag⟩ ?_ ?_
 .have hz:K++aK 0 0=K:=jz _;refine yL ?_;exact bL [0,2]
 .rintro⟨j,hj⟩;dsimp only;have hYs:K++aK (j+1) 0=(K++aK j 0)++ [0]:=I0;have hgt:∀i,(K++aK j 0).getD i 0=K.getD i 0:=λi=>GQ K j i
  obtain⟨V,hV⟩:=ax (K++aK j 0);have r:V.length=K.length+j:=I3;rw [<-hV]at hYs hgt|-;by_cases I:K.length+j<64
  .have hlt2:decide (((K.length+j:Nat):Int)<au (2*32))=ab:=by rw [show au (2*32)=64 from by decide];simp;omega
   have hap:=DL (E:=V) (b:= [0]) (n:=K.length+j) (m:=1) r.symm rfl;have hp:K.length+j+1=K.length+(j+1):=ag;conv=>whnf
   refine vv ?_;exact Iq
  .have hlt2:decide (((K.length+j:Nat):Int)<au (2*32))=af:=by rw [show au (2*32)=64 from by decide];simp;omega
   have F:K.length+j=64:=ag;rw [F]at r hlt2|-;conv=>whnf
   refine vv ?_;refine zc ?_;refine bT 64 (λi=> [(2,.u8 w),(7,.sl 1 0 64 1 af),(8,.i (i.1:Int))]) (λi=> [ak K,aC 5 (bR 64 i.1 (λi=>w^^^K.getD i 0) (λi=>V.getD i 0))]) 2 ?_ ?_
   .have hz:bR 64 0 (λi=>w^^^K.getD i 0) (λi=>V.getD i 0)=V:=Aj r;exact ED
   .rintro⟨i,hi⟩;dsimp only;have hf:=kG 64 i (λi=>w^^^K.getD i 0) (λi=>V.getD i 0);by_cases u:i<64
    .have hlt3:decide ((i:Int)<64)=ab:=aA;have hp:au ((i:Int)+1)=((i+1:Nat):Int):=cp;have hx:(bR 64 i (λi=>w^^^K.getD i 0) (λi=>V.getD i 0)).getD i 0^^^w=(λi=>w^^^K.getD i 0) i:=by rw [qe u,if_neg ag,hgt i,UInt8.xor_comm]
     have hs:=nx (f:=λi=>w^^^K.getD i 0) (g:=λi=>V.getD i 0) u hx;exact yN
    .obtain rfl:i=64:=ag;have hfin:bR 64 64 (λi=>w^^^K.getD i 0) (λi=>V.getD i 0)=gM 64 K w:=p9 ..;exact Iw
theorem aaL(K:List UInt8)(O:K.length<=128)(w:UInt8)(f:Bool):aM 95 [.u8 2,.sl 0 0 K.length 1 f,.u8 w] [ak K] (.sl 1 0 128 1 af) [aC 5 (gM 128 K w)]:=by
 have hz0:0+K.length=K.length:=ig _;have hbk:aB (0*cM.sz) (aG 0 (dK 0 (SV.u8 0).cells))++aB (K.length*cM.sz) (aG 0 (SB.ro (fR SV.u8 K)).cells)=K.map SV.u8:=by
  show([]:List SV)++aB (K.length*1) (K.map SV.u8)=_
  simp
 have hlt:decide ((K.length:Int)>au (2*64))=af:=by rw [show au (2*64)=128 from by decide];simp;omega
 refine xf ?_;refine vw ?_;first|refine eV (by exact hlt) ?_|fail
 conv=>whnf
 have G:K.length+0=K.length:=rfl;refine fH (ι:={j:Nat//K.length+j<=128}) (λj=> [(0,.u8 2),(2,.u8 w),(7,.sl 1 0 (K.length+j.1) 1 af)]) (λj=> [ak K,aC 5 (K++aK j.1 0)]) (λ_=>2) (λj=>128-j.1) ⟨0,ag⟩ ?_ ?_
 .have hz:K++aK 0 0=K:=jz _;refine yL ?_;exact bL [0,2]
 .rintro⟨j,hj⟩;dsimp only;have hYs:K++aK (j+1) 0=(K++aK j 0)++ [0]:=I0;have hgt:∀i,(K++aK j 0).getD i 0=K.getD i 0:=λi=>GQ K j i
  obtain⟨V,hV⟩:=ax (K++aK j 0);have r:V.length=K.length+j:=I3;rw [<-hV]at hYs hgt|-;by_cases I:K.length+j<128
  .have hlt2:decide (((K.length+j:Nat):Int)<au (2*64))=ab:=by rw [show au (2*64)=128 from by decide];simp;omega
   have hap:=DL (E:=V) (b:= [0]) (n:=K.length+j) (m:=1) r.symm rfl;have hp:K.length+j+1=K.length+(j+1):=ag;conv=>whnf
   refine vw ?_;exact Iq
  .have hlt2:decide (((K.length+j:Nat):Int)<au (2*64))=af:=by rw [show au (2*64)=128 from by decide];simp;omega
   have F:K.length+j=128:=ag;rw [F]at r hlt2|-;conv=>whnf
   refine vw ?_;refine zc ?_;refine bT 128 (λi=> [(2,.u8 w),(7,.sl 1 0 128 1 af),(8,.i (i.1:Int))]) (λi=> [ak K,aC 5 (bR 128 i.1 (λi=>w^^^K.getD i 0) (λi=>V.getD i 0))]) 2 ?_ ?_
   .have hz:bR 128 0 (λi=>w^^^K.getD i 0) (λi=>V.getD i 0)=V:=Aj r;exact ED
   .rintro⟨i,hi⟩;dsimp only;have hf:=kG 128 i (λi=>w^^^K.getD i 0) (λi=>V.getD i 0);by_cases u:i<128
    .have hlt3:decide ((i:Int)<128)=ab:=aA;have hp:au ((i:Int)+1)=((i+1:Nat):Int):=cp;have hx:(bR 128 i (λi=>w^^^K.getD i 0) (λi=>V.getD i 0)).getD i 0^^^w=(λi=>w^^^K.getD i 0) i:=by rw [qe u,if_neg ag,hgt i,UInt8.xor_comm]
     have hs:=nx (f:=λi=>w^^^K.getD i 0) (g:=λi=>V.getD i 0) u hx;exact yN
    .obtain rfl:i=128:=ag;have hfin:bR 128 128 (λi=>w^^^K.getD i 0) (λi=>V.getD i 0)=gM 128 K w:=p9 ..;exact Iw
attribute [local irreducible] gB gD
theorem aaI(K:List UInt8)(Z:64<K.length)(O:K.length<100000000000000)(w:UInt8)(f:Bool):aM 95 [.u8 1,.sl 0 0 K.length 1 f,.u8 w] [ak K] (.sl 1 0 64 1 af) [aC 5 (gM 64 (gB K) w)]:=by
 have hz0:0+K.length=K.length:=ig _;have hbk:aB (0*cM.sz) (aG 0 (dK 0 (SV.u8 0).cells))++aB (K.length*cM.sz) (aG 0 (SB.ro (fR SV.u8 K)).cells)=K.map SV.u8:=by
  show([]:List SV)++aB (K.length*1) (K.map SV.u8)=_
  simp
 have hlt:decide ((K.length:Int)>au (2*32))=ab:=by rw [show au (2*32)=64 from by decide];simp;omega
 have I:=J7 K O af;have u:=vp K;obtain⟨Y,hY⟩:=ax (gB K);rw [<-hY]at I u|-;refine xf ?_;refine vv ?_;first|refine du (by exact hlt) ?_|fail
 conv=>whnf
 refine zW (aE [2] [af,ab] af I) ?_;have F:Y.length+0=32:=u;refine fH (ι:={j:Nat//Y.length+j<=64}) (λj=> [(0,.u8 1),(2,.u8 w),(7,.sl 1 0 (Y.length+j.1) 1 af)]) (λj=> [ak K,aC 5 (Y++aK j.1 0)]) (λ_=>2) (λj=>64-j.1) ⟨0,ag⟩ ?_ ?_
 .have hz:Y++aK 0 0=Y:=jz _;refine yL ?_;refine bP [0,3] ?_ ?_
  ·(repeat'(first|exact trivial|refine aJ ?_ ?_|fail))<;>first|rfl|exact iQ rfl az (by exact F)|fail
  .exact zo
 .rintro⟨j,hj⟩;dsimp only;have hYs:Y++aK (j+1) 0=(Y++aK j 0)++ [0]:=I0;have hgt:∀i,(Y++aK j 0).getD i 0=Y.getD i 0:=λi=>GQ Y j i
  obtain⟨V,hV⟩:=ax (Y++aK j 0);have r:V.length=Y.length+j:=I3;rw [<-hV]at hYs hgt|-;by_cases W:Y.length+j<64
  .have hlt2:decide (((Y.length+j:Nat):Int)<au (2*32))=ab:=by rw [show au (2*32)=64 from by decide];simp;omega
   have hap:=DL (E:=V) (b:= [0]) (n:=Y.length+j) (m:=1) r.symm rfl;have hp:Y.length+j+1=Y.length+(j+1):=ag;conv=>whnf
   refine vv ?_;exact Iq
  .have hlt2:decide (((Y.length+j:Nat):Int)<au (2*32))=af:=by rw [show au (2*32)=64 from by decide];simp;omega
   have U:Y.length+j=64:=ag;rw [U]at r hlt2|-;conv=>whnf
   refine vv ?_;refine zc ?_;refine bT 64 (λi=> [(2,.u8 w),(7,.sl 1 0 64 1 af),(8,.i (i.1:Int))]) (λi=> [ak K,aC 5 (bR 64 i.1 (λi=>w^^^Y.getD i 0) (λi=>V.getD i 0))]) 2 ?_ ?_
   .have hz:bR 64 0 (λi=>w^^^Y.getD i 0) (λi=>V.getD i 0)=V:=Aj r;exact ED
   .rintro⟨i,hi⟩;dsimp only;have hf:=kG 64 i (λi=>w^^^Y.getD i 0) (λi=>V.getD i 0);by_cases G:i<64
    .have hlt3:decide ((i:Int)<64)=ab:=aA;have hp:au ((i:Int)+1)=((i+1:Nat):Int):=cp;have hx:(bR 64 i (λi=>w^^^Y.getD i 0) (λi=>V.getD i 0)).getD i 0^^^w=(λi=>w^^^Y.getD i 0) i:=by rw [qe G,if_neg ag,hgt i,UInt8.xor_comm]
     have hs:=nx (f:=λi=>w^^^Y.getD i 0) (g:=λi=>V.getD i 0) G hx;exact yN
    .obtain rfl:i=64:=ag;have hfin:bR 64 64 (λi=>w^^^Y.getD i 0) (λi=>V.getD i 0)=gM 64 Y w:=p9 ..;exact Iw
theorem PT(K:List UInt8)(r:K.length<100000000000000)(w:UInt8)(f:Bool):aM 95 [.u8 1,.sl 0 0 K.length 1 f,.u8 w] [ak K] (.sl 1 0 64 1 af) [aC 5 (gM 64 (kK K) w)]:=by
 by_cases hk:64<K.length
 .rw [show kK K=gB K by unfold kK;rw [if_pos hk]];exact aaI K hk r w f
 .rw [show kK K=K by unfold kK;rw [if_neg hk]];exact aaJ K ag w f
theorem aaK(K:List UInt8)(Z:128<K.length)(O:K.length<100000000000000)(w:UInt8)(f:Bool):aM 95 [.u8 2,.sl 0 0 K.length 1 f,.u8 w] [ak K] (.sl 1 0 128 1 af) [aC 5 (gM 128 (gD K) w)]:=by
 have hz0:0+K.length=K.length:=ig _;have hbk:aB (0*cM.sz) (aG 0 (dK 0 (SV.u8 0).cells))++aB (K.length*cM.sz) (aG 0 (SB.ro (fR SV.u8 K)).cells)=K.map SV.u8:=by
  show([]:List SV)++aB (K.length*1) (K.map SV.u8)=_
  simp
 have hlt:decide ((K.length:Int)>au (2*64))=ab:=by rw [show au (2*64)=128 from by decide];simp;omega
 have I:=J8 K O af;have u:=vq K;obtain⟨Y,hY⟩:=ax (gD K);rw [<-hY]at I u|-;refine xf ?_;refine vw ?_;first|refine du (by exact hlt) ?_|fail
 conv=>whnf
 refine zW (aE [2] [af,ab] af I) ?_;have F:Y.length+0=64:=u;refine fH (ι:={j:Nat//Y.length+j<=128}) (λj=> [(0,.u8 2),(2,.u8 w),(7,.sl 1 0 (Y.length+j.1) 1 af)]) (λj=> [ak K,aC 5 (Y++aK j.1 0)]) (λ_=>2) (λj=>128-j.1) ⟨0,ag⟩ ?_ ?_
 .have hz:Y++aK 0 0=Y:=jz _;refine yL ?_;refine bP [0,3] ?_ ?_
  ·(repeat'(first|exact trivial|refine aJ ?_ ?_|fail))<;>first|rfl|exact iQ rfl az (by exact F)|fail
  .exact zo
 .rintro⟨j,hj⟩;dsimp only;have hYs:Y++aK (j+1) 0=(Y++aK j 0)++ [0]:=I0;have hgt:∀i,(Y++aK j 0).getD i 0=Y.getD i 0:=λi=>GQ Y j i
  obtain⟨V,hV⟩:=ax (Y++aK j 0);have r:V.length=Y.length+j:=I3;rw [<-hV]at hYs hgt|-;by_cases W:Y.length+j<128
  .have hlt2:decide (((Y.length+j:Nat):Int)<au (2*64))=ab:=by rw [show au (2*64)=128 from by decide];simp;omega
   have hap:=DL (E:=V) (b:= [0]) (n:=Y.length+j) (m:=1) r.symm rfl;have hp:Y.length+j+1=Y.length+(j+1):=ag;conv=>whnf
   refine vw ?_;exact Iq
  .have hlt2:decide (((Y.length+j:Nat):Int)<au (2*64))=af:=by rw [show au (2*64)=128 from by decide];simp;omega
   have U:Y.length+j=128:=ag;rw [U]at r hlt2|-;conv=>whnf
   refine vw ?_;refine zc ?_;refine bT 128 (λi=> [(2,.u8 w),(7,.sl 1 0 128 1 af),(8,.i (i.1:Int))]) (λi=> [ak K,aC 5 (bR 128 i.1 (λi=>w^^^Y.getD i 0) (λi=>V.getD i 0))]) 2 ?_ ?_
   .have hz:bR 128 0 (λi=>w^^^Y.getD i 0) (λi=>V.getD i 0)=V:=Aj r;exact ED
   .rintro⟨i,hi⟩;dsimp only;have hf:=kG 128 i (λi=>w^^^Y.getD i 0) (λi=>V.getD i 0);by_cases G:i<128
    .have hlt3:decide ((i:Int)<128)=ab:=aA;have hp:au ((i:Int)+1)=((i+1:Nat):Int):=cp;have hx:(bR 128 i (λi=>w^^^Y.getD i 0) (λi=>V.getD i 0)).getD i 0^^^w=(λi=>w^^^Y.getD i 0) i:=by rw [qe G,if_neg ag,hgt i,UInt8.xor_comm]
     have hs:=nx (f:=λi=>w^^^Y.getD i 0) (g:=λi=>V.getD i 0) G hx;exact yN
    .obtain rfl:i=128:=ag;have hfin:bR 128 128 (λi=>w^^^Y.getD i 0) (λi=>V.getD i 0)=gM 128 Y w:=p9 ..;exact Iw
theorem PU(K:List UInt8)(r:K.length<100000000000000)(w:UInt8)(f:Bool):aM 95 [.u8 2,.sl 0 0 K.length 1 f,.u8 w] [ak K] (.sl 1 0 128 1 af) [aC 5 (gM 128 (kL K) w)]:=by
 by_cases hk:128<K.length
 .rw [show kL K=gD K by unfold kL;rw [if_pos hk]];exact aaK K hk r w f
 .rw [show kL K=K by unfold kL;rw [if_neg hk]];exact aaL K ag w f
end Go.Sh
namespace Go.Sh
open Go.Proofs
theorem GZ{E b:List UInt8}{n m:Nat}{B:SB}(hB:B.cells=b.map SV.u8)(hn:n=E.length)(hm:m=b.length):aB (n*1) (aG 0 (E.map SV.u8))++aB (m*1) (aG 0 B.cells)=(E++b).map SV.u8:=by rw [hB];exact(DL hn hm).symm
attribute [local irreducible] gB gD gM kK kL
theorem FO(K T:List UInt8)(Z:K.length<100000000000000)(hT:T.length<10000000000000)(O ft:Bool):aM 65 [.u8 1,.sl 0 0 K.length 1 O,.sl 1 0 T.length 1 ft] [ak K,ak T] (.sl 2 0 32 1 af) [aC 5 (cS K T)]:=by
 have q1:=PT K Z 54 O;have q2:=PT K Z 92 O;have U:=vZ 64 (kK K) 54;have l2:=vZ 64 (kK K) 92;obtain⟨F,r⟩:=ax (gM 64 (kK K) 54);obtain⟨G,u⟩:=ax (gM 64 (kK K) 92);rw [<-r]at q1 U;rw [<-u]at q2 l2;have q3:=J7 (F++T) qL af;have l3:=vp (F++T);have h3:(F++T).length=64+T.length:=by rw [aW,U]
 rw [h3]at q3;have hm:cS K T=gB (G++gB (F++T)):=by unfold cS;rw [r,u]
 rw [hm];obtain⟨I,V⟩:=ax (gB (F++T));rw [<-V]at q3 l3|-;have q4:=J7 (G++I) qL af;have h4:(G++I).length=64+32:=by rw [aW,l2,l3]
 rw [h4]at q4;have l4:=vp (G++I);obtain⟨W,hW⟩:=ax (gB (G++I));rw [<-hW]at q4 l4|-;have a1:=GZ (E:=F) (b:=T) (B:= .ro (T.map .u8)) rfl U.symm rfl;have a2:=GZ (E:=G) (b:=I) (B:= .row 5 (I.map .u8)) rfl l2.symm l3.symm;clear r u V hW hm;refine aL (fn:=Tryz.f65) ?_;refine zp ?_;refine vv ?_;exact XG
theorem JY(K T:List UInt8)(Z:K.length<100000000000000)(hT:T.length<10000000000000)(O ft:Bool):aM 65 [.u8 2,.sl 0 0 K.length 1 O,.sl 1 0 T.length 1 ft] [ak K,ak T] (.sl 2 0 64 1 af) [aC 5 (dF K T)]:=by
 have q1:=PU K Z 54 O;have q2:=PU K Z 92 O;have U:=vZ 128 (kL K) 54;have l2:=vZ 128 (kL K) 92;obtain⟨F,r⟩:=ax (gM 128 (kL K) 54);obtain⟨G,u⟩:=ax (gM 128 (kL K) 92);rw [<-r]at q1 U;rw [<-u]at q2 l2;have q3:=J8 (F++T) qL af;have l3:=vq (F++T);have h3:(F++T).length=128+T.length:=by rw [aW,U]
 rw [h3]at q3;have hm:dF K T=gD (G++gD (F++T)):=by unfold dF;rw [r,u]
 rw [hm];obtain⟨I,V⟩:=ax (gD (F++T));rw [<-V]at q3 l3|-;have q4:=J8 (G++I) qL af;have h4:(G++I).length=128+64:=by rw [aW,l2,l3]
 rw [h4]at q4;have l4:=vq (G++I);obtain⟨W,hW⟩:=ax (gD (G++I));rw [<-hW]at q4 l4|-;have a1:=GZ (E:=F) (b:=T) (B:= .ro (T.map .u8)) rfl U.symm rfl;have a2:=GZ (E:=G) (b:=I) (B:= .row 5 (I.map .u8)) rfl l2.symm l3.symm;clear r u V hW hm;refine aL (fn:=Tryz.f65) ?_;refine zp ?_;refine vw ?_;exact XG
end Go.Sh
namespace Go.Sh
open Go.Proofs
def JS:Nat->SV
 |0=> .slnil
 |_+1=> .sl 3 0 32 1 af
def JQ(K I:List UInt8):Nat->Option SB
 |0=>ah
 |i+1=>aC 5 (mE K I (i+1))
section
attribute [local irreducible] cS mE fD
theorem aam(K I:List UInt8)(hK:K.length<100000000000000)(hI:I.length<1000000000000)(n:Nat)(h7:1<=n)(hn:n<=8160)(U Z:Bool):aM 64 [.u8 1,.sl 0 0 K.length 1 U,.sl 1 0 I.length 1 Z,.i (n:Int)] [ak K,ak I] (.sl 2 0 n 1 af) [aC 5 (fD K I ((n+(32-1))/32))]:=by
 have e1:decide ((n:Int)<1)=af:=aA;have e2:decide ((n:Int)>au (255*32))=af:=by simp [eI];omega
 obtain⟨m,hm⟩:=ax ((n+(32-1))/32);refine WW ?_;refine vv ?_;refine Ic ?_;refine bp.weak (cl.virt 9 5 1 rfl) ?_;refine bT m (λi=> [(0,.u8 1),(1,.sl 0 0 K.length 1 U),(2,.sl 1 0 I.length 1 Z),(3,.i n),(9,.sl 2 0 (32*i.1) 1 af),(10,JS i.1),(11,.i ((i.1+1:Nat):Int))]) (λi=> [ak K,ak I,aC 5 (fD K I i.1),JQ K I i.1]) 4 ?_ ?_
 .have hz:=Py K I;exact Ix
 .rintro⟨i,hi⟩;dsimp only;have W:=pY K I i;have hos:=Pw K I i;have htl:=uJ K I i;have h9:=FI K I i;have hp:au (((i+1:Nat):Int)+1)=((i+1+1:Nat):Int):=cp;by_cases h6:i<m
  .have hlt:decide (((32*i:Nat):Int)<(n:Int))=ab:=aA;obtain⟨O,hO⟩:=ax (fD K I i);rw [<-hO]at W hos|-;rcases i with _|i
   .have q:=FO K (I++ [dg ((1:Nat):Int)]) hK aA U af;rw [<-PA]at q;have F:(I++ [dg ((1:Nat):Int)]).length=I.length+1:=aq;rw [F]at q;obtain⟨T,hT⟩:=ax (mE K I 1);rw [<-hT]at q;have V:T.length=32:=by rw [hT];exact uJ K I 0
    have hap:(O++T).map SV.u8=aB (32*0*1) (aG 0 (O.map SV.u8))++aB (32*1) (aG 0 (T.map SV.u8)):=by rw [cq,cq,bW (l:=O.map SV.u8) gX,bW (l:=T.map SV.u8) gX,dU]
    have hz0:0+I.length=I.length:=ig _;have hbk:aB ((0+I.length)*cM.sz) (aG 0 (aB (0*cM.sz) (aG 0 (dK 0 (SV.u8 0).cells))++aB (I.length*cM.sz) (aG 0 (SB.ro (fR SV.u8 I)).cells)))++aB (1*cM.sz) (aG 0 (SB.row 5 (bN (dK 1 (SV.u8 0).cells) (0*cM.sz) (SV.u8 (dg ((0+1:Nat):Int))))).cells)=(I++ [dg ((1:Nat):Int)]).map SV.u8:=by
     show aB ((0+I.length)*1) (([]:List SV)++aB (I.length*1) (I.map SV.u8))++ [SV.u8 (dg ((1:Nat):Int))]=_
     simp
    refine WQ ?_;unfold JS JQ;dsimp only;rw [<-hT];exact bL [0,1,9,8]
   .obtain⟨u,r⟩:=ax (mE K I (i+1));have G:=uJ K I i;rw [<-r]at G;have q:=FO K (u++I++ [dg ((i+1+1:Nat):Int)]) hK aA U af;have F:(u++I++ [dg ((i+1+1:Nat):Int)]).length=32+I.length+1:=aA;rw [F,r,<-FI,<-r]at q;obtain⟨T,hT⟩:=ax (mE K I (i+1+1));rw [<-hT]at q;have V:T.length=32:=by rw [hT];exact uJ K I (i+1)
    have hap:(O++T).map SV.u8=aB (32*(i+1)*1) (aG 0 (O.map SV.u8))++aB (32*1) (aG 0 (T.map SV.u8)):=by rw [cq,cq,bW (l:=O.map SV.u8) gX,bW (l:=T.map SV.u8) gX,dU]
    have h8:32*(i+1+1)=32*(i+1)+32:=ag;unfold JS JQ;dsimp only;rw [<-r];have hz0:0+32+I.length=32+I.length:=ag;have hbk:aB ((0+32+I.length)*cM.sz) (aG 0 (aB ((0+32)*cM.sz) (aG 0 (aB (0*cM.sz) (aG 0 (dK 0 (SV.u8 0).cells))++aB (32*cM.sz) (aG 0 (SB.row 5 (fR SV.u8 u)).cells)))++aB (I.length*cM.sz) (aG 0 (SB.ro (fR SV.u8 I)).cells)))++aB (1*cM.sz) (aG 0 (SB.row 5 (bN (dK 1 (SV.u8 0).cells) (0*cM.sz) (SV.u8 (dg ((i+1+1:Nat):Int))))).cells)=(u++I++ [dg ((i+1+1:Nat):Int)]).map SV.u8:=by
     show aB ((0+32+I.length)*1) (aB ((0+32)*1) (([]:List SV)++aB (32*1) (u.map SV.u8))++aB (I.length*1) (I.map SV.u8))++ [SV.u8 (dg ((i+1+1:Nat):Int))]=_
     rw [jA,bW (l:=u.map SV.u8) gX,bW (l:=u.map SV.u8) gX,bW (l:=I.map SV.u8) gX,bW (by rw [aW,dm,dm];omega),dU,dU];rfl
    refine zt ?_;refine zl ?_;exact Wt
  .obtain rfl:i=m:=ag;have hlt:decide (((32*i:Nat):Int)<(n:Int))=af:=aA;rcases i with _|i
   .omega
   .refine yF ?_;refine zI ?_;exact kU
end
def JT:Nat->SV
 |0=> .slnil
 |_+1=> .sl 3 0 64 1 af
def JR(K I:List UInt8):Nat->Option SB
 |0=>ah
 |i+1=>aC 5 (mG K I (i+1))
section
attribute [local irreducible] dF mG fZ
theorem aan(K I:List UInt8)(hK:K.length<100000000000000)(hI:I.length<1000000000000)(n:Nat)(h7:1<=n)(hn:n<=16320)(U Z:Bool):aM 64 [.u8 2,.sl 0 0 K.length 1 U,.sl 1 0 I.length 1 Z,.i (n:Int)] [ak K,ak I] (.sl 2 0 n 1 af) [aC 5 (fZ K I ((n+(64-1))/64))]:=by
 have e1:decide ((n:Int)<1)=af:=aA;have e2:decide ((n:Int)>au (255*64))=af:=by simp [eI];omega
 obtain⟨m,hm⟩:=ax ((n+(64-1))/64);refine WW ?_;refine vw ?_;refine Ic ?_;refine bp.weak (cl.virt 9 5 1 rfl) ?_;refine bT m (λi=> [(0,.u8 2),(1,.sl 0 0 K.length 1 U),(2,.sl 1 0 I.length 1 Z),(3,.i n),(9,.sl 2 0 (64*i.1) 1 af),(10,JT i.1),(11,.i ((i.1+1:Nat):Int))]) (λi=> [ak K,ak I,aC 5 (fZ K I i.1),JR K I i.1]) 4 ?_ ?_
 .have hz:=Pz K I;exact Ix
 .rintro⟨i,hi⟩;dsimp only;have W:=tz K I i;have hos:=Px K I i;have htl:=uK K I i;have h9:=FJ K I i;have hp:au (((i+1:Nat):Int)+1)=((i+1+1:Nat):Int):=cp;by_cases h6:i<m
  .have hlt:decide (((64*i:Nat):Int)<(n:Int))=ab:=aA;obtain⟨O,hO⟩:=ax (fZ K I i);rw [<-hO]at W hos|-;rcases i with _|i
   .have q:=JY K (I++ [dg ((1:Nat):Int)]) hK aA U af;rw [<-PB]at q;have F:(I++ [dg ((1:Nat):Int)]).length=I.length+1:=aq;rw [F]at q;obtain⟨T,hT⟩:=ax (mG K I 1);rw [<-hT]at q;have V:T.length=64:=by rw [hT];exact uK K I 0
    have hap:(O++T).map SV.u8=aB (64*0*1) (aG 0 (O.map SV.u8))++aB (64*1) (aG 0 (T.map SV.u8)):=by rw [cq,cq,bW (l:=O.map SV.u8) gX,bW (l:=T.map SV.u8) gX,dU]
    have hz0:0+I.length=I.length:=ig _;have hbk:aB ((0+I.length)*cM.sz) (aG 0 (aB (0*cM.sz) (aG 0 (dK 0 (SV.u8 0).cells))++aB (I.length*cM.sz) (aG 0 (SB.ro (fR SV.u8 I)).cells)))++aB (1*cM.sz) (aG 0 (SB.row 5 (bN (dK 1 (SV.u8 0).cells) (0*cM.sz) (SV.u8 (dg ((0+1:Nat):Int))))).cells)=(I++ [dg ((1:Nat):Int)]).map SV.u8:=by
     show aB ((0+I.length)*1) (([]:List SV)++aB (I.length*1) (I.map SV.u8))++ [SV.u8 (dg ((1:Nat):Int))]=_
     simp
    refine WQ ?_;unfold JT JR;dsimp only;rw [<-hT];exact bL [0,1,9,8]
   .obtain⟨u,r⟩:=ax (mG K I (i+1));have G:=uK K I i;rw [<-r]at G;have q:=JY K (u++I++ [dg ((i+1+1:Nat):Int)]) hK aA U af;have F:(u++I++ [dg ((i+1+1:Nat):Int)]).length=64+I.length+1:=aA;rw [F,r,<-FJ,<-r]at q;obtain⟨T,hT⟩:=ax (mG K I (i+1+1));rw [<-hT]at q;have V:T.length=64:=by rw [hT];exact uK K I (i+1)
    have hap:(O++T).map SV.u8=aB (64*(i+1)*1) (aG 0 (O.map SV.u8))++aB (64*1) (aG 0 (T.map SV.u8)):=by rw [cq,cq,bW (l:=O.map SV.u8) gX,bW (l:=T.map SV.u8) gX,dU]
    have h8:64*(i+1+1)=64*(i+1)+64:=ag;unfold JT JR;dsimp only;rw [<-r];have hz0:0+64+I.length=64+I.length:=ag;have hbk:aB ((0+64+I.length)*cM.sz) (aG 0 (aB ((0+64)*cM.sz) (aG 0 (aB (0*cM.sz) (aG 0 (dK 0 (SV.u8 0).cells))++aB (64*cM.sz) (aG 0 (SB.row 5 (fR SV.u8 u)).cells)))++aB (I.length*cM.sz) (aG 0 (SB.ro (fR SV.u8 I)).cells)))++aB (1*cM.sz) (aG 0 (SB.row 5 (bN (dK 1 (SV.u8 0).cells) (0*cM.sz) (SV.u8 (dg ((i+1+1:Nat):Int))))).cells)=(u++I++ [dg ((i+1+1:Nat):Int)]).map SV.u8:=by
     show aB ((0+64+I.length)*1) (aB ((0+64)*1) (([]:List SV)++aB (64*1) (u.map SV.u8))++aB (I.length*1) (I.map SV.u8))++ [SV.u8 (dg ((i+1+1:Nat):Int))]=_
     rw [jA,bW (l:=u.map SV.u8) gX,bW (l:=u.map SV.u8) gX,bW (l:=I.map SV.u8) gX,bW (by rw [aW,dm,dm];omega),dU,dU];rfl
    refine zt ?_;refine zl ?_;exact Wt
  .obtain rfl:i=m:=ag;have hlt:decide (((64*i:Nat):Int)<(n:Int))=af:=aA;rcases i with _|i
   .omega
   .refine yF ?_;refine zI ?_;exact kU
end
theorem f74(c:UInt64)(S:List UInt8)(hS:S.length=12)(f:Bool):aM 59 [.sl 0 0 12 1 f,.u64 c] [ak S] (.sl 1 0 12 1 af) [aC 5 (bf S c)]:=by
 obtain⟨F,a1,a2,G,I,O,U,V,W,Z,r,u,rfl⟩:=FH hS;have hap:(bf [F,a1,a2,G,I,O,U,V,W,Z,r,u] c).map SV.u8= [F^^^(gR c 11%256).toUInt8,a1^^^(gR c 10%256).toUInt8,a2^^^(gR c 9%256).toUInt8,G^^^(gR c 8%256).toUInt8,I^^^(gR c 7%256).toUInt8,O^^^(gR c 6%256).toUInt8,U^^^(gR c 5%256).toUInt8,V^^^(gR c 4%256).toUInt8,W^^^(gR c 3%256).toUInt8,Z^^^(gR c 2%256).toUInt8,r^^^(gR c 1%256).toUInt8,u^^^(gR c 0%256).toUInt8].map SV.u8:=by rw [nQ c 7 aw,nQ c 6 aw,nQ c 5 aw,nQ c 4 aw,nQ c 3 aw,nQ c 2 aw,nQ c 1 aw,nQ c 0 aw,Fj c 8 aw,Fj c 9 aw,Fj c 10 aw,Fj c 11 aw,vE,vE,vE,vE];rfl
 have hlt:12+0=12:=rfl;refine aL (fn:=Tryz.f59) ?_;refine zM ?_;refine zW (pC dw fq bD 13) ?_;refine zl ?_;exact bE [0,2]
theorem J2:aQ 26 [.u16 1] [] (.sl 0 0 5 1 ab) [ao 3 [.i 1,.i 48,.i 16,.i 10,.i 32]]:=by exact yI
theorem J3:aQ 26 [.u16 2] [] (.sl 0 0 5 1 ab) [ao 3 [.i 1,.i 48,.i 16,.i 8,.i 32]]:=by exact yI
theorem J4:aQ 26 [.u16 3] [] (.sl 0 0 5 1 ab) [ao 3 [.i 1,.i 48,.i 16,.i 4,.i 32]]:=by exact yI
theorem J5:aQ 26 [.u16 4] [] (.sl 0 0 5 1 ab) [ao 3 [.i 1,.i 16,.i 16,.i 16,.i 32]]:=by exact yI
theorem J6:aQ 26 [.u16 5] [] (.sl 0 0 5 1 ab) [ao 3 [.i 2,.i 32,.i 32,.i 16,.i 64]]:=by exact yI
theorem So{p q:UInt64×UInt64}(h:∀n,n<128->pb p n=pb q n):p=q:=by
 have h1:p.1=q.1:=Fc λi hi=>by
  have:=h i ag;unfold pb at this
  rwa [if_pos hi,if_pos hi]at this
 have h2:p.2=q.2:=Fc λi hi=>by
  have:=h (64+i) ag;unfold pb at this
  rwa [if_neg ag,if_neg ag,show 64+i-64=i by omega]at this
 exact Prod.ext h1 h2
theorem afo(o:UInt64×UInt64):lh (pj o)=o:=So λn hn=>by rw [B6 _ n hn,OQ _ n hn]
def Eu(y:List UInt8)(c:Nat->UInt8):List UInt8:=(cQ 16).map λj=>y.getD j 0^^^c j
theorem Yp(x y:UInt8)(i:Nat):ns (x^^^y) i=(ns x i^^ns y i):=by unfold ns;rw [UInt8.toNat_xor,Nat.testBit_xor]
theorem afp(y b:List UInt8)(k:Nat):lh (Eu y λj=>b.getD (16*k+j) 0)=((lh y).1^^^(lh (j7 b k)).1,(lh y).2^^^(lh (j7 b k)).2):=So λn hn=>by rw [B6 _ n hn,Sn,B6 _ n hn,B6 _ n hn];unfold cb Eu j7;rw [tW ag,tW ag,Yp]
theorem akL(h b:List UInt8)(k:Nat):vW (Eu (pj (yS h b k)) λj=>b.getD (16*k+j) 0) h=pj (yS h b (k+1)):=by unfold vW;rw [afp,afo,Wa]
theorem aaY{α:Type}{n i:Nat}{f g:Nat->α}(h:∀j,i<=j->j<n->f j=g j):bR n i f g=bR n n f g:=by
 unfold bR;apply qQ;intro j hj;have hj:j<n:=ua;by_cases h1:j<i
 .rw [if_pos h1,if_pos hj]
 .rw [if_neg h1,if_pos hj,h j ag hj]
theorem Ys:pj (0,0)=aK 16 0:=by decide+kernel
attribute [local irreducible] yS j7 kR pj
theorem f63(I fb:Bool)(h b:List UInt8)(W:h.length=16)(hb:b.length<100000000000000):aM 127 [.sl 0 0 16 1 I,.sl 1 0 b.length 1 fb] [ak h,ak b] (.sl 2 0 16 1 ab) [aC 5 (rC h b)]:=by
 refine aL (fn:=Tryz.f127) ?_;refine zu ?_;refine vu ?_;refine bT ((b.length+15)/16) (λk=> [(0,.sl 0 0 16 1 I),(1,.sl 1 0 b.length 1 fb),(5,.sl 2 0 16 1 ab),(6,.i ((16*k.1:Nat):Int))]) (λk=> [ak h,ak b,aC 5 (pj (yS h b k.1))]) 3 ?_ ?_
 .have hz:pj (yS h b 0)=aK 16 0:=by rw [Wb];exact Ys
  exact xA
 .rintro⟨k,hk⟩;obtain⟨Y,hY⟩:=ax (pj (yS h b k));have O:Y.length=16:=by rw [hY];unfold pj;exact od
  have G:=akL h b k;dsimp only;rw [<-hY]at G|-;by_cases hk2:16*k<b.length
  .have hlt:decide (((16*k:Nat):Int)<(b.length:Int))=ab:=aA;have r:au (((16*k:Nat):Int)+16)=((16*(k+1):Nat):Int):=cp;refine zt ?_;refine fH (ι:={j:Nat//j<=16/\16*k+j<=b.length}) (λj=> [(0,.sl 0 0 16 1 I),(1,.sl 1 0 b.length 1 fb),(5,.sl 2 0 16 1 ab),(6,.i ((16*k:Nat):Int)),(7,.i (j.1:Int))]) (λj=> [ak h,ak b,aC 5 (bR 16 j.1 (λj=>Y.getD j 0^^^b.getD (16*k+j) 0) (λj=>Y.getD j 0))]) (λ_=>3) (λj=>16-j.1) ⟨0,ag,ag⟩ ?_ ?_
   .have hz:bR 16 0 (λj=>Y.getD j 0^^^b.getD (16*k+j) 0) (λj=>Y.getD j 0)=Y:=Aj O;exact xA
   .rintro⟨j,hj,Z⟩;have hf:=kG 16 j (λj=>Y.getD j 0^^^b.getD (16*k+j) 0) (λj=>Y.getD j 0);have hkj:au (((16*k:Nat):Int)+(j:Int))=((16*k+j:Nat):Int):=cp;dsimp only;by_cases hc:j<16/\16*k+j<b.length
    .obtain⟨F,V⟩:=hc;have hl1:decide ((j:Int)<16)=ab:=aA;have hl2:decide (au (((16*k:Nat):Int)+(j:Int))<(b.length:Int))=ab:=by rw [hkj];simp;omega
     have hp1:=AU j ag;have hx:(bR 16 j (λj=>Y.getD j 0^^^b.getD (16*k+j) 0) (λj=>Y.getD j 0)).getD j 0^^^b.getD (16*k+j) 0=Y.getD j 0^^^b.getD (16*k+j) 0:=by rw [qe F,if_neg (by omega)]
     have hst:=nx (f:=λj=>Y.getD j 0^^^b.getD (16*k+j) 0) (g:=λj=>Y.getD j 0) F hx;conv=>whnf
     repeat(first|refine zW (bl hl1) ?_|refine zW (iN hl1) ?_|refine zW (bl hl2) ?_|refine zH (nC (i:=j) aT) ?_|refine zH (cU (i:=j) aT ag) ?_|refine zH (bg (m:=j) az) ?_|refine zH (cU (i:=16*k+j) aT ag) ?_|refine zH (bg (m:=16*k+j) aT) ?_|refine zN ⟨CK,by first|(simp only [hf,cM,dm];omega)|fail⟩ ?_|refine aS ?_)
     refine⟨⟨j+1,ag,ag⟩,dt,?_⟩;exact xA
    .have U:bR 16 j (λj=>Y.getD j 0^^^b.getD (16*k+j) 0) (λj=>Y.getD j 0)=Eu Y λj=>b.getD (16*k+j) 0:=by
      rw [aaY (λq h1 h2=>?_),p9]
      .rfl
      .have:b.getD (16*k+q) 0=0:=by rw [dk,dI ag];rfl
       rw [this,vE]
     have u:=f97 ab I (Eu Y λj=>b.getD (16*k+j) 0) h od W;rw [G]at u;rw [U];by_cases F:j<16
     .have hl1:decide ((j:Int)<16)=ab:=aA;have hl2:decide (au (((16*k:Nat):Int)+(j:Int))<(b.length:Int))=af:=by rw [hkj];simp;omega
      conv=>whnf
      repeat(first|refine zW (bl hl1) ?_|refine zW (iN hl1) ?_|refine zW (bC hl2) ?_)
      refine zW (cP [2,0] u) ?_;refine yG ?_;refine bP [0,1,3] ?_ ?_
      ·(repeat'(first|exact trivial|refine aJ ?_ ?_|fail))<;>first|exact dh (by first|exact r|exact r.symm|fail)|rfl|fail
      .exact zo
     .have hl1:decide ((j:Int)<16)=af:=aA;conv=>whnf
      repeat(first|refine zW (bC hl1) ?_|refine zW (cO hl1) ?_|refine zf ?_)
      refine zW (cP [2,0] u) ?_;refine yG ?_;refine bP [0,1,3] ?_ ?_
      ·(repeat'(first|exact trivial|refine aJ ?_ ?_|fail))<;>first|exact dh (by first|exact r|exact r.symm|fail)|rfl|fail
      .exact zo
  .have hlt:decide (((16*k:Nat):Int)<(b.length:Int))=af:=aA;have hke:k=(b.length+15)/16:=ag;have hfin:Y=rC h b:=by rw [hY,hke];rfl
   refine yF ?_;conv=>whnf
   exact kU
end Go.Sh
namespace Go.Sh
open Go.Proofs
theorem agJ(n k:Nat)(h:k<=kP n):((n+k)%16=0↔k=kP n):=by unfold kP at*;omega
theorem agI(b:List UInt8):jh b=b++aK (kP b.length) 0:=rfl
theorem adx(n j:Nat)(hn:n<1000000)(hj:j<8):lb n j=dg (((8*n/256^(7-j):Nat):Int).tmod 256):=by
 apply UInt8.toNat_inj.mp;have h1:(fO (n:Int)).toNat=n:=by unfold fO;rw [j5,gq]<;>omega
 have h3:(dg (((8*n/256^(7-j):Nat):Int).tmod 256)).toNat=8*n/256^(7-j)%256:=by generalize 8*n/256^(7-j)=q;unfold dg;rw [sk ag,nN];have:((q:Int)%256%256).toNat=q%256:=ag;rw [this];omega
 rw [h3];unfold lb;rw [oB];have h2:(dr (fO (n:Int)) 3).toNat=8*n:=by
  unfold dr;rw [if_pos aw,uv,h1,nk];show n*2^3%2^64=_
  omega
 have h4:(bh (dr (fO (n:Int)) 3) (8*(7-j))).toNat=8*n/256^(7-j):=by unfold bh;rw [if_pos ag,sr,h2,j5,show 8*(7-j)%2^64%64=8*(7-j) by omega,np,Nat.pow_mul]
 rw [h4]
def tG(n m:Nat):List UInt8:=(cQ 8).map λj=>if j<m then 0 else lb n j
theorem adA(n:Nat):tG n 8=aK 8 0:=rfl
theorem adz(n:Nat):tG n 0=nY n:=rfl
theorem adB(n m:Nat):(tG n m).length=8:=od
theorem adC(n m:Nat)(h:m<8){x:UInt8}(hx:x=lb n m):(tG n (m+1)).set m x=tG n m:=by
 subst hx;unfold tG;rw [LP];apply qQ;intro i _;by_cases h1:i=m
 .subst h1;rw [if_pos rfl,if_neg ag]
 .rw [if_neg h1];by_cases h2:i<m
  .rw [if_pos ag,if_pos h2]
  .rw [if_neg ag,if_neg h2]
attribute [local irreducible] kP jh jl nY tG lb rC kq jw iP
theorem f105(b D:List UInt8)(o:Nat)(hD:(D.drop o).take b.length=b)(F:o+b.length<=D.length)(hb:b.length<1000000)(f:Bool):aM 124 [.sl 0 o b.length 1 f] [ak D] (.sl 1 0 (jh b).length 1 af) [aC 5 (jh b)]:=by
 have I:=v9 b.length;refine aL (fn:=Tryz.f124) ?_;refine zp ?_;refine zl ?_;refine bT (kP b.length) (λk=> [(3,.sl 1 0 (b++aK k.1 0).length 1 af)]) (λk=> [ak D,aC 5 (b++aK k.1 0)]) 2 ?_ ?_
 .have hz:b++aK 0 (0:UInt8)=b:=aq;refine yL ?_;have hc:b.map SV.u8=aB (b.length*1) (aG o (D.map SV.u8)):=by rw [fS];exact(ru hD).symm
  have u:b.map SV.u8=aB (0*1) (aG 0 ([]:List SV))++aB (b.length*1) (aG o (D.map SV.u8)):=by rw [<-hc];rfl
  refine bP [0,2] ?_ ?_
  ·(repeat'(first|exact trivial|refine aJ ?_ ?_|fail))<;>first|exact iQ rfl az ag|fail
  ·(repeat'(first|exact trivial|exact aY (cY _) u|refine aJ ?_ ?_|fail))<;>first|rfl|exact aY bY az|fail
 .rintro⟨k,hk⟩;obtain⟨Y,hY⟩:=ax (b++aK k 0);have r:Y.length=b.length+k:=by rw [hY];simp
  have hYs:Y++ [0]=b++aK (k+1) 0:=by rw [hY,iw,List.replicate_succ']
  have hm:((Y.length:Int)).tmod 16=(((b.length+k)%16:Nat):Int):=by rw [r,sk (by omega)];omega
  have G:=agJ b.length k hk;dsimp only;rw [<-hY];by_cases hk2:k<kP b.length
  .have hlt:decide (((Y.length:Int)).tmod 16>0)=ab:=by rw [hm];simp only [decide_eq_true_eq];omega
   have hap:(b++aK (k+1) 0).map SV.u8=aB (Y.length*1) (aG 0 (Y.map SV.u8))++aB (1*1) (aG 0 [SV.u8 0]):=by rw [Bk rfl,hYs]
   have hal:(b++aK (k+1) 0).length=Y.length+1:=by rw [<-hYs];simp
   refine zL ?_;first|refine du (by exact hlt) ?_|fail
   refine zI ?_;refine yG ?_;exact bL [0,3]
  .obtain rfl:k=kP b.length:=ag;have hlt:decide (((Y.length:Int)).tmod 16>0)=af:=by rw [hm];simp only [decide_eq_false_iff_not];omega
   have hfin:Y=jh b:=by rw [hY,agI]
   refine zI ?_;first|intro _
   conv=>whnf
   rw [hfin];exact jy
theorem f106(b D:List UInt8)(o:Nat)(hb:b.length<1000000)(f:Bool):aM 125 [.sl 0 o b.length 1 f] [ak D] (.sl 1 0 8 1 ab) [aC 5 (nY b.length)]:=by
 have r:au (8*(b.length:Int))=((8*b.length/256^(8-8):Nat):Int):=by rw [pR,Nat.pow_zero,Nat.div_one];simp only [eI];omega
 refine aL (fn:=Tryz.f125) ?_;refine zp ?_;refine vu ?_;refine fH (ι:={m:Nat//m<=8}) (λm=> [(3,.sl 1 0 8 1 ab),(4,.i ((8*b.length/256^(8-m.1):Nat):Int)),(5,.i ((m.1:Int)-1))]) (λm=> [ak D,aC 5 (tG b.length m.1)]) (λ_=>2) (λm=>m.1) ⟨8,ag⟩ ?_ ?_
 .have hz:=adA b.length;refine bP [0,1] ?_ ?_
  ·(repeat'(first|exact trivial|refine aJ ?_ ?_|fail))<;>first|exact dh (by first|exact r|exact r.symm|fail)|rfl|fail
  .exact bU
 .rintro⟨m,hm⟩;have F:=adB b.length m;dsimp only;by_cases u:0<m
  .obtain⟨k,rfl⟩:∃k,m=k+1:=⟨m-1,ag⟩;have hlt:decide ((((k+1:Nat):Int)-1)>=0)=ab:=aq;have hp1:au (((k+1:Nat):Int)-1-1)=(k:Int)-1:=cp;have hk:((k+1:Nat):Int)-1=(k:Int):=ag;have hx:=adx b.length k hb ag;have hle:8*b.length/256^(8-(k+1))<=8*b.length:=Nat.div_le_self _ _;have hd:au (((8*b.length/256^(8-(k+1)):Nat):Int).tdiv 256)=((8*b.length/256^(8-k):Nat):Int):=by rw [show 8-k=(8-(k+1))+1 by omega,Nat.pow_succ,<-Nat.div_div_eq_div_mul];generalize 8*b.length/256^(8-(k+1))=q at hle;rw [Int.tdiv_eq_ediv_of_nonneg ag];exact t8
   rw [show 7-k=8-(k+1) by omega]at hx;have hst:=adC b.length k ag hx.symm;refine zt ?_;repeat(first|refine zH (nC (i:=k) aT) ?_|refine zH (bg (m:=k) aT) ?_|refine aS ?_)
   refine⟨⟨k,ag⟩,dt,?_⟩;refine bP [0,1] ?_ ?_
   ·(repeat'(first|exact trivial|refine aJ ?_ ?_|fail))<;>first|exact dh (by first|exact hp1|exact hp1.symm|exact hd.symm|fail)|rfl|fail
   .exact bU
  .obtain rfl:m=0:=ag;have hz:=adz b.length;rw [hz];refine zy ?_;exact jy
end Go.Sh
namespace Go.Sh
open Go.Proofs
theorem EX{a b:List UInt8}{n m:Nat}(r:a.length=n)(hb:b.length=m):aB (n*1) (aG 0 (a.map SV.u8))++aB (m*1) (aG 0 (SB.row 5 (b.map SV.u8)).cells)=(a++b).map SV.u8:=by
 subst r;subst hb;show aB (a.length*1) (aG 0 (a.map SV.u8))++aB (b.length*1) (aG 0 (b.map SV.u8))=_
 rw [cq,cq,bW aq,bW aq,dU]
theorem aap(fb O G I:Bool)(w c b D:List UInt8)(o:Nat)(hD:(D.drop o).take b.length=b)(R:Nat)(hw:w.length=16*(R+1))(r:1<=R)(u:R<=20)(hc:c.length=16)(F:b.length<100000000000000):aM 91 [.sl 0 0 256 1 fb,.sl 1 0 (16*(R+1)) 1 O,.sl 2 0 16 1 G,.sl 3 o b.length 1 I] [ak cD,ak w,ak c,ak D] (.sl 4 0 b.length 1 af) [aC 5 (iP w R c b)]:=
 (f55 fb O G I w c b R hw r u hc F).sub 3 o (D.map .u8) (b.map .u8) 6 rfl rfl (by rw [dm];exact ru hD) aq aq aw ⟨.inr ⟨rfl,rfl⟩,.inr ⟨rfl,rfl⟩,.inr ⟨rfl,rfl⟩,.inl rfl,trivial⟩ rfl
  ⟨.inr (.inl bI),.inr (.inl bI),.inr (.inl bI),.inl rfl,trivial⟩ ⟨.inr (.inl bI),.inr (.inl bI),.inr (.inl bI),.inl rfl,.inr (.inl bI),trivial⟩
theorem QU(n:Nat):(nY n).length=8:=Dx n 8
attribute [local irreducible] kP jh jl nY tG lb rC kq jw iP
theorem f99(fb O fn I:Bool)(w r b D:List UInt8)(o:Nat)(hD:(D.drop o).take b.length=b)(R:Nat)(hw:w.length=16*(R+1))(F:1<=R)(G:R<=20)(hn:r.length=12)(W:b.length<1000000):aM 89 [.agg [.sl 0 0 256 1 fb,.sl 1 0 (16*(R+1)) 1 O],.sl 2 0 12 1 fn,.sl 3 o b.length 1 I] [ak cD,ak w,ak r,ak D] (.sl 4 0 b.length 1 af) [aC 5 (jw w R r b)]:=by
 have u:=λU=>aap fb O U I w (mC r) b D o hD R hw F G (by unfold mC;simp [hn]) ag
 rw [show iP w R (mC r) b=jw w R r b by unfold jw;rfl]at u;obtain⟨K,V⟩:=ax (jw w R r b);rw [<-V]at u|-
 match r,hn with
 | [n0,n1,n2,n3,n4,n5,n6,n7,n8,n9,n10,n11],_=>
  refine aL (fn:=Tryz.f89) ?_;refine zM ?_;refine zW (aE [0,1,8,3] [af,af,af,af,ab] af (u _)) ?_;refine zc ?_;exact bE [0,1,2,3,9]
theorem f98(fb fw fn f1 f2:Bool)(w u aad r A T:List UInt8)(p q:Nat)(hA:(A.drop p).take aad.length=aad)(hoA:p+aad.length<=A.length)(hT:(T.drop q).take r.length=r)(hoT:q+r.length<=T.length)(R:Nat)(hw:w.length=16*(R+1))(hR1:1<=R)(hR2:R<=20)(hn:u.length=12)(ha:aad.length<1000000)(ht:r.length<1000000):aM 90 [.agg [.sl 0 0 256 1 fb,.sl 1 0 (16*(R+1)) 1 fw],.sl 2 0 12 1 fn,.sl 3 p aad.length 1 f1,.sl 4 q r.length 1 f2] [ak cD,ak w,ak u,ak A,ak T] (.sl 5 0 16 1 af) [aC 5 (kq w R u aad r)]:=by
 have h9:=f105 aad A p hA hoA ha f1;have x0:=f105 r T q hT hoT ht f2;have x6:=f106 aad A p ha f1;have x7:=f106 r T q ht f2;have hpa:=Bj aad;have hpt:=Bj r;have h6:(nY aad.length).length=8:=QU _;have hlt:(nY r.length).length=8:=QU _;have hna:=v9 aad.length;have hnt:=v9 r.length;obtain⟨P1,O⟩:=ax (jh aad);obtain⟨P2,U⟩:=ax (jh r);obtain⟨U1,V⟩:=ax (nY aad.length);obtain⟨U2,W⟩:=ax (nY r.length);have h7:P1++P2++U1++U2=qH aad r:=by rw [O,U,V,W];unfold qH;rw [iw,iw]
 rw [<-O]at h9 hpa;rw [<-U]at x0 hpt;rw [<-V]at x6 h6;rw [<-W]at x7 hlt;obtain⟨X,hX⟩:=ax (P1++P2);obtain⟨Y,hY⟩:=ax (X++U1);obtain⟨Z,hZ⟩:=ax (Y++U2);have hXl:P1.length+P2.length=X.length:=by rw [hX];simp
 have hYl:X.length+8=Y.length:=by rw [hY];simp [h6]
 have hZl:Y.length+8=Z.length:=by rw [hZ];simp [hlt]
 rw [<-hX,<-hY,<-hZ]at h7;have hsl:=DU w R (aK 16 0) rfl R;obtain⟨S,hS⟩:=ax (iH w R (aK 16 0) R);have h8:=λfk=>f49 fb fw fk w (aK 16 0) R hw hR1 hR2 rfl
 rw [<-hS]at h8 hsl;have x5:=λfh fb=>f63 fh fb S Z hsl ag
 obtain⟨Hh,hH⟩:=ax (rC S Z);have hHl:Hh.length=16:=by rw [hH];exact Gd _ _
 rw [<-hH]at x5;have F:=λff fo=>f55 fb fw ff fo w (u++ [0,0,0,1]) Hh R hw hR1 hR2 (by simp [hn]) ag
 have I:iP w R (u++ [0,0,0,1]) Hh=kq w R u aad r:=by rw [hH,hS,h7];unfold kq;rfl
 rw [I]at F;obtain⟨G,hG⟩:=ax (kq w R u aad r);rw [<-hG]at F|-;simp only [hHl]at F;clear I hG hH hS h7 O U V W
 match u,hn with
 | [n0,n1,n2,n3,n4,n5,n6,n7,n8,n9,n10,n11],_=>
  refine aL (fn:=Tryz.f90) ?_;refine zp ?_;refine zW (aE [3] [af,ab] af h9) ?_;refine zW (aE [4] [af,ab] af x0) ?_;refine zl ?_;rw [EX rfl rfl,<-hX,hXl];refine zW (aE [3] [af,ab] af x6) ?_;refine zl ?_;rw [EX rfl h6,<-hY,hYl];refine zW (aE [4] [af,ab] af x7) ?_;repeat(first|refine zN ⟨ag,aw⟩ ?_|refine aS ?_)
  rw [EX rfl hlt,<-hZ,hZl];conv=>whnf
  refine zW (aE [0,1,13] [af,af,af,ab] af (h8 _)) ?_;refine zc ?_;refine zW (aE [14,12] [af,af,ab] af (x5 _ _)) ?_;refine zW (aE [0,1,18,19] [af,af,af,af,ab] af (F _ _)) ?_;refine zc ?_;exact bE [0,1,2,3,4,20]
end Go.Sh
namespace Go.Sh
open Go.Proofs
attribute [local irreducible] kP jh jl nY tG lb rC kq jw iP
theorem X8{b:List UInt8}{m:Nat}(hb:b.length=m):aB (0*cM.sz) (aG 0 (dK 0 (SV.u8 0).cells))++aB (m*cM.sz) (aG 0 (SB.row 5 (b.map SV.u8)).cells)=b.map SV.u8:=by
 subst hb;show []++aB (b.length*1) (aG 0 (b.map SV.u8))=_
 rw [jA,fS,cq,bW aq]
theorem aaz(key:List UInt8)(hk:key.length=16)(r:Bool):aM 60 [.sl 0 0 16 1 r] [ak key] (.agg [.sl 1 0 256 1 ab,.sl 2 0 (4*44) 1 af]) [aC 5 cD,aC 5 (aO key 4 44)]:=by have h46:=f46;rw [Lp]at h46;have h50:=PR ab r key hk;exact xh
theorem aaA(key:List UInt8)(hk:key.length=32)(r:Bool):aM 60 [.sl 0 0 32 1 r] [ak key] (.agg [.sl 1 0 256 1 ab,.sl 2 0 (4*60) 1 af]) [aC 5 cD,aC 5 (aO key 8 60)]:=by have h46:=f46;rw [Lp]at h46;have h50:=aah ab r key hk;exact xh
theorem PS(fb W fn f1 f2:Bool)(w u aad r A T:List UInt8)(p q:Nat)(hA:(A.drop p).take aad.length=aad)(h7:p+aad.length<=A.length)(hT:(T.drop q).take r.length=r)(h8:q+r.length<=T.length)(R:Nat)(hw:w.length=16*(R+1))(U:1<=R)(V:R<=20)(hn:u.length=12)(ha:aad.length<1000000)(ht:r.length<1000000):aM 61 [.agg [.sl 0 0 256 1 fb,.sl 1 0 (16*(R+1)) 1 W],.sl 2 0 12 1 fn,.sl 3 p aad.length 1 f1,.sl 4 q r.length 1 f2] [ak cD,ak w,ak u,ak A,ak T] (.sl 5 0 (r.length+16) 1 af) [aC 5 (gA w R u aad r)]:=by
 have O:=f99 fb W fn f2 w u r T q hT R hw U V hn ht;obtain⟨K,hK⟩:=ax (jw w R u r);have F:K.length=r.length:=by rw [hK];exact DV ..
 have I:=λf=>f98 fb W fn f1 f w u aad K A K p 0 hA h7 aq ag R hw U V hn ha ag
 obtain⟨G,hG⟩:=ax (kq w R u aad K);have Z:G.length=16:=A7;have hse:gA w R u aad r=K++G:=by unfold gA;rw [<-hK,<-hG]
 rw [<-hK]at O;rw [hse];simp only [<-hG,F]at I;refine aL (fn:=Tryz.f61) ?_;refine zp ?_;refine yl ?_;refine zW (aE [0,1,2,4] [af,af,af,af,ab] af O) ?_;refine Ex ?_;have h6:=X8 F;rw [h6,ig];refine zW (aE [0,1,2,3,6] [af,af,af,af,af,ab] af (I _)) ?_;refine zl ?_;have hcat:(K++G).map SV.u8=aB (r.length*1) (aG 0 (K.map SV.u8))++aB (16*1) (aG 0 (G.map SV.u8)):=(EX F Z).symm;exact bE [0,1,2,3,4,10]
end Go.Sh
namespace Go.Sh
open Go.Proofs
variable{s:UInt16}
theorem abJ(K N P:List UInt8)(hk:K.length=16)(hN:N.length=12)(hP:P.length<1000000)(fk fn fp:Bool):aM 62 [.sl 0 0 16 1 fk,.sl 1 0 12 1 fn,.sl 2 0 P.length 1 fp] [ak K,ak N,ak P] (.sl 3 0 P.length 1 af) [aC 5 (iP (aO K 4 44) 10 (N++ [0,0,0,0]) P)]:=by
 have q1:=f46;rw [Lp]at q1;have q2:=PR ab fk K hk;obtain⟨w,hw⟩:=ax (aO K 4 44);have lw:w.length=16*(10+1):=by rw [hw];exact Cv _
 rw [<-hw]at q2|-;obtain⟨F,a1,a2,G,I,O,V,W,Z,a9,r,u,rfl⟩:=FH hN;have q3:=f55 ab af af fp w ([F,a1,a2,G,I,O,V,W,Z,a9,r,u]++ [0,0,0,0]) P 10 lw ag ag rfl ag;obtain⟨U,hU⟩:=ax (iP w 10 ([F,a1,a2,G,I,O,V,W,Z,a9,r,u]++ [0,0,0,0]) P);rw [<-hU]at q3|-;refine aL (fn:=Tryz.f62) ?_;refine zp ?_;refine zW (aE [] [ab] af q1) ?_;refine zW (aE [3,0] [ab,ab,ab] af q2) ?_;refine zc ?_;refine zW (aE [3,4,8,2] [ab,ab,ab,ab,ab] af q3) ?_;exact bE [0,1,2,9]
abbrev LY(t:Nat):List SV:= [.i 1,.i 48,.i 16,.i (t:Int),.i 32]
theorem abK(K N A T:List UInt8)(t:Nat)(ht:t<=32)(hk:K.length=48)(hN:N.length=12)(hA:A.length<1000000)(hT:T.length<1000000)(fr fk fn U ft:Bool):aM 63 [.sl 0 0 5 1 fr,.sl 1 0 48 1 fk,.sl 2 0 12 1 fn,.sl 3 0 A.length 1 U,.sl 4 0 T.length 1 ft] [an (LY t),ak K,ak N,ak A,ak T] (.sl 5 0 t 1 af) [aC 5 (cS (K.drop 16) (iy A.length++iy T.length++iy t++N++A++T))]:=by
 have qa:=KY A.length ag;have qt:=KY T.length ag;have qg:=KY t ag;obtain⟨I,u⟩:=ax (iy A.length);obtain⟨xt,G⟩:=ax (iy T.length);obtain⟨O,F⟩:=ax (iy t);have la:I.length=8:=by rw [u];rfl
 have lt:xt.length=8:=by rw [G];rfl
 have lg:O.length=8:=by rw [F];rfl
 rw [<-u]at qa|-;rw [<-G]at qt|-;rw [<-F]at qg|-;have V:=λf=>ae6 A T I xt O N la lt lg hN ag ag f ab ab ab fn U ft
 obtain⟨r,hK2⟩:=ax (K.drop 16);have lK:r.length=32:=by rw [hK2,fQ];omega
 obtain⟨Z,hZ⟩:=ax (I++xt++O++N++A++T);have lZ:Z.length=36+A.length+T.length:=by rw [hZ];simp;omega
 have qm:=λf=>(FO r Z ag ag f af).sub 0 16 (K.map .u8) (r.map .u8) 9 rfl rfl XR aq aq aw ⟨.inr ⟨rfl,rfl⟩,.inl rfl,.inr ⟨rfl,rfl⟩,trivial⟩ rfl ⟨.inl rfl,.inr (.inl bI),trivial⟩ ⟨.inl rfl,.inr (.inl bI),.inr (.inl bI),trivial⟩
 have lm:=tI r Z;rw [<-hK2];rw [<-hZ]at V|-;obtain⟨W,hW⟩:=ax (cS r Z);rw [<-hW]at lm|-;simp only [<-hW,lK,lZ]at qm;refine aL (fn:=Tryz.f63) ?_;refine zp ?_;refine zW (aE [] [ab] af qa) ?_;refine zW (aE [] [ab] af qt) ?_;refine zl ?_;refine zW (aE [] [ab] af qg) ?_;refine zc ?_;refine zW (aE [8,5,6,7,2,3,4] [af,ab,ab,ab,ab,ab,ab,ab] af ((V _))) ?_;refine zl ?_;refine zW (aE [1,9] [ab,ab,ab] af ((qm _))) ?_;refine zl ?_;exact bE [0,1,2,3,4,10]
theorem abo(s:UInt16)(hs:decide (s>=4)=ab)(I x1 x2 x3 x4:Int)(q0:aQ 26 [.u16 s] [] (.sl 0 0 5 1 ab) [ao 3 [.i I,.i x1,.i x2,.i x3,.i x4]])(K S A P:List UInt8)(c:UInt64)(hk:K.length=16)(hS:S.length=12)(hA:A.length<1000000)(hP:P.length<1000000)(u fs r F:Bool):aM 23 [.u16 s,.sl 0 0 16 1 u,.sl 1 0 12 1 fs,.u64 c,.sl 2 0 A.length 1 r,.sl 3 0 P.length 1 F] [ak K,ak S,ak A,ak P] (.sl 4 0 (P.length+16) 1 af) [aC 5 (gA (aO K 4 44) 10 (bf S c) A P)]:=by have q1:=f74 c S hS fs;have q2:=aaz K hk u;have q3:=PS ab af af r F (aO K 4 44) (bf S c) A P A P 0 0 aq ag aq ag 10 (by rw [Cv]) ag ag (rL S c) hA hP;obtain⟨w,hw⟩:=ax (aO K 4 44);rw [<-hw]at q2 q3|-;obtain⟨N,G⟩:=ax (bf S c);rw [<-G]at q1 q3|-;obtain⟨X,hX⟩:=ax (gA w 10 N A P);rw [<-hX]at q3|-;refine xo ?_;exact bE [0,1,2,3,8]
theorem abp(s:UInt16)(hs:decide (s>=4)=ab)(I x1 x2 x3 x4:Int)(q0:aQ 26 [.u16 s] [] (.sl 0 0 5 1 ab) [ao 3 [.i I,.i x1,.i x2,.i x3,.i x4]])(K S A P:List UInt8)(c:UInt64)(hk:K.length=32)(hS:S.length=12)(hA:A.length<1000000)(hP:P.length<1000000)(u fs r F:Bool):aM 23 [.u16 s,.sl 0 0 32 1 u,.sl 1 0 12 1 fs,.u64 c,.sl 2 0 A.length 1 r,.sl 3 0 P.length 1 F] [ak K,ak S,ak A,ak P] (.sl 4 0 (P.length+16) 1 af) [aC 5 (gA (aO K 8 60) 14 (bf S c) A P)]:=by have q1:=f74 c S hS fs;have q2:=aaA K hk u;have q3:=PS ab af af r F (aO K 8 60) (bf S c) A P A P 0 0 aq ag aq ag 14 (by rw [H8]) ag ag (rL S c) hA hP;obtain⟨w,hw⟩:=ax (aO K 8 60);rw [<-hw]at q2 q3|-;obtain⟨N,G⟩:=ax (bf S c);rw [<-G]at q1 q3|-;obtain⟨X,hX⟩:=ax (gA w 14 N A P);rw [<-hX]at q3|-;refine xo ?_;exact bE [0,1,2,3,8]
theorem abq(s:UInt16)(hs:decide (s>=4)=af)(t:Nat)(V:0<t)(ht:t<32)(q0:aQ 26 [.u16 s] [] (.sl 0 0 5 1 ab) [ao 3 (LY t)])(K S A P:List UInt8)(c:UInt64)(hk:K.length=48)(hS:S.length=12)(hA:A.length<1000000)(hP:P.length<1000000)(G fs F I:Bool):aM 23 [.u16 s,.sl 0 0 48 1 G,.sl 1 0 12 1 fs,.u64 c,.sl 2 0 A.length 1 F,.sl 3 0 P.length 1 I] [ak K,ak S,ak A,ak P] (.sl 4 0 (P.length+t) 1 af) [aC 5 (mm t K (bf S c) A P)]:=by
 have q1:=f74 c S hS fs;have U:(K.take 16).length=16:=lu;have q2:=λf=>(abJ (K.take 16) (bf S c) P U (rL S c) hP f af I).sub 0 0 (K.map .u8) ((K.take 16).map .u8) 9 rfl rfl (by rw [dm,U,cq,iU]) (cY _) (cY _) aw ⟨.inl rfl,.inr ⟨rfl,rfl⟩,.inr ⟨rfl,rfl⟩,trivial⟩ rfl ⟨.inl rfl,.inr (.inl bI),.inr (.inl bI),trivial⟩ ⟨.inl rfl,.inr (.inl bI),.inr (.inl bI),.inr (.inl bI),trivial⟩
 have q3:=abK K (bf S c) A (jf K (bf S c) P) t ag hk (rL S c) hA (by rw [Cs];exact hP) ab G af F af;have r:=Cs K (bf S c) P;unfold jf at r q3;unfold mm jf sR;obtain⟨N,O⟩:=ax (bf S c);rw [<-O]at q1 q3 r|-;simp only [<-O]at q2;obtain⟨T,hT⟩:=ax (iP (aO (K.take 16) 4 44) 10 (N++ [0,0,0,0]) P);rw [<-hT]at q3 r|-;simp only [<-hT]at q2;obtain⟨W,hW⟩:=ax (cS (K.drop 16) (iy A.length++iy T.length++iy t++N++A++T));have lW:W.length=32:=IV;rw [<-hW]at q3|-;rw [r]at q3;refine aL (fn:=Tryz.f23) ?_;refine zp ?_;refine zW (aE [] [ab] af q0) ?_;refine zW (aE [1] [ab,ab] af q1) ?_;repeat(first|refine zW (bC hs) ?_|refine aS ?_)
 refine zW (aE [0,5,3] [ab,ab,ab,ab] af ((q2 _))) ?_;refine zl ?_;refine zW (aE [4,0,5,2,6] [ab,ab,ab,ab,ab,ab] af q3) ?_;refine zl ?_;have u:(W.take t).length=t:=lu;have hcat:=(OR (a:=T) (b:=W.take t) (A:=T) (B:=W) (Z:=dK 0 (SV.u8 0).cells) aq (by rw [u,cq])).symm;rw [u,r]at hcat;refine⟨[0,1,2,3,10],?_,rfl,rfl,?_,rfl⟩
 ·(repeat'(fail))<;>first|exact iQ rfl az ag|fail
 .exact bU
theorem Kl(s:UInt16)(F x2 x3 x4:Int)(z:Nat)(q0:aQ 26 [.u16 s] [] (.sl 0 0 5 1 ab) [ao 3 [.i F,.i (z:Int),.i x2,.i x3,.i x4]])(K M:List UInt8)(hM:M.length<=1024)(r u:Bool):aM 20 [.u16 s,.sl 0 0 z 1 r,.sl 1 0 M.length 1 u] [ak K,ak M] (.i 0) []:=by
 have e1:decide ((M.length:Int)>1024)=af:=ox;have e2:(((z:Nat):Int) !=((z:Nat):Int))=af:=aq;refine aL (fn:=Tryz.f20) ?_;refine zp ?_;refine zW (aE [] [ab] af q0) ?_;repeat(first|refine zW (bC e1) ?_|refine zW (bC e2) ?_|refine aS ?_)
 exact jy
theorem LQ(k c:UInt64):aQ 21 [.agg [.u64 k,.u64 c]] [] (.sl 0 0 (bF k c).length 1 af) [aC 5 (bF k c)]:=by obtain⟨fl,q⟩:=Dc k c;rw [Kw];exact q.loose
theorem ah7(s:UInt16)(hs:decide (s>=4)=ab)(F x2 x3 x4:Int)(q0:aQ 26 [.u16 s] [] (.sl 0 0 5 1 ab) [ao 3 [.i F,.i ((16:Nat):Int),.i x2,.i x3,.i x4]])(kid c:UInt64)(K S M P:List UInt8)(hk:K.length=16)(hS:S.length=12)(hM:M.length<=1024)(hP:P.length<=65536)(u fs r G:Bool):aM 7 [.u16 s,.u64 kid,.sl 0 0 16 1 u,.sl 1 0 12 1 fs,.u64 c,.sl 2 0 M.length 1 r,.sl 3 0 P.length 1 G] [ak K,ak S,ak M,ak P] (.tup [.sl 4 0 ((bF kid c).length+(P.length+16)) 1 af,.i 0]) [aC 5 (bF kid c++gA (aO K 4 44) 10 (bf S c) (bF kid c++M) P)]:=by
 have e1:decide ((P.length:Int)>65536)=af:=ox;have hl:=sC kid c;have qh:=LQ kid c;have q20:=Kl s F x2 x3 x4 16 q0 K M hM u r;have lX:=AH (aO K 4 44) 10 (bf S c) (bF kid c++M) P;obtain⟨H,hH⟩:=ax (bF kid c);rw [<-hH]at qh hl lX|-;have qc:=λf=>BS H M H M ag ag aq aq ag ag f af r
 have qb:=abo s hs F _ x2 x3 x4 q0 K S (H++M) P c hk hS qL ag u fs af G;obtain⟨X,hX⟩:=ax (gA (aO K 4 44) 10 (bf S c) (H++M) P);rw [<-hX]at qb lX|-;have qd:=λf=>BS H X H X ag ag aq aq ag ag f af af
 rw [aW]at qb;rw [lX]at qd;exact yY
theorem ah8(s:UInt16)(hs:decide (s>=4)=ab)(F x2 x3 x4:Int)(q0:aQ 26 [.u16 s] [] (.sl 0 0 5 1 ab) [ao 3 [.i F,.i ((32:Nat):Int),.i x2,.i x3,.i x4]])(kid c:UInt64)(K S M P:List UInt8)(hk:K.length=32)(hS:S.length=12)(hM:M.length<=1024)(hP:P.length<=65536)(u fs r G:Bool):aM 7 [.u16 s,.u64 kid,.sl 0 0 32 1 u,.sl 1 0 12 1 fs,.u64 c,.sl 2 0 M.length 1 r,.sl 3 0 P.length 1 G] [ak K,ak S,ak M,ak P] (.tup [.sl 4 0 ((bF kid c).length+(P.length+16)) 1 af,.i 0]) [aC 5 (bF kid c++gA (aO K 8 60) 14 (bf S c) (bF kid c++M) P)]:=by
 have e1:decide ((P.length:Int)>65536)=af:=ox;have hl:=sC kid c;have qh:=LQ kid c;have q20:=Kl s F x2 x3 x4 32 q0 K M hM u r;have lX:=AH (aO K 8 60) 14 (bf S c) (bF kid c++M) P;obtain⟨H,hH⟩:=ax (bF kid c);rw [<-hH]at qh hl lX|-;have qc:=λf=>BS H M H M ag ag aq aq ag ag f af r
 have qb:=abp s hs F _ x2 x3 x4 q0 K S (H++M) P c hk hS qL ag u fs af G;obtain⟨X,hX⟩:=ax (gA (aO K 8 60) 14 (bf S c) (H++M) P);rw [<-hX]at qb lX|-;have qd:=λf=>BS H X H X ag ag aq aq ag ag f af af
 rw [aW]at qb;rw [lX]at qd;exact yY
theorem LS(s:UInt16)(hs:decide (s>=4)=af)(t:Nat)(F:0<t)(ht:t<32)(q0:aQ 26 [.u16 s] [] (.sl 0 0 5 1 ab) [ao 3 (LY t)])(kid c:UInt64)(K S M P:List UInt8)(hk:K.length=48)(hS:S.length=12)(hM:M.length<=1024)(hP:P.length<=65536)(u fs r G:Bool):aM 7 [.u16 s,.u64 kid,.sl 0 0 48 1 u,.sl 1 0 12 1 fs,.u64 c,.sl 2 0 M.length 1 r,.sl 3 0 P.length 1 G] [ak K,ak S,ak M,ak P] (.tup [.sl 4 0 ((bF kid c).length+(P.length+t)) 1 af,.i 0]) [aC 5 (bF kid c++mm t K (bf S c) (bF kid c++M) P)]:=by
 have e1:decide ((P.length:Int)>65536)=af:=ox;have hl:=sC kid c;have qh:=LQ kid c;have q20:=Kl s 1 16 t 32 48 q0 K M hM u r;have lX:=Cj t K (bf S c) (bF kid c++M) P ht;obtain⟨H,hH⟩:=ax (bF kid c);rw [<-hH]at qh hl lX|-;have qc:=λf=>BS H M H M ag ag aq aq ag ag f af r
 have qb:=abq s hs t F ht q0 K S (H++M) P c hk hS qL ag u fs af G;obtain⟨X,hX⟩:=ax (mm t K (bf S c) (H++M) P);rw [<-hX]at qb lX|-;have qd:=λf=>BS H X H X ag ag aq aq ag ag f af af
 rw [aW]at qb;rw [lX]at qd;exact yY
def mA(s:UInt16)(K N A P:List UInt8):List UInt8:=match s.toNat with|4=>gA (aO K 4 44) 10 N A P|5=>gA (aO K 8 60) 14 N A P|_=>mm (dH s) K N A P
def mM(s:UInt16)(K N A X:List UInt8):Bool:=match s.toNat with|4=>jD (aO K 4 44) 10 N A X|5=>jD (aO K 8 60) 14 N A X|_=>rQ (dH s) K N A X
def mh(s:UInt16)(K N X:List UInt8):List UInt8:=match s.toNat with|4=>mN (aO K 4 44) 10 N X|5=>mN (aO K 8 60) 14 N X|_=>jf K N (X.take (jj (dH s) X))
theorem Co(s:UInt16):4<=dH s/\dH s<=16:=by unfold dH;split<;>omega
theorem Bp(h:1<=s.toNat)(h2:s.toNat<=5)(K N A P:List UInt8):(mA s K N A P).length=P.length+dH s:=by
 rcases qG h h2 with rfl|rfl|rfl|rfl|rfl
 .exact Cj 10 K N A P aw
 .exact Cj 8 K N A P aw
 .exact Cj 4 K N A P aw
 .exact AH ..
 .exact AH ..
theorem Lc(t:Nat)(K N A P:List UInt8)(ht:t<32):rQ t K N A (mm t K N A P)=ab/\jf K N ((mm t K N A P).take (jj t (mm t K N A P)))=P:=by
 have h0:=Cj t K N A P ht;have h1:jj t (mm t K N A P)=(jf K N P).length:=by unfold jj;rw [h0,Cs];omega
 have h2:(mm t K N A P).take (jj t (mm t K N A P))=jf K N P:=by rw [h1];unfold mm;exact sZ
 have h3:(mm t K N A P).drop (jj t (mm t K N A P))=sR t K N A (jf K N P):=by rw [h1];unfold mm;exact qP
 refine⟨?_,?_⟩
 .unfold rQ;rw [h2,h3,h0];simp
 .rw [h2];unfold jf;exact VB ..
theorem RQ(w:List UInt8)(R:Nat)(N A P:List UInt8):jD w R N A (gA w R N A P)=ab/\mN w R N (gA w R N A P)=P:=by
 have h0:=AH w R N A P;have h1:gr (gA w R N A P)=(jw w R N P).length:=by unfold gr;rw [h0,DV];omega
 have h2:(gA w R N A P).take (gr (gA w R N A P))=jw w R N P:=by rw [h1];unfold gA;exact sZ
 have h3:(gA w R N A P).drop (gr (gA w R N A P))=kq w R N A (jw w R N P):=by rw [h1];unfold gA;exact qP
 refine⟨?_,?_⟩
 .unfold jD;rw [h2,h3,h0];simp
 .unfold mN;rw [h2];unfold jw;exact VB ..
theorem Lh(h:1<=s.toNat)(h2:s.toNat<=5)(K N A P:List UInt8):mM s K N A (mA s K N A P)=ab/\mh s K N (mA s K N A P)=P:=by
 rcases qG h h2 with rfl|rfl|rfl|rfl|rfl
 .exact Lc 10 K N A P aw
 .exact Lc 8 K N A P aw
 .exact Lc 4 K N A P aw
 .exact RQ ..
 .exact RQ ..
theorem Th(h:1<=s.toNat)(h2:s.toNat<=5)(kid c:UInt64)(K S M P:List UInt8)(hk:K.length=gT s)(hS:S.length=12)(hM:M.length<=1024)(hP:P.length<=65536)(r u:Bool):aM 6 [.agg (kC s kid 0 (gT s) S),.u64 c,.sl 1 0 M.length 1 r,.sl 2 0 P.length 1 u] [ak K,ak M,ak P] (.tup [.sl 3 0 ((bF kid c).length+(P.length+dH s)) 1 af,.i 0]) [aC 5 (bF kid c++mA s K (bf S c) (bF kid c++M) P)]:=by
 rcases qG h h2 with rfl|rfl|rfl|rfl|rfl
 .exact L5 1 10 aw aw By kid c K S M P hk hS hM hP r u
 .exact L5 2 8 aw aw Bz kid c K S M P hk hS hM hP r u
 .exact L5 3 4 aw aw BA kid c K S M P hk hS hM hP r u
 .exact aiB 4 1 32 16 BB kid c K S M P hk hS hM hP r u
 .exact aiC 5 2 64 16 BC kid c K S M P hk hS hM hP r u
theorem ah9(h:1<=s.toNat)(h2:s.toNat<=5)(kid c:UInt64)(K S M P:List UInt8)(hk:K.length=gT s)(hS:S.length=12)(hM:M.length<=1024)(hP:P.length<=65536)(F fs r u:Bool):aM 7 [.u16 s,.u64 kid,.sl 0 0 (gT s) 1 F,.sl 1 0 12 1 fs,.u64 c,.sl 2 0 M.length 1 r,.sl 3 0 P.length 1 u] [ak K,ak S,ak M,ak P] (.tup [.sl 4 0 ((bF kid c).length+(P.length+dH s)) 1 af,.i 0]) [aC 5 (bF kid c++mA s K (bf S c) (bF kid c++M) P)]:=by
 rcases qG h h2 with rfl|rfl|rfl|rfl|rfl
 .exact LS 1 aw 10 aw aw J2 kid c K S M P hk hS hM hP F fs r u
 .exact LS 2 aw 8 aw aw J3 kid c K S M P hk hS hM hP F fs r u
 .exact LS 3 aw 4 aw aw J4 kid c K S M P hk hS hM hP F fs r u
 .exact ah7 4 aw 1 16 16 32 J5 kid c K S M P hk hS hM hP F fs r u
 .exact ah8 5 aw 2 32 16 64 J6 kid c K S M P hk hS hM hP F fs r u
theorem Fu(F:List UInt8)(u:Nat):gr (F.drop u)=F.length-u-16:=by unfold gr;rw [fQ]
theorem uF(t:Nat)(F:List UInt8)(u:Nat):jj t (F.drop u)=F.length-u-t:=by unfold jj;rw [fQ]
theorem RT(h:1<=s.toNat)(h2:s.toNat<=5)(K S M F:List UInt8)(u:Nat)(kid c:UInt64)(hT:fg F=aa (u,kid,c))(hu:u<=F.length)(G:0<u)(I:u<100000)(O:dH s<=F.length-u)(V:F.length-u<=65536)(hk:K.length=gT s)(hS:S.length=12)(hM:M.length<=1024)(U:Bool)(r:mM s K (bf S c) (F.take u++M) (F.drop u)=ab):aM 10 [.agg (kC s kid 0 (gT s) S),.sl 1 0 M.length 1 U,.sl 2 0 F.length 1 af] [ak K,ak M,ak F] (.tup [.sl 3 0 (F.length-u-dH s) 1 af,.u64 c,.i 0]) [aC 5 (mh s K (bf S c) (F.drop u))]:=by
 rcases qG h h2 with rfl|rfl|rfl|rfl|rfl
 .have q:=Lk 1 K S M F u 10 aw aw O By kid c hT hu G I V hk hS hM U r;try rw [uF]at q
  rw [show mh 1 K (bf S c) (F.drop u)=jf K (bf S c) ((F.drop u).take (F.length-u-10))from by rw [<-uF];rfl];exact q
 .have q:=Lk 2 K S M F u 8 aw aw O Bz kid c hT hu G I V hk hS hM U r;try rw [uF]at q
  rw [show mh 2 K (bf S c) (F.drop u)=jf K (bf S c) ((F.drop u).take (F.length-u-8))from by rw [<-uF];rfl];exact q
 .have q:=Lk 3 K S M F u 4 aw aw O BA kid c hT hu G I V hk hS hM U r;try rw [uF]at q
  rw [show mh 3 K (bf S c) (F.drop u)=jf K (bf S c) ((F.drop u).take (F.length-u-4))from by rw [<-uF];rfl];exact q
 .have q:=af8 4 K S M F u 1 32 16 aw BB kid c hT hu G I V hk hS hM U r;try rw [Fu]at q
  exact q
 .have q:=aga 5 K S M F u 2 64 16 aw BC kid c hT hu G I V hk hS hM U r;try rw [Fu]at q
  exact q
theorem agh(h:1<=s.toNat)(h2:s.toNat<=5)(K S M F:List UInt8)(u:Nat)(kid c:UInt64)(hT:fg F=aa (u,kid,c))(hu:u<=F.length)(G:0<u)(I:u<100000)(O:dH s<=F.length-u)(V:F.length-u<=65536)(hk:K.length=gT s)(hS:S.length=12)(hM:M.length<=1024)(U:Bool)(r:mM s K (bf S c) (F.take u++M) (F.drop u)=af):aM 10 [.agg (kC s kid 0 (gT s) S),.sl 1 0 M.length 1 U,.sl 2 0 F.length 1 af] [ak K,ak M,ak F] (.tup [.slnil,.u64 0,.i 140]) []:=by
 rcases qG h h2 with rfl|rfl|rfl|rfl|rfl
 .have q:=Lj 1 K S M F u 10 aw aw O By kid c hT hu G I V hk hS hM U r;try rw [uF]at q
  exact q
 .have q:=Lj 2 K S M F u 8 aw aw O Bz kid c hT hu G I V hk hS hM U r;try rw [uF]at q
  exact q
 .have q:=Lj 3 K S M F u 4 aw aw O BA kid c hT hu G I V hk hS hM U r;try rw [uF]at q
  exact q
 .have q:=af7 4 K S M F u 1 32 16 aw BB kid c hT hu G I V hk hS hM U r;try rw [Fu]at q
  exact q
 .have q:=af9 5 K S M F u 2 64 16 aw BC kid c hT hu G I V hk hS hM U r;try rw [Fu]at q
  exact q
abbrev kT(s:Bool)(top:UInt64)(came:List UInt64):List SV:= .b s:: .u64 top::came.map .u64
def oW(came:List UInt64)(c:UInt64):Bool:=(bh (came.getD (c%1024/64).toNat 0) (c%64).toNat&&&aF (aU 1))==aF (aU 1)
theorem Et(s:Bool)(r:UInt64)(came:List UInt64)(hc:came.length=16)(c:UInt64):(SB.box (kT s r came)).cells[0+2+(c%1024/64).toNat*t5.sz]?=aa (.u64 (came.getD (c%1024/64).toNat 0)):=by
 have hi:(c%1024/64).toNat<16:=by rw [nL,nM];simp;omega
 have e:0+2+(c%1024/64).toNat*t5.sz=(c%1024/64).toNat+2:=by show 0+2+_*1=_;omega
 rw [e];generalize(c%1024/64).toNat=j at hi;show(SV.b s::SV.u64 r::came.map SV.u64)[j+2]?=_
 have hj:j<came.length:=ag;simp [hj]
theorem ae3(s:Bool)(r:UInt64)(came:List UInt64)(hc:came.length=16)(c:UInt64):aM 174 [.p 0 0,.u64 c] [al (kT s r came)] (.b (oW came c)) []:=by
 have hg:=Et s r came hc c;refine aL (fn:=Tryz.f174) ?_;refine zp ?_;refine xz ?_;conv=>whnf
 exact gH
def eE(s:Bool)(r:UInt64)(came:List UInt64)(c:UInt64):Int:=if s=af\/c>r then 0 else if r-c>=aF (aU 1024)then 161 else if oW came c=ab then 160 else 0
theorem Q9(s:Bool)(r:UInt64)(came:List UInt64)(hc:came.length=16)(c:UInt64):aM 142 [.p 0 0,.u64 c] [al (kT s r came)] (.i (eE s r came c)) []:=by
 cases s with
 |false=>
  have e:eE af r came c=0:=by simp [eE]
  refine NL ?_;refine zM ?_;exact bE [0]
 |true=>
  by_cases h1:c>r
  .have e:eE ab r came c=0:=by simp [eE,h1]
   have e1:decide (c>r)=ab:=lv;refine NL ?_;refine zp ?_;refine CA ?_;exact gH
  .have e1:decide (c>r)=af:=lv;by_cases h2:r-c>=aF (aU 1024)
   .have e:eE ab r came c=161:=by unfold eE;rw [if_neg (by simp only [Bool.true_eq_false,false_or];exact h1),if_pos h2]
    have e2:decide (r-c>=aF (aU 1024))=ab:=decide_eq_true h2;refine NL ?_;refine zp ?_;repeat(first|refine zW (bC e1) ?_|refine zW (bl e2) ?_|refine zf ?_)
    exact gH
   .have e2:decide (r-c>=aF (aU 1024))=af:=decide_eq_false h2;have q:=ae3 ab r came hc c;by_cases h3:oW came c=ab
    .have e:eE ab r came c=160:=by unfold eE;rw [if_neg (by simp only [Bool.true_eq_false,false_or];exact h1),if_neg h2,if_pos h3]
     rw [e];rw [h3]at q;exact xP
    .have e:eE ab r came c=0:=by unfold eE;rw [if_neg (by simp only [Bool.true_eq_false,false_or];exact h1),if_neg h2,if_neg h3]
     rw [Bool.not_eq_true]at h3;rw [e];rw [h3]at q;exact xP
theorem ae4(a b:UInt64):aQ 175 [.u64 a,.u64 b] [] (.fn 192 [.p 1 0,.p 0 0]) [al [.u64 a],al [.u64 b]]:=by refine aL (fn:=Tryz.f175) ?_;refine zp ?_;exact jy
abbrev wI(n:UInt64):Nat:=(n%1024/64).toNat
abbrev wB(n:UInt64):UInt64:=dr (aF (aU 1)) (n%64).toNat
def C1(came:List UInt64)(n:UInt64):List UInt64:=came.set (wI n) (came.getD (wI n) 0&&& ~~~wB n)
def vg(came:List UInt64)(n:UInt64):List UInt64:=came.set (wI n) (came.getD (wI n) 0|||wB n)
theorem Ng(n:UInt64):wI n<16:=by unfold wI;rw [nL,nM];simp;omega
theorem H9{s:Bool}{r:UInt64}{came:List UInt64}{n x:UInt64}:bN (kT s r came) (0+2+wI n*t5.sz) (.u64 x)=kT s r (came.set (wI n) x):=by
 have e:0+2+wI n*t5.sz=wI n+2:=by show 0+2+_*1=_;omega
 rw [e];simp [bN,List.map_set]
def mH(r ctr:UInt64):UInt64:=if aF (aU 1024)<ctr-(if r<ctr then r else ctr)then aF (aU 1024)else ctr-(if r<ctr then r else ctr)
theorem aca(r ctr:UInt64):(mH r ctr).toNat<=1024:=by
 unfold mH;generalize ctr-(if r<ctr then r else ctr)=x;have e:aF (aU 1024)=1024:=aw;rw [e];by_cases h:1024<x
 .rw [if_pos h];decide
 .rw [if_neg h];rw [gh]at h;simp at h;omega
def gK(came:List UInt64)(ctr:UInt64)(m:Nat):Nat->List UInt64
 |0=>came
 |k+1=>C1 (gK came ctr m k) (ctr-aF (m-k)+aF (aU 1))
theorem uD{came:List UInt64}{ctr:UInt64}{m:Nat}:∀k,(gK came ctr m k).length=came.length
 |0=>rfl
 |k+1=>by simp [gK,C1,uD k]
theorem OU(came:List UInt64)(ctr:UInt64)(m k:Nat):C1 (gK came ctr m k) (ctr-aF (m-k)+aF (aU 1))=gK came ctr m (k+1):=rfl
def lF(r:UInt64)(came:List UInt64)(ctr:UInt64):List UInt64:=vg (gK came ctr (mH r ctr).toNat (mH r ctr).toNat) ctr
theorem aeZ(s:Bool)(I t2:UInt64)(came:List UInt64)(hc:came.length=16)(c:UInt64)(he:eE s I came c=0)(ht:t2=if s then I else c):aQ 143 [.p 0 0,.u64 c] [al (kT s I came)] (.i 0) [al (kT ab (if c>t2 then c else t2) (lF t2 came c))]:=by
 have q:=Q9 s I came hc c;rw [he]at q;have hm:=aca t2 c;obtain⟨m,G⟩:=ax ((mH t2 c).toNat);rw [<-G]at hm;cases s
 .simp only [if_true,gE,if_false]at ht;have V:=ht.symm;subst V;refine Wg ?_;refine bp.weak (R0:= [(1,.u64 c),(2,.p 1 0),(34,.fn 192 [.p 3 0,.p 2 0])]) (H0:= [al (kT ab c came),al [.p 0 0],al [.u64 c],al [.u64 c]]) (L0:=4) ?_ ?_
  .exact sf
  refine Lz rfl rfl rfl (by kernel_rfl:Tryz.prog.funcs[192]?=aa Tryz.f192) rfl rfl rfl rfl ?_;intro O U u F;refine oY ?_;refine bT m (λk=> [(0,.yld 4),(1,.p 3 0),(2,.p 2 0),(4,.u64 (aF (m-k.1)))]) (λk=> [al (kT ab c (gK came c m k.1)),al [.p 0 0],al [.u64 c],al [.u64 c],aa (.obj (.loop [(1,.u64 c),(2,.p 1 0)] Tryz.f143.ntmps [35] O U))]) 5 ?_ ?_
  .have hz:aF (m-0)=mH c c:=by rw [G,Nat.sub_zero];simp
   refine bP [0,1,2,3,4] ?_ ?_
   ·(repeat'(first|exact trivial|refine aJ ?_ ?_|fail))<;>first|exact lr (by exact hz)|rfl|fail
   .exact zo
  .rintro⟨k,hk⟩;dsimp only;by_cases hk2:k<m
   .have e1:decide (aF (m-k)>aF (aU 0))=ab:=by
     have:(aF (m-k)).toNat=m-k:=aA;simp only [decide_eq_true_eq,GT.gt,gh,this];show 0<m-k
     omega
    have hn:aF (m-k)-aF (aU 1)=aF (m-(k+1)):=by have h1:(aF (m-k)).toNat=m-k:=aA;have h2:(aF (m-(k+1))).toNat=m-(k+1):=aA;have h3:(aF (aU 1)).toNat=1:=rfl;apply dJ.1;rw [UInt64.toNat_sub,h1,h2,h3];omega
    have r:=uD (came:=came) (ctr:=c) (m:=m) k;obtain⟨x,hx⟩:=ax (c-aF (m-k)+aF (aU 1));have hs:=OU came c m k;rw [<-hx]at hs;conv=>whnf
    refine CA ?_;rw [<-hx];refine rO 4 [1,0] [af,af,ab] (rV (ps:= [35]) (N:=Tryz.f143.ntmps) (R0:= [(1,.u64 c),(2,.p 1 0)]) (args0:= [.u64 x]) (ex:= .normal) (H0t:= [al [.p 2 0],al (kT ab c (gK came c m k))]) (H1t:= [al [.p 2 0],al (kT ab c (gK came c m (k+1)))]) (.inl rfl) rfl rfl rfl ?_) rfl rfl ⟨⟨rfl,az⟩,zo,IJ,?_⟩
    .subst u;subst F;have hg:=Et ab c (gK came c m k) (by rw [r];exact hc) x;refine r9 ?_;refine zu ?_;refine xz ?_;refine zI ?_;rw [H9,show(gK came c m k).set (wI x) _=gK came c m (k+1)from hs];exact⟨[0,1,2],rfl,rfl,zo,rfl⟩
    .refine zL ?_;refine yG ?_;refine bP [0,1,2,3,4] ?_ ?_
     ·(repeat'(first|exact trivial|refine aJ ?_ ?_|fail))<;>first|exact lr (by first|exact hn|exact hn.symm|fail)|rfl|fail
     .exact zo
   .obtain rfl:k=m:=ag;have e1:decide (aF (k-k)>aF (aU 0))=af:=by rw [pR];decide
    have r:=uD (came:=came) (ctr:=c) (m:=k) k;obtain⟨y,hy⟩:=ax ((if c>c then c else c));have hg:=Et ab y (gK came c k k) (by rw [r];exact hc) c;have hs:(gK came c k k).set (wI c) ((gK came c k k).getD (wI c) 0|||wB c)=lF c came c:=by unfold lF vg;rw [<-G]
    conv=>whnf
    refine Ez ?_;rw [<-hy];rw [show bN (kT ab c (gK came c k k)) (0+1) (.u64 y)=kT ab y (gK came c k k)from rfl];refine xz ?_;refine zI ?_;rw [H9,hs];exact gH
 .simp only [if_true,gE,if_false]at ht;subst ht;refine Wg ?_;refine bp.weak (R0:= [(1,.u64 c),(2,.p 1 0),(34,.fn 192 [.p 3 0,.p 2 0])]) (H0:= [al (kT ab t2 came),al [.p 0 0],al [.u64 t2],al [.u64 c]]) (L0:=4) ?_ ?_
  .exact sf
  refine Lz rfl rfl rfl (by kernel_rfl:Tryz.prog.funcs[192]?=aa Tryz.f192) rfl rfl rfl rfl ?_;intro O U u F;refine oY ?_;refine bT m (λk=> [(0,.yld 4),(1,.p 3 0),(2,.p 2 0),(4,.u64 (aF (m-k.1)))]) (λk=> [al (kT ab t2 (gK came c m k.1)),al [.p 0 0],al [.u64 t2],al [.u64 c],aa (.obj (.loop [(1,.u64 c),(2,.p 1 0)] Tryz.f143.ntmps [35] O U))]) 5 ?_ ?_
  .have hz:aF (m-0)=mH t2 c:=by rw [G,Nat.sub_zero];simp
   refine bP [0,1,2,3,4] ?_ ?_
   ·(repeat'(first|exact trivial|refine aJ ?_ ?_|fail))<;>first|exact lr (by exact hz)|rfl|fail
   .exact zo
  .rintro⟨k,hk⟩;dsimp only;by_cases hk2:k<m
   .have e1:decide (aF (m-k)>aF (aU 0))=ab:=by
     have:(aF (m-k)).toNat=m-k:=aA;simp only [decide_eq_true_eq,GT.gt,gh,this];show 0<m-k
     omega
    have hn:aF (m-k)-aF (aU 1)=aF (m-(k+1)):=by have h1:(aF (m-k)).toNat=m-k:=aA;have h2:(aF (m-(k+1))).toNat=m-(k+1):=aA;have h3:(aF (aU 1)).toNat=1:=rfl;apply dJ.1;rw [UInt64.toNat_sub,h1,h2,h3];omega
    have r:=uD (came:=came) (ctr:=c) (m:=m) k;obtain⟨x,hx⟩:=ax (c-aF (m-k)+aF (aU 1));have hs:=OU came c m k;rw [<-hx]at hs;conv=>whnf
    refine CA ?_;rw [<-hx];refine rO 4 [1,0] [af,af,ab] (rV (ps:= [35]) (N:=Tryz.f143.ntmps) (R0:= [(1,.u64 c),(2,.p 1 0)]) (args0:= [.u64 x]) (ex:= .normal) (H0t:= [al [.p 2 0],al (kT ab t2 (gK came c m k))]) (H1t:= [al [.p 2 0],al (kT ab t2 (gK came c m (k+1)))]) (.inl rfl) rfl rfl rfl ?_) rfl rfl ⟨⟨rfl,az⟩,zo,IJ,?_⟩
    .subst u;subst F;have hg:=Et ab t2 (gK came c m k) (by rw [r];exact hc) x;refine r9 ?_;refine zu ?_;refine xz ?_;refine zI ?_;rw [H9,show(gK came c m k).set (wI x) _=gK came c m (k+1)from hs];exact⟨[0,1,2],rfl,rfl,zo,rfl⟩
    .refine zL ?_;refine yG ?_;refine bP [0,1,2,3,4] ?_ ?_
     ·(repeat'(first|exact trivial|refine aJ ?_ ?_|fail))<;>first|exact lr (by first|exact hn|exact hn.symm|fail)|rfl|fail
     .exact zo
   .obtain rfl:k=m:=ag;have e1:decide (aF (k-k)>aF (aU 0))=af:=by rw [pR];decide
    have r:=uD (came:=came) (ctr:=c) (m:=k) k;obtain⟨y,hy⟩:=ax ((if c>t2 then c else t2));have hg:=Et ab y (gK came c k k) (by rw [r];exact hc) c;have hs:(gK came c k k).set (wI c) ((gK came c k k).getD (wI c) 0|||wB c)=lF t2 came c:=by unfold lF vg;rw [<-G]
    conv=>whnf
    refine Ez ?_;rw [<-hy];rw [show bN (kT ab t2 (gK came c k k)) (0+1) (.u64 y)=kT ab y (gK came c k k)from rfl];refine xz ?_;refine zI ?_;rw [H9,hs];exact gH
end Go.Sh
namespace Go.Sh
theorem QB{H:HL}{j id:Nat}:hg (H.set j ah) id=if id=j then ah else hg H id:=by
 unfold hg;rw [pQ];by_cases h:j=id
 .subst h;by_cases hj:j<H.length<;>simp [hj]
 .rw [if_neg h,if_neg (λe=>h e.symm)]
theorem bV.nilD{P:Program}{f:Nat}(xs:List SV){bs:List SV}{H0:HL}{ret:SV}{H1:HL}(j o sz n:Nat){fl:Bool}(h:bV P f (xs++ .sl j o 0 sz fl::bs) H0 ret H1)(hj0:hg H0 j=aa (.ro []))(O:j≠1000000)(G:bu (fF j n) (xs++bs)=aa (xs++bs))(hr:bG (fF j n) ret=aa ret)(h0:uA j n 0 H0)(h1:uA j n 0 H1)(hl:H0.length<=H1.length):bV P f (xs++ .slnil::bs) (H0.set j ah) ret (H1.set j ah):=by
 have x6:j<H0.length:=Oa;refine⟨h.fn,λnn ρ w vs hA hH hS hF=>?_⟩;let rb:RB:=⟨0,0,0,ab⟩
 let ρs:bw:=λid=>if id=j then aa rb else ρ id
 have F:∀id,id≠j->ρs id=ρ id:=λid hid=>if_neg hid
 have Z:ρs j=aa rb:=if_pos rfl;have tr:∀{ρa ρb:bw} {x:SV} {v:Value},(∀id,id≠j->ρa id=ρb id)->bG (fF j n) x=aa x->av ρa x v->av ρb x v:=by intro ρa ρb x v e hx hv;have h1:=(lM x hx (ρ:=ρa)).2 hv;rw [sK e O]at h1;exact(lM x hx (ρ:=ρb)).1 h1
 have h6:∀{ρa ρb:bw} {b:SB} {w:World} {r:RB},(∀id,id≠j->ρa id=ρb id)->cZ (fF j n) b=aa b->cd ρa w r b->cd ρb w r b:=by intro ρa ρb b w r e hx hv;have h1:=(l9 hx (ρ:=ρa) (w:=w) (rb:=r)).2 hv;rw [sK e O]at h1;exact(l9 hx).1 h1
 have e1:∀id,id≠j->ρ id=ρs id:=λid hid=>(F id hid).symm
 have h8:aD ρs (xs++ .sl j o 0 sz fl::bs) vs:=by
  have:∀(xs:List SV) (us:List Value),bu (fF j n) (xs++bs)=aa (xs++bs)->aD ρ (xs++ .slnil::bs) us->aD ρs (xs++ .sl j o 0 sz fl::bs) us:=by
   intro xs
   induction xs with
   |nil=>
    intro us G h;simp only [jA,aD]at h G|-;obtain⟨y,ys,e,hy,V⟩:=h;refine⟨y,ys,e,?_,?_⟩
    .simp only [av]at hy|-;exact⟨rb,ah,0,Z,hy,bH _,λ_=>rfl,.inl rfl⟩
    .have h2:=(jH bs G (ρ:=ρ)).2 V;rw [sK e1 O]at h2;exact(jH bs G (ρ:=ρs)).1 h2
   |cons x xs ih=>
    intro us G h;simp only [oz,aD]at h|-;obtain⟨y,ys,e,hy,V⟩:=h;simp only [oz,bu]at G;cases hx:bG (fF j n) x with
    |none=>rw [hx]at G;cases G
    |some x2=>
     rw [hx]at G;cases U:bu (fF j n) (xs++bs)with
     |none=>rw [U]at G;cases G
     |some xs2=>
      rw [U]at G;have e2:=Option.some.inj G;injection e2 with e3 e4
      subst e3;exact⟨y,ys,e,tr e1 hx hy,ih ys (by rw [U,e4]) V⟩
  exact this xs vs G hA
 have hgo:∀{H:HL} {id:Nat},id≠j->hg (H.set j ah) id=hg H id:=fun{H id} hid=>by rw [QB,if_neg hid]
 have hgn:∀{H:HL} {id:Nat} {b:SB},hg (H.set j ah) id=aa b->id≠j/\hg H id=aa b:=fun{H id b} hb=>by
  rw [QB]at hb;by_cases e:id=j
  .rw [if_pos e]at hb;cases hb
  .rw [if_neg e]at hb;exact⟨e,hb⟩
 have x0:iX ρs (hg H0) w:=by
  intro id b hb;by_cases hid:id=j
  .subst hid;rw [hj0]at hb;cases hb;exact⟨rb,Z,.inl rfl⟩
  .obtain⟨r,g1,g2⟩:=hH id b (by rw [hgo hid];exact hb);exact⟨r,by rw [F id hid];exact g1,h6 e1 ((vH h0 hb).resolve_left ag) g2⟩
 have I:∀k q,dV ρs (hg H0) k q->dV ρ (hg (H0.set j ah)) k q:=by
  rintro k q ⟨id,b,r,g1,g2,g3,g4⟩;have hid:id≠j:=λe=>by subst e;rw [hj0]at g1;cases g1;cases g3
  rw [F id hid]at g2;exact⟨id,b,r,by rw [hgo hid];exact g1,g2,g3,g4⟩
 have x5:l7 ρs (hg H0):=by
  intro i k bi bk ri rk hne hi hk hri hrk hw q p ⟨hfi,hfk⟩;have hij:i≠j:=λe=>NQ
  rw [F i hij]at hri;by_cases hkj:k=j
  .subst hkj;rw [hj0]at hk;cases hk;simp only [foot,oZ]at hfk;omega
  .rw [F k hkj]at hrk;exact XB
 have h9:∀id,H0.length<=id->ρs id=ah:=λid hid=>by rw [F id ag];exact hF id ou
 refine(h.call nn ρs w vs h8 x0 x5 h9).mono λe w' hR=>?_
 cases e with
 |returned v=>
  obtain⟨ρ1,q1,q2,q3,q4,q5⟩:=hR;let ρ2:bw:=λid=>if id=j then ρ j else ρ1 id
  have u:∀id,id≠j->ρ2 id=ρ1 id:=λid hid=>if_neg hid
  have h7:ρ2 j=ρ j:=if_pos rfl;have e2:∀id,id≠j->ρ1 id=ρ2 id:=λid hid=>(u id hid).symm
  refine⟨ρ2,tr e2 hr q1,?_,?_,?_,?_,?_,?_⟩
  .intro id b hb;obtain⟨hid,hb⟩:=hgn hb;obtain⟨r,g1,g2⟩:=q2 id b hb;exact⟨r,by rw [u id hid];exact g1,h6 e2 ((vH h1 hb).resolve_left ag) g2⟩
  .intro i k bi bk ri rk hne hi hk hri hrk hw q p hf;obtain⟨hij,hi⟩:=hgn hi;obtain⟨hkj,hk⟩:=hgn hk;rw [u i hij]at hri;rw [u k hkj]at hrk;exact q3 i k bi bk ri rk hne hi hk hri hrk hw q p hf
  .intro id hid;rw [fJ]at hid;rw [u id ag];exact q4 id hid
  .intro id hid r W;rw [fJ]at hid;by_cases hij:id=j
   .subst hij;rw [h7];exact W
   .rw [u id hij];exact q5.ext id hid r (by rw [F id hij];exact W)
  .exact q5.fr.mono (λk q _ ho=>I k q ho)
  .rintro k q ⟨id,b,r,g1,g2,g3,g4⟩;obtain⟨hij,g1⟩:=hgn g1;rw [u id hij]at g2;exact(q5.own k q ⟨id,b,r,g1,g2,g3,g4⟩).imp (λho=>I k q ho) (λh=>h)
 |_=>exact hR
end Go.Sh
