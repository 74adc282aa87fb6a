/- Merged for a claim: E10, E7, E8, E11, E12a, G9, F1, F4. -/
import Derived.Test.YtkahaemiigimcaaGreatFm7
set_option linter.unusedSimpArgs false
set_option linter.unusedVariables false
set_option maxHeartbeats 8000000
set_option maxRecDepth 100000
open Option renaming some->aa,none->ah,map_some->nq
open Bool renaming true->ab,false->af
open List renaming take->aB,drop->aG,replicate->aK,length_append->aW,take_of_length_le->bW,drop_zero->cq,range->cQ,getD_eq_getElem?_getD->dk,length_map->dm,getElem?_eq_getElem->dy,getElem?_eq_none->dI,length_take->eZ,length_set->fJ,length_drop->fQ,map->fR,getElem?_append_left->gP,getElem?_take_of_lt->ic,append_assoc->iw,getElem?_append_right->iR,getElem?_drop->iS,map_cons->iT,map_take->iU,nil_append->jA,ext_getElem?->ku,getElem?_map->ky,length_replicate->kz,take_length->ly,drop_drop->ng,map_drop->o0,map_nil->qR,drop_take->sX,getElem?_range->wR,take_zero->wT
open And renaming intro->aJ
open Nat renaming le_refl->bH,mul_one->fS,mod_eq_of_lt->gq,zero_add->ig,sub_self->pR,add_zero->qT
open UInt8 renaming toNat_lt->eQ
open Int renaming tmod_eq_emod_of_nonneg->sk
namespace Go.Sh
open Go.Proofs
variable{l:List UInt8}{y:UInt8}
theorem CP{n:Nat}(h:l.length=n):aB (n*1) (aG 0 (l.map SV.u8))++aB (1*1) (aG 0 [SV.u8 y])=(l++ [y]).map SV.u8:=by rw [cq,bW aA];simp
def tK(key:List UInt8)(n i:Nat):List UInt8:=
 if i%n=0 then S6 (fE ((i-1)/n)) (dE (aO key n i) (i-1))else if n=8/\i%n=4 then TG (dE (aO key n i) (i-1))else dE (aO key n i) (i-1)
theorem MF(key:List UInt8)(n i:Nat):(tK key n i).length=4:=by
 unfold tK;split
 .rfl
 .split<;>rfl
def xK(key:List UInt8)(n i:Nat)(k:Nat):UInt8:=(tK key n i).getD k 0^^^(aO key n i).getD (4*(i-n)+k) 0
def wK(key:List UInt8)(n i k:Nat):List UInt8:=aO key n i++(cQ k).map (xK key n i)
theorem Em(key:List UInt8)(n i k:Nat):(wK key n i k).length=4*i+k:=by unfold wK;rw [aW,vr,od]
theorem Eo(key:List UInt8)(n i k:Nat):wK key n i k++ [xK key n i k]=wK key n i (k+1):=by unfold wK;rw [Ch,iw]
theorem Ek(key:List UInt8)(n i:Nat)(h:n<=i):wK key n i 4=aO key n (i+1):=by
 rw [Cw];unfold wK nV;rw [if_neg ag];have:(cQ 4).map (xK key n i)=Nk (tK key n i) (dE (aO key n i) (i-n)):=by have ht:=MF key n i;obtain⟨a,b,c,d,h4⟩:=ZB ht;have hr:cQ 4= [0,1,2,3]:=aw;rw [hr];simp only [iT,qR,xK,h4,Nk,dE];rfl
 rw [this];rfl
theorem El(key:List UInt8)(n i k j:Nat)(h:j<4*i):(wK key n i k).getD j 0=(aO key n i).getD j 0:=by unfold wK;rw [acm];rw [vr];exact h
theorem YX(key:List UInt8)(i:Nat)(h:4*i+4<=key.length):key.take (4*i)++dE key i=key.take (4*(i+1)):=by
 apply ku;intro j;by_cases h1:j<4*i
 .rw [gP aA,ic h1,ic ag]
 .refine Cz ?_;have hl:(key.take (4*i)).length=4*i:=aA;rw [hl];by_cases h2:j<4*(i+1)
  .rw [ic h2];have:j=4*i+0\/j=4*i+1\/j=4*i+2\/j=4*i+3:=ag;have e:∀q,q<4->key[4*i+q]?=aa (key.getD (4*i+q) 0):=λq hq=>by rw [dk,dy ag];rfl
   rcases this with rfl|rfl|rfl|rfl
   .rw [e 0 ag,show 4*i+0-4*i=0 by omega];rfl
   .rw [e 1 ag,show 4*i+1-4*i=1 by omega];rfl
   .rw [e 2 ag,show 4*i+2-4*i=2 by omega];rfl
   .rw [e 3 ag,show 4*i+3-4*i=3 by omega];rfl
  .rw [dI (by simp [dE];omega),dI aA]
theorem VU(key:List UInt8)(n:Nat)(h:key.length=4*n):∀i,i<=n->aO key n i=key.take (4*i)
 |0,_=>by rw [Nh];rfl
 |i+1,hi=>by
  rw [Cw,VU key n h i ag];unfold nV;rw [if_pos ag];exact YX key i ag
theorem VV(key:List UInt8)(n:Nat)(h:key.length=4*n):aO key n n=key:=by rw [VU key n h n (bH _),<-h,ly]
theorem O5{a b:Nat}(i:Nat)(r:a=4*i)(hb:b=4)(h:4*i+4<=l.length):aB b (aG a (l.map SV.u8))=(dE l i).map SV.u8:=by subst r;subst hb;have:=lQ (l:=l) (k:=4*i) rfl h;simp only [dz,if_true]at this;rw [if_pos kV]at this;simp only [Option.some.injEq,SV.agg.injEq]at this;rw [this];rfl
theorem Ei(i n k:Nat)(h:i<=1000)(hn:n<=i)(hk:k<=4):au (au (4*au ((i:Int)-(n:Int)))+(k:Int))=((4*(i-n)+k:Nat):Int):=by simp only [eI];omega
theorem VL(i:Nat)(h:i<=1000)(hn:1<=i):au (au (4*(i:Int))-4)=((4*i-4:Nat):Int):=by simp only [eI];omega
theorem PR(fb I:Bool)(key:List UInt8)(hk:key.length=16):aM 88 [.sl 0 0 256 1 fb,.sl 1 0 16 1 I] [ak cD,ak key] (.sl 2 0 (4*44) 1 af) [aC 5 (aO key 4 44)]:=by
 have hl:=tY;refine aL (fn:=Tryz.f88) ?_;refine r9 ?_;refine fH (ι:={i:Nat//4<=i/\i<=44}) (λi=> [(0,.sl 0 0 256 1 fb),(1,.sl 1 0 16 1 I),(5,.i 4),(6,.sl 2 0 (4*i.1) 1 af),(7,.u8 (fE ((i.1-1)/4))),(8,.i (i.1:Int))]) (λi=> [ak cD,ak key,aC 5 (aO key 4 i.1)]) (λ_=>3) (λi=>44-i.1) ⟨4,ag,ag⟩ ?_ ?_
 .have G:(aO key 4 4).map SV.u8=aB 16 (aG 0 (key.map SV.u8)):=by rw [VV key 4 ag,cq,bW aA]
  refine bP [0,1,3] ?_ ?_
  ·(repeat'(first|exact trivial|refine aJ ?_ ?_|fail))<;>first|rfl|exact nG (by first|(simp [G,fE];done)|fail)|fail
  ·(repeat'(first|exact trivial|refine aJ ?_ ?_|fail))<;>first|rfl|exact aY bY (by first|rfl|exact G|fail)|fail
 .rintro⟨i,h9,hi⟩;have hwl:=vr key 4 i;dsimp only;by_cases ha:i<44
  .have hlt:decide ((i:Int)<au (4*au (4+7)))=ab:=by rw [show au (4*au (4+7))=44 by decide];simp;omega
   have hp1:=jY i ag;have h4:=H4 i ag;have V:=VL i ag ag;have htm:((i:Int)).tmod 4=((i%4:Nat):Int):=HO i 4;have htl:=MF key 4 i;have hw0:wK key 4 i 0=aO key 4 i:=by unfold wK;simp
   refine WJ ?_;have F:aB (0*cM.sz) (aG 0 (dK 0 (SV.u8 0).cells))++aB ((4*i-(4*i-4))*cM.sz) (aG (0+(4*i-4)*1) (SB.row 5 (fR SV.u8 (aO key 4 i))).cells)=(dE (aO key 4 i) (i-1)).map SV.u8:=O5 (i-1) ag (show(4*i-(4*i-4))*1=4 by omega) ag;rw [F];have h7:(dE (aO key 4 i) (i-1)).length=4:=rfl;have W:((dE (aO key 4 i) (i-1)).getD 0 0).toNat<256:=eQ _;have Z:((dE (aO key 4 i) (i-1)).getD 1 0).toNat<256:=eQ _;have hb2:((dE (aO key 4 i) (i-1)).getD 2 0).toNat<256:=eQ _;have h6:((dE (aO key 4 i) (i-1)).getD 3 0).toNat<256:=eQ _;by_cases hz:i%4=0
   .have hm:((i:Int).tmod 4==0)=ab:=by rw [htm,hz];rfl
    have hpw:fE (i/4)=iJ 8 0 (fE ((i-1)/4)) 2:=by rw [MM,show i/4=(i-1)/4+1 from by omega];rfl
    have r:tK key 4 i= [sb ((dE (aO key 4 i) (i-1)).getD 1 0)^^^fE ((i-1)/4),sb ((dE (aO key 4 i) (i-1)).getD 2 0),sb ((dE (aO key 4 i) (i-1)).getD 3 0),sb ((dE (aO key 4 i) (i-1)).getD 0 0)]:=by unfold tK;rw [if_pos hz];rfl
    have htk2:=congrArg (fR SV.u8) r;first|refine du (by exact hm) ?_|fail
    conv=>whnf
    repeat(first|refine zH (cU (i:=1) az ag) ?_|refine zH (bg (m:=1) az) ?_|refine zH (cU (i:=2) az ag) ?_|refine zH (bg (m:=2) az) ?_|refine zH (cU (i:=3) az ag) ?_|refine zH (bg (m:=3) az) ?_|refine zH (cU (i:=0) az ag) ?_|refine zH (bg (m:=0) az) ?_|refine zH (cU (i:=((dE (aO key 4 i) (i-1)).getD 1 0).toNat) aT ag) ?_|refine zH (cU (i:=((dE (aO key 4 i) (i-1)).getD 2 0).toNat) aT ag) ?_|refine zH (cU (i:=((dE (aO key 4 i) (i-1)).getD 3 0).toNat) aT ag) ?_|refine zH (cU (i:=((dE (aO key 4 i) (i-1)).getD 0 0).toNat) aT ag) ?_|refine aS ?_)
    refine zW (cP [] (f81 (fE ((i-1)/4)) 2)) ?_;refine bT 4 (λk=> [(0,.sl 0 0 256 1 fb),(1,.sl 1 0 16 1 I),(5,.i 4),(6,.sl 2 0 (4*i+k.1) 1 af),(7,.u8 (fE (i/4))),(8,.i (i:Int)),(9,.sl 3 0 4 1 ab),(10,.i (k.1:Int))]) (λk=> [ak cD,ak key,aC 5 (wK key 4 i k.1),aC 5 (tK key 4 i)]) 4 ?_ ?_
    .exact bL [0,1,2,5]
    .rintro⟨k,hk⟩;have u:=Em key 4 i k;dsimp only;by_cases hk2:k<4
     .have hlt2:decide ((k:Int)<4)=ab:=aA;have hp2:=jY k ag;have O:=Ei i 4 k ag ag ag;have hx:(tK key 4 i).getD k 0^^^(wK key 4 i k).getD (4*(i-4)+k) 0=xK key 4 i k:=by unfold xK;rw [El];omega
      have happ:aB ((4*i+k)*1) (aG 0 ((wK key 4 i k).map SV.u8))++aB (1*1) (aG 0 [SV.u8 ((tK key 4 i).getD k 0^^^(wK key 4 i k).getD (4*(i-4)+k) 0)])=(wK key 4 i (k+1)).map SV.u8:=by rw [CP u,hx,Eo]
      exact y9
     .obtain rfl:k=4:=ag;refine zy ?_;have hw4:aO key 4 (i+1)=wK key 4 i 4:=(Ek key 4 i ag).symm;exact x9
   .have hm:((i:Int).tmod 4==0)=af:=A6;have hpw:fE (i/4)=fE ((i-1)/4):=by rw [show i/4=(i-1)/4 from by omega]
    by_cases U:4=8/\i%4=4
    .skip
     exact absurd U.1 aw
    .skip
     have r:tK key 4 i=dE (aO key 4 i) (i-1):=by unfold tK;rw [if_neg hz,if_neg U]
     have htk2:=congrArg (fR SV.u8) r;first|refine eV (by exact hm) ?_|fail
     refine zL ?_;refine bT 4 (λk=> [(0,.sl 0 0 256 1 fb),(1,.sl 1 0 16 1 I),(5,.i 4),(6,.sl 2 0 (4*i+k.1) 1 af),(7,.u8 (fE (i/4))),(8,.i (i:Int)),(9,.sl 3 0 4 1 af),(10,.i (k.1:Int))]) (λk=> [ak cD,ak key,aC 5 (wK key 4 i k.1),aC 5 (tK key 4 i)]) 4 ?_ ?_
     .refine bP [0,1,2,4] ?_ ?_
      ·(repeat'(first|exact trivial|refine aJ ?_ ?_|fail))<;>first|rfl|exact iQ rfl az aT|exact nG (by exact hpw)|fail
      ·(repeat'(first|exact trivial|refine aJ ?_ ?_|fail))<;>first|exact gw (by first|exact hw0|exact r|fail)|rfl|exact aY bY az|fail
     .rintro⟨k,hk⟩;have u:=Em key 4 i k;dsimp only;by_cases hk2:k<4
      .have hlt2:decide ((k:Int)<4)=ab:=aA;have hp2:=jY k ag;have O:=Ei i 4 k ag ag ag;have hx:(tK key 4 i).getD k 0^^^(wK key 4 i k).getD (4*(i-4)+k) 0=xK key 4 i k:=by unfold xK;rw [El];omega
       have happ:aB ((4*i+k)*1) (aG 0 ((wK key 4 i k).map SV.u8))++aB (1*1) (aG 0 [SV.u8 ((tK key 4 i).getD k 0^^^(wK key 4 i k).getD (4*(i-4)+k) 0)])=(wK key 4 i (k+1)).map SV.u8:=by rw [CP u,hx,Eo]
       exact y9
      .obtain rfl:k=4:=ag;refine zy ?_;have hw4:aO key 4 (i+1)=wK key 4 i 4:=(Ek key 4 i ag).symm;exact x9
  .obtain rfl:i=44:=ag;refine zy ?_;exact kU
theorem aah(fb G:Bool)(key:List UInt8)(hk:key.length=32):aM 88 [.sl 0 0 256 1 fb,.sl 1 0 32 1 G] [ak cD,ak key] (.sl 2 0 (4*60) 1 af) [aC 5 (aO key 8 60)]:=by
 have hl:=tY;refine aL (fn:=Tryz.f88) ?_;refine r9 ?_;refine fH (ι:={i:Nat//8<=i/\i<=60}) (λi=> [(0,.sl 0 0 256 1 fb),(1,.sl 1 0 32 1 G),(5,.i 8),(6,.sl 2 0 (4*i.1) 1 af),(7,.u8 (fE ((i.1-1)/8))),(8,.i (i.1:Int))]) (λi=> [ak cD,ak key,aC 5 (aO key 8 i.1)]) (λ_=>3) (λi=>60-i.1) ⟨8,ag,ag⟩ ?_ ?_
 .have U:(aO key 8 8).map SV.u8=aB 32 (aG 0 (key.map SV.u8)):=by rw [VV key 8 ag,cq,bW aA]
  refine bP [0,1,3] ?_ ?_
  ·(repeat'(first|exact trivial|refine aJ ?_ ?_|fail))<;>first|rfl|exact nG (by first|(simp [U,fE];done)|fail)|fail
  ·(repeat'(first|exact trivial|refine aJ ?_ ?_|fail))<;>first|rfl|exact aY bY (by first|rfl|exact U|fail)|fail
 .rintro⟨i,ha,hi⟩;have hwl:=vr key 8 i;dsimp only;by_cases x0:i<60
  .have hlt:decide ((i:Int)<au (4*au (8+7)))=ab:=by rw [show au (4*au (8+7))=60 by decide];simp;omega
   have hp1:=jY i ag;have h4:=H4 i ag;have W:=VL i ag ag;have htm:((i:Int)).tmod 8=((i%8:Nat):Int):=HO i 8;have htl:=MF key 8 i;have hw0:wK key 8 i 0=aO key 8 i:=by unfold wK;simp
   refine WJ ?_;have O:aB (0*cM.sz) (aG 0 (dK 0 (SV.u8 0).cells))++aB ((4*i-(4*i-4))*cM.sz) (aG (0+(4*i-4)*1) (SB.row 5 (fR SV.u8 (aO key 8 i))).cells)=(dE (aO key 8 i) (i-1)).map SV.u8:=O5 (i-1) ag (show(4*i-(4*i-4))*1=4 by omega) ag;rw [O];have h9:(dE (aO key 8 i) (i-1)).length=4:=rfl;have Z:((dE (aO key 8 i) (i-1)).getD 0 0).toNat<256:=eQ _;have h6:((dE (aO key 8 i) (i-1)).getD 1 0).toNat<256:=eQ _;have hb2:((dE (aO key 8 i) (i-1)).getD 2 0).toNat<256:=eQ _;have h7:((dE (aO key 8 i) (i-1)).getD 3 0).toNat<256:=eQ _;by_cases hz:i%8=0
   .have hm:((i:Int).tmod 8==0)=ab:=by rw [htm,hz];rfl
    have hpw:fE (i/8)=iJ 8 0 (fE ((i-1)/8)) 2:=by rw [MM,show i/8=(i-1)/8+1 from by omega];rfl
    have r:tK key 8 i= [sb ((dE (aO key 8 i) (i-1)).getD 1 0)^^^fE ((i-1)/8),sb ((dE (aO key 8 i) (i-1)).getD 2 0),sb ((dE (aO key 8 i) (i-1)).getD 3 0),sb ((dE (aO key 8 i) (i-1)).getD 0 0)]:=by unfold tK;rw [if_pos hz];rfl
    have htk2:=congrArg (fR SV.u8) r;first|refine du (by exact hm) ?_|fail
    conv=>whnf
    repeat(first|refine zH (cU (i:=1) az ag) ?_|refine zH (bg (m:=1) az) ?_|refine zH (cU (i:=2) az ag) ?_|refine zH (bg (m:=2) az) ?_|refine zH (cU (i:=3) az ag) ?_|refine zH (bg (m:=3) az) ?_|refine zH (cU (i:=0) az ag) ?_|refine zH (bg (m:=0) az) ?_|refine zH (cU (i:=((dE (aO key 8 i) (i-1)).getD 1 0).toNat) aT ag) ?_|refine zH (cU (i:=((dE (aO key 8 i) (i-1)).getD 2 0).toNat) aT ag) ?_|refine zH (cU (i:=((dE (aO key 8 i) (i-1)).getD 3 0).toNat) aT ag) ?_|refine zH (cU (i:=((dE (aO key 8 i) (i-1)).getD 0 0).toNat) aT ag) ?_|refine aS ?_)
    refine zW (cP [] (f81 (fE ((i-1)/8)) 2)) ?_;refine bT 4 (λk=> [(0,.sl 0 0 256 1 fb),(1,.sl 1 0 32 1 G),(5,.i 8),(6,.sl 2 0 (4*i+k.1) 1 af),(7,.u8 (fE (i/8))),(8,.i (i:Int)),(9,.sl 3 0 4 1 ab),(10,.i (k.1:Int))]) (λk=> [ak cD,ak key,aC 5 (wK key 8 i k.1),aC 5 (tK key 8 i)]) 4 ?_ ?_
    .exact bL [0,1,2,5]
    .rintro⟨k,hk⟩;have u:=Em key 8 i k;dsimp only;by_cases hk2:k<4
     .have hlt2:decide ((k:Int)<4)=ab:=aA;have hp2:=jY k ag;have I:=Ei i 8 k ag ag ag;have hx:(tK key 8 i).getD k 0^^^(wK key 8 i k).getD (4*(i-8)+k) 0=xK key 8 i k:=by unfold xK;rw [El];omega
      have happ:aB ((4*i+k)*1) (aG 0 ((wK key 8 i k).map SV.u8))++aB (1*1) (aG 0 [SV.u8 ((tK key 8 i).getD k 0^^^(wK key 8 i k).getD (4*(i-8)+k) 0)])=(wK key 8 i (k+1)).map SV.u8:=by rw [CP u,hx,Eo]
      exact zO
     .obtain rfl:k=4:=ag;refine zy ?_;have hw4:aO key 8 (i+1)=wK key 8 i 4:=(Ek key 8 i ag).symm;exact x9
   .have hm:((i:Int).tmod 8==0)=af:=A6;have hpw:fE (i/8)=fE ((i-1)/8):=by rw [show i/8=(i-1)/8 from by omega]
    by_cases V:8=8/\i%8=4
    .skip
     have F:((i:Int).tmod 8==4)=ab:=by rw [htm,V.2];rfl
     have r:tK key 8 i= [sb ((dE (aO key 8 i) (i-1)).getD 0 0),sb ((dE (aO key 8 i) (i-1)).getD 1 0),sb ((dE (aO key 8 i) (i-1)).getD 2 0),sb ((dE (aO key 8 i) (i-1)).getD 3 0)]:=by unfold tK;rw [if_neg hz,if_pos V];rfl
     have htk2:=congrArg (fR SV.u8) r;first|refine eV (by exact hm) ?_|fail
     conv=>whnf
     repeat(first|refine zH (cU (i:=1) az ag) ?_|refine zH (bg (m:=1) az) ?_|refine zH (cU (i:=2) az ag) ?_|refine zH (bg (m:=2) az) ?_|refine zH (cU (i:=3) az ag) ?_|refine zH (bg (m:=3) az) ?_|refine zH (cU (i:=0) az ag) ?_|refine zH (bg (m:=0) az) ?_|refine zH (cU (i:=((dE (aO key 8 i) (i-1)).getD 1 0).toNat) aT ag) ?_|refine zH (cU (i:=((dE (aO key 8 i) (i-1)).getD 2 0).toNat) aT ag) ?_|refine zH (cU (i:=((dE (aO key 8 i) (i-1)).getD 3 0).toNat) aT ag) ?_|refine zH (cU (i:=((dE (aO key 8 i) (i-1)).getD 0 0).toNat) aT ag) ?_|refine zW (bl F) ?_|refine aS ?_)
     refine bT 4 (λk=> [(0,.sl 0 0 256 1 fb),(1,.sl 1 0 32 1 G),(5,.i 8),(6,.sl 2 0 (4*i+k.1) 1 af),(7,.u8 (fE (i/8))),(8,.i (i:Int)),(9,.sl 3 0 4 1 ab),(10,.i (k.1:Int))]) (λk=> [ak cD,ak key,aC 5 (wK key 8 i k.1),aC 5 (tK key 8 i)]) 4 ?_ ?_
     .exact bL [0,1,2,5]
     .rintro⟨k,hk⟩;have u:=Em key 8 i k;dsimp only;by_cases hk2:k<4
      .have hlt2:decide ((k:Int)<4)=ab:=aA;have hp2:=jY k ag;have I:=Ei i 8 k ag ag ag;have hx:(tK key 8 i).getD k 0^^^(wK key 8 i k).getD (4*(i-8)+k) 0=xK key 8 i k:=by unfold xK;rw [El];omega
       have happ:aB ((4*i+k)*1) (aG 0 ((wK key 8 i k).map SV.u8))++aB (1*1) (aG 0 [SV.u8 ((tK key 8 i).getD k 0^^^(wK key 8 i k).getD (4*(i-8)+k) 0)])=(wK key 8 i (k+1)).map SV.u8:=by rw [CP u,hx,Eo]
       exact zO
      .obtain rfl:k=4:=ag;refine zy ?_;have hw4:aO key 8 (i+1)=wK key 8 i 4:=(Ek key 8 i ag).symm;exact x9
    .skip
     have F:((i:Int).tmod 8==4)=af:=A6;have r:tK key 8 i=dE (aO key 8 i) (i-1):=by unfold tK;rw [if_neg hz,if_neg V]
     have htk2:=congrArg (fR SV.u8) r;first|refine eV (by exact hm) ?_|fail
     conv=>whnf
     repeat(first|refine zW (bC F) ?_|refine zf ?_)
     refine bT 4 (λk=> [(0,.sl 0 0 256 1 fb),(1,.sl 1 0 32 1 G),(5,.i 8),(6,.sl 2 0 (4*i+k.1) 1 af),(7,.u8 (fE (i/8))),(8,.i (i:Int)),(9,.sl 3 0 4 1 af),(10,.i (k.1:Int))]) (λk=> [ak cD,ak key,aC 5 (wK key 8 i k.1),aC 5 (tK key 8 i)]) 4 ?_ ?_
     .refine bP [0,1,2,4] ?_ ?_
      ·(repeat'(first|exact trivial|refine aJ ?_ ?_|fail))<;>first|rfl|exact iQ rfl az aT|exact nG (by exact hpw)|fail
      ·(repeat'(first|exact trivial|refine aJ ?_ ?_|fail))<;>first|exact gw (by first|exact hw0|exact r|fail)|rfl|exact aY bY az|fail
     .rintro⟨k,hk⟩;have u:=Em key 8 i k;dsimp only;by_cases hk2:k<4
      .have hlt2:decide ((k:Int)<4)=ab:=aA;have hp2:=jY k ag;have I:=Ei i 8 k ag ag ag;have hx:(tK key 8 i).getD k 0^^^(wK key 8 i k).getD (4*(i-8)+k) 0=xK key 8 i k:=by unfold xK;rw [El];omega
       have happ:aB ((4*i+k)*1) (aG 0 ((wK key 8 i k).map SV.u8))++aB (1*1) (aG 0 [SV.u8 ((tK key 8 i).getD k 0^^^(wK key 8 i k).getD (4*(i-8)+k) 0)])=(wK key 8 i (k+1)).map SV.u8:=by rw [CP u,hx,Eo]
       exact zO
      .obtain rfl:k=4:=ag;refine zy ?_;have hw4:aO key 8 (i+1)=wK key 8 i 4:=(Ek key 8 i ag).symm;exact x9
  .obtain rfl:i=60:=ag;refine zy ?_;exact kU
theorem Vt(n k:Nat):((n:Int)).tmod (k:Int)=((n%k:Nat):Int):=by rw [sk (by omega)];omega
theorem FV(b:UInt8)(z:Int)(n:Nat)(hz:z=n)(h:n<=7):aQ 122 [.u8 b,.i z] [] (.i ((b/lI n%2).toNat:Int)) []:=by subst hz;exact f82 b n h
theorem akg(i k:Nat)(hi:i<=8)(hk:k<=8):(au ((i:Int)+(k:Int))).tmod 8=(((i+k)%8:Nat):Int):=by rw [show au ((i:Int)+(k:Int))=((i+k:Nat):Int) by simp only [eI];omega];exact Vt (i+k) 8
def kE(y:UInt8)(k:Nat):Nat:=(y/lI k%2).toNat
def uE(y:UInt8)(i:Nat):Nat:=kE y ((i+0)%8)+kE y ((i+4)%8)+kE y ((i+5)%8)+kE y ((i+6)%8)+kE y ((i+7)%8)+kE 99 i
def gL(y:UInt8):Nat->UInt8
 |0=>0
 |i+1=>if uE y i%2=1 then gL y i+lI i else gL y i
theorem Ej(n a:Nat)(h:n<=10)(r:a<=1):au ((n:Int)+(a:Int))=((n+a:Nat):Int):=by simp only [eI];omega
theorem akh(a b c d e f:Nat)(r:a<=1)(hb:b<=1)(hc:c<=1)(hd:d<=1)(he:e<=1)(hf:f<=1):(au (au (au (au (au (au (0+(a:Int))+(b:Int))+(c:Int))+(d:Int))+(e:Int))+(f:Int))).tmod 2=(((a+b+c+d+e+f)%2:Nat):Int):=by rw [show(0:Int)+(a:Int)=((0+a:Nat):Int) by omega,show au ((0+a:Nat):Int)=((0+a:Nat):Int) by simp only [eI];omega];rw [Ej _ b ag hb,Ej _ c ag hc,Ej _ d ag hd,Ej _ e ag he,Ej _ f ag hf,ig];exact Vt _ 2
theorem w7(y:UInt8)(k:Nat):kE y k<=1:=by
 unfold kE;rw [UInt8.toNat_mod];show(y/lI k).toNat%2<=1
 omega
def sU:Nat->UInt8
 |0=>1
 |k+1=>iJ 8 0 (sU k) 3
def uH:Nat->UInt8
 |0=>1
 |k+1=>iJ 8 0 (uH k) 246
def py:Nat->List UInt8
 |0=>aK 256 0
 |k+1=>(py k).set (sU k).toNat (uH k)
theorem QH:∀k,(py k).length=256
 |0=>kz
 |k+1=>by show((py k).set _ _).length=256;rw [fJ];exact QH k
def yB(i:Nat):UInt8:=if i=0 then 0 else(py 255).getD i 0
def obB(i:Nat):UInt8:=gL (yB i) 8
def ja(i:Nat):List UInt8:=bR 256 i obB (λ_=>0)
theorem agt(i:Nat):(ja i).length=256:=kG ..
theorem H7:∀k j:Nat,k<8->j<8->(au ((k:Int)+(j:Int))).tmod 8=(((k+j)%8:Nat):Int):=λk j hk hj=>akg k j (by omega) (by omega)
theorem VR(y:UInt8)(i:Nat):(au (au (au (au (au (((y/lI i%2).toNat:Int)+((y/lI ((i+4)%8)%2).toNat:Int))+((y/lI ((i+5)%8)%2).toNat:Int))+((y/lI ((i+6)%8)%2).toNat:Int))+((y/lI ((i+7)%8)%2).toNat:Int))+((99/lI i%2:UInt8).toNat:Int))).tmod 2=(((kE y i+kE y ((i+4)%8)+kE y ((i+5)%8)+kE y ((i+6)%8)+kE y ((i+7)%8)+kE 99 i)%2:Nat):Int):=by
 have h:=akh _ _ _ _ _ _ (w7 y i) (w7 y ((i+4)%8)) (w7 y ((i+5)%8)) (w7 y ((i+6)%8)) (w7 y ((i+7)%8)) (w7 99 i);have e:au (0+((kE y i:Nat):Int))=((kE y i:Nat):Int):=by have:=w7 y i;rw [Int.zero_add];simp only [eI];omega
 rw [e]at h;exact h
theorem OX(y:UInt8)(i:Nat)(h:i<8):uE y i=kE y i+kE y ((i+4)%8)+kE y ((i+5)%8)+kE y ((i+6)%8)+kE y ((i+7)%8)+kE 99 i:=by unfold uE;rw [qT,gq h]
theorem akb:sU 0=1:=rfl
theorem VG(k:Nat):sU (k+1)=iJ 8 0 (sU k) 3:=rfl
theorem Zj:uH 0=1:=rfl
theorem Pd(k:Nat):uH (k+1)=iJ 8 0 (uH k) 246:=rfl
theorem ac0:py 0=aK 256 0:=rfl
theorem QI(k:Nat):py (k+1)=(py k).set (sU k).toNat (uH k):=rfl
theorem agu:ja 0=aK 256 0:=BE ..
theorem Sc(i:Nat)(h:i<256):(ja i).set i (gL (yB i) 8)=ja (i+1):=Dg h
theorem Sb(i:Nat)(h:i<256):(ja i).set i (gL (yB i) 0)=ja i:=P5 h rfl
theorem Ru{k:Nat}(h:uE y k%2=1):gL y (k+1)=gL y k+lI k:=by simp only [gL,if_pos h]
theorem Rt{k:Nat}(h:¬uE y k%2=1):gL y (k+1)=gL y k:=by simp only [gL,if_neg h]
theorem akJ(i:Nat)(h:i=0):yB i=0:=if_pos h
theorem akK(i:Nat)(h:¬i=0):yB i=(py 255).getD i 0:=if_neg h
attribute [local irreducible] sU uH py ja yB gL
theorem f46:aQ 87 [] [] (.sl 0 0 256 1 ab) [aC 5 (ja 256)]:=by
 refine aL (fn:=Tryz.f87) ?_;refine zu ?_;refine vu ?_;refine bT 255 (λk=> [(1,.sl 0 0 256 1 ab),(2,.u8 (sU k.1)),(3,.u8 (uH k.1)),(4,.i (k.1:Int))]) (λk=> [aC 5 (py k.1)]) 1 ?_ ?_
 .dsimp only;rw [akb,Zj,ac0];exact bL [0]
 .rintro⟨k,hk⟩;have hl:=QH k;refine nH ?_;refine⟨λhc=>?_,λhc=>?_⟩
  .have hk2:k<255:=ov;have hp1:=jY k ag;have hu:(sU k).toNat<256:=eQ _;conv=>whnf
   repeat(first|refine zH (nC (i:=(sU k).toNat) aT) ?_|refine aS ?_)
   refine zW (cP [] (f81 (sU k) 3)) ?_;refine zW (cP [] (f81 (uH k) 246)) ?_;refine yG ?_;refine bP [0] ?_ ?_
   ·(repeat'(first|exact trivial|refine aJ ?_ ?_|fail))<;>first|rfl|exact dh (by first|rfl|exact hp1.symm|fail)|exact nG (by first|(simp [hp1,VG,Pd,QI];done)|fail)|fail
   ·(repeat'(first|exact trivial|refine aJ ?_ ?_|fail))<;>first|rfl|exact aY bY (by first|(simp [hp1,VG,Pd,QI];done)|fail)|fail
  .obtain rfl:k=255:=ov;conv=>whnf
   refine vu ?_;refine bT 256 (λi=> [(1,.sl 0 0 256 1 ab),(5,.sl 1 0 256 1 ab),(6,.i (i.1:Int))]) (λi=> [aC 5 (py 255),aC 5 (ja i.1)]) 2 ?_ ?_
   .dsimp only;rw [agu];exact bL [0,1]
   .rintro⟨i,hi⟩;have ho:=agt i;dsimp only;by_cases r:i<256
    .have hlt:decide ((i:Int)<256)=ab:=aA;have hp1:=jY i ag;conv=>whnf
     refine zW (du (by exact hlt)) ?_;refine Xj ?_;by_cases h0:i=0
     .have hy:yB i=0:=by exact akJ i h0
      refine zW (du aA) ?_;refine bT 8 (λk=> [(1,.sl 0 0 256 1 ab),(5,.sl 1 0 256 1 ab),(6,.i (i:Int)),(7,.u8 (yB i)),(8,.i (k.1:Int))]) (λk=> [aC 5 (py 255),aC 5 ((ja i).set i (gL (yB i) k.1))]) 2 ?_ ?_
      .have hs:(ja i).set i (gL (yB i) 0)=ja i:=Sb i r;refine bP [0,1] ?_ ?_
       ·(repeat'(first|exact trivial|refine aJ ?_ ?_|fail))<;>first|rfl|exact nG (by exact hy)|fail
       ·(repeat'(first|exact trivial|refine aJ ?_ ?_|fail))<;>first|rfl|exact aY bY az|exact gw (by exact hs)|fail
      .rintro⟨k,hk⟩;have hl2:((ja i).set i (gL (yB i) k)).length=256:=cJ;dsimp only;by_cases hk2:k<8
       .have hlt2:decide ((k:Int)<8)=ab:=aA;have hp2:=jY k ag;refine Xb ?_;have hcn:=VR (yB i) k;rw [<-OX (yB i) k hk2]at hcn;by_cases h1:uE (yB i) k%2=1
        .have ht:gL (yB i) (k+1)=gL (yB i) k+lI k:=Ru h1;have hs:((ja i).set i (gL (yB i) k)).set i (((ja i).set i (gL (yB i) k)).getD i 0+lI k)=(ja i).set i (gL (yB i) (k+1)):=by rw [Ti (by omega),ht]
         rw [h1]at hcn;refine xd ?_;refine bP [0,1] ?_ ?_
         .exact bU
         ·(repeat'(first|exact trivial|refine aJ ?_ ?_|fail))<;>first|rfl|exact aY bY az|exact gw (by exact hs.symm)|fail
        .have ht:gL (yB i) (k+1)=gL (yB i) k:=Rt h1;rw [show uE (yB i) k%2=0 by omega]at hcn;refine zc ?_;refine zW (eV (by rw [hcn];rfl)) ?_;refine yG ?_;refine bP [0,1] ?_ ?_
         .exact bU
         ·(repeat'(first|exact trivial|refine aJ ?_ ?_|fail))<;>first|rfl|exact aY bY az|exact gw (by first|(simp [hp2,ht];done)|fail)|fail
       .obtain rfl:k=8:=ag;have hs:(ja i).set i (gL (yB i) 8)=ja (i+1):=Sc i r;conv=>whnf
        refine zW (eV az) ?_;refine zC ?_;refine bP [0,1] ?_ ?_
        .exact bU
        ·(repeat'(first|exact trivial|refine aJ ?_ ?_|fail))<;>first|rfl|exact aY bY (by first|rfl|(simp [hp1,hs];done)|fail)|fail
     .have hy:yB i=(py 255).getD i 0:=by first|exact akK i h0
      refine zW (eV aA) ?_;refine bT 8 (λk=> [(1,.sl 0 0 256 1 ab),(5,.sl 1 0 256 1 ab),(6,.i (i:Int)),(7,.u8 (yB i)),(8,.i (k.1:Int))]) (λk=> [aC 5 (py 255),aC 5 ((ja i).set i (gL (yB i) k.1))]) 2 ?_ ?_
      .have hs:(ja i).set i (gL (yB i) 0)=ja i:=Sb i r;refine bP [0,1] ?_ ?_
       ·(repeat'(first|exact trivial|refine aJ ?_ ?_|fail))<;>first|rfl|exact nG (by exact hy)|fail
       ·(repeat'(first|exact trivial|refine aJ ?_ ?_|fail))<;>first|rfl|exact aY bY az|exact gw (by exact hs)|fail
      .rintro⟨k,hk⟩;have hl2:((ja i).set i (gL (yB i) k)).length=256:=cJ;dsimp only;by_cases hk2:k<8
       .have hlt2:decide ((k:Int)<8)=ab:=aA;have hp2:=jY k ag;refine Xb ?_;have hcn:=VR (yB i) k;rw [<-OX (yB i) k hk2]at hcn;by_cases h1:uE (yB i) k%2=1
        .have ht:gL (yB i) (k+1)=gL (yB i) k+lI k:=Ru h1;have hs:((ja i).set i (gL (yB i) k)).set i (((ja i).set i (gL (yB i) k)).getD i 0+lI k)=(ja i).set i (gL (yB i) (k+1)):=by rw [Ti (by omega),ht]
         rw [h1]at hcn;refine xd ?_;refine bP [0,1] ?_ ?_
         .exact bU
         ·(repeat'(first|exact trivial|refine aJ ?_ ?_|fail))<;>first|rfl|exact aY bY az|exact gw (by exact hs.symm)|fail
        .have ht:gL (yB i) (k+1)=gL (yB i) k:=Rt h1;rw [show uE (yB i) k%2=0 by omega]at hcn;refine zc ?_;refine zW (eV (by rw [hcn];rfl)) ?_;refine yG ?_;refine bP [0,1] ?_ ?_
         .exact bU
         ·(repeat'(first|exact trivial|refine aJ ?_ ?_|fail))<;>first|rfl|exact aY bY az|exact gw (by first|(simp [hp2,ht];done)|fail)|fail
       .obtain rfl:k=8:=ag;have hs:(ja i).set i (gL (yB i) 8)=ja (i+1):=Sc i r;conv=>whnf
        refine zW (eV az) ?_;refine zC ?_;refine bP [0,1] ?_ ?_
        .exact bU
        ·(repeat'(first|exact trivial|refine aJ ?_ ?_|fail))<;>first|rfl|exact aY bY (by first|rfl|(simp [hp1,hs];done)|fail)|fail
    .obtain rfl:i=256:=ag;have u:decide (((256:Nat):Int)<256)=af:=aw;conv=>whnf
     refine zW (eV (by exact u)) ?_;exact bE [1]
end Go.Sh
namespace Go.Sh
open Go.Proofs
theorem aiw:cD= [99,124,119,123,242,107,111,197,48,1,103,43,254,215,171,118,202,130,201,125,250,89,71,240,173,212,162,175,156,164,114,192,183,253,147,38,54,63,247,204,52,165,229,241,113,216,49,21,4,199,35,195,24,150,5,154,7,18,128,226,235,39,178,117,9,131,44,26,27,110,90,160,82,59,214,179,41,227,47,132,83,209,0,237,32,252,177,91,106,203,190,57,74,76,88,207,208,239,170,251,67,77,51,133,69,249,2,127,80,60,159,168,81,163,64,143,146,157,56,245,188,182,218,33,16,255,243,210,205,12,19,236,95,151,68,23,196,167,126,61,100,93,25,115,96,129,79,220,34,42,144,136,70,238,184,20,222,94,11,219,224,50,58,10,73,6,36,92,194,211,172,98,145,149,228,121,231,200,55,109,141,213,78,169,108,86,244,234,101,122,174,8,186,120,37,46,28,166,180,198,232,221,116,31,75,189,139,138,112,62,181,102,72,3,246,14,97,53,87,185,134,193,29,158,225,248,152,17,105,217,142,148,155,30,135,233,206,85,40,223,140,161,137,13,191,230,66,104,65,153,45,15,176,84,187,22]:=by kernel_rfl
theorem Lp:ja 256=cD:=by rw [aiw];kernel_rfl
theorem ru{L k:List UInt8}{o n:Nat}(h:(L.drop o).take n=k):((L.map SV.u8).drop o).take n=k.map .u8:=by rw [<-h,iU,o0]
theorem Dd(fl:Bool)(L key:List UInt8)(o:Nat)(hk:key.length=16)(r:(L.drop o).take 16=key):aM 49 [.sl 0 o 16 1 fl] [ak L] (.tup [.p 1 0,.i 0]) [al (cD.map .u8++ [.sl 2 0 44 4 af]),aC 179 (aO key 4 44)]:=
 (Z6 fl key hk).sub 0 o (L.map .u8) (key.map .u8) 5 rfl rfl (by rw [dm,hk];exact ru r) aq aq aw ⟨.inl rfl,trivial⟩ rfl ⟨.inl rfl,trivial⟩
  ⟨.inl rfl,.inr (.inr (by simp only [cZ];rw [DN (cY _) (c:= [SV.sl 2 0 44 4 af]) rfl])),.inr (.inl aq),trivial⟩
theorem FN(fl:Bool)(L key:List UInt8)(o:Nat)(hk:key.length=32)(r:(L.drop o).take 32=key):aM 49 [.sl 0 o 32 1 fl] [ak L] (.tup [.p 1 0,.i 0]) [al (cD.map .u8++ [.sl 2 0 60 4 af]),aC 179 (aO key 8 60)]:=
 (Z7 fl key hk).sub 0 o (L.map .u8) (key.map .u8) 5 rfl rfl (by rw [dm,hk];exact ru r) aq aq aw ⟨.inl rfl,trivial⟩ rfl ⟨.inl rfl,trivial⟩
  ⟨.inl rfl,.inr (.inr (by simp only [cZ];rw [DN (cY _) (c:= [SV.sl 2 0 60 4 af]) rfl])),.inr (.inl aq),trivial⟩
theorem PN(n:Nat)(fl:Bool)(w:List UInt8)(R:Nat)(hn:n=4*(R+1))(hR:w.length=16*(R+1))(r:1<=R)(u:R<=20)(b:List UInt8)(hb:b.length=16):aM 118 [.p 0 0,.agg (b.map .u8)] [an (cD.map .u8++ [.sl 1 0 n 4 fl]),ak w] (.agg ((iH w R b R).map .u8)) []:=by obtain⟨W,s1,s2,Z,s4,s5,s6,s7,s8,s9,F,G,I,O,U,V,rfl⟩:=Bw hb;subst hn;exact f47 fl w R hR r u W s1 s2 Z s4 s5 s6 s7 s8 s9 F G I O U V
theorem Cv(key:List UInt8):(aO key 4 44).length=176:=vr key 4 44
theorem H8(key:List UInt8):(aO key 8 60).length=240:=vr key 8 60
def j7(b:List UInt8)(k:Nat):List UInt8:=(cQ 16).map λj=>b.getD (16*k+j) 0
theorem OT(b:List UInt8)(k:Nat):(j7 b k).length=16:=od
def yS(h b:List UInt8):Nat->UInt64×UInt64
 |0=>(0,0)
 |k+1=>kR ((yS h b k).1^^^(lh (j7 b k)).1,(yS h b k).2^^^(lh (j7 b k)).2) (lh h) 128
theorem Wb(h b:List UInt8):yS h b 0=(0,0):=rfl
theorem Wa(h b:List UInt8)(k:Nat):yS h b (k+1)=kR ((yS h b k).1^^^(lh (j7 b k)).1,(yS h b k).2^^^(lh (j7 b k)).2) (lh h) 128:=rfl
def rC(h b:List UInt8):List UInt8:=pj (yS h b ((b.length+15)/16))
theorem Gd(h b:List UInt8):(rC h b).length=16:=od
theorem YK(D b:List UInt8)(o k c:Nat)(hD:(D.drop o).take b.length=b)(hk:16*k<b.length)(hc:c=min (b.length-16*k) 16):bN (aK 16 (SV.u8 0)) 0 (.agg (aB c (aB (b.length-16*k) (aG (o+16*k) (D.map SV.u8)))))=(j7 b k).map SV.u8:=by
 subst hc;have hb:b.map SV.u8=(aB b.length (aG o (D.map SV.u8))):=(ru hD).symm;have e:aB (b.length-16*k) (aG (o+16*k) (D.map SV.u8))=(b.map SV.u8).drop (16*k):=by rw [hb,sX,ng]
 rw [e];apply ku;intro j;have hl:(aB (min (b.length-16*k) 16) (aG (16*k) (b.map SV.u8))).length=min (b.length-16*k) 16:=by simp only [eZ,fQ,dm];omega
 rw [AL _ _ _ (by simp only [SV.cells,kz];rw [hl];omega)];simp only [SV.cells,wT,jA,ig,hl];by_cases h1:j<min (b.length-16*k) 16
 .rw [gP (by rw [hl];exact h1),ic h1,iS];have h2:j<16:=ag;have h3:16*k+j<b.length:=ag;simp only [j7,ky,wR h2,nq,dy h3,dk,Option.getD_some]
 .rw [iR (by rw [hl];omega),hl,iS];by_cases h2:j<16
  .rw [show min (b.length-16*k) 16+(j-min (b.length-16*k) 16)=j by omega,List.getElem?_replicate,if_pos h2];simp only [j7,ky,wR h2,nq,dk];rw [dI ag];rfl
  .rw [dI aA,dI (by simp [j7];omega)]
attribute [local irreducible] yS j7 kR mS iK
theorem f60(h D b:List UInt8)(o:Nat)(f:Bool)(hh:h.length=16)(hD:(D.drop o).take b.length=b)(h7:o+b.length<=D.length)(hb:b.length<100000000000000):aM 117 [.agg (h.map .u8),.sl 0 o b.length 1 f] [ak D] (.agg ((rC h b).map .u8)) []:=by
 have F:=f90 h hh;obtain⟨K,V⟩:=ax (lh h);have W:mS (iK h 0 8)=K.1:=by rw [V];rfl
 have hK2:mS (iK h 8 8)=K.2:=by rw [V];rfl
 rw [W,hK2]at F;refine aL (fn:=Tryz.f117) ?_;refine zu ?_;repeat(first|refine zH (cK rfl qM) ?_)
 refine zW (cP [] F) ?_;refine zJ ?_;refine bp.weak (cl.unfull 1 rfl) ?_;refine bT ((b.length+15)/16) (λk=> [(1,.sl 0 (o+min (16*k.1) b.length) (b.length-min (16*k.1) b.length) 1 af),(6,.p 4 0),(5,.p 3 0),(4,.p 2 0)]) (λk=> [ak D,ah,al (aK 16 (.u8 0)),al [.u64 K.1,.u64 K.2],al [.u64 (yS h b k.1).1,.u64 (yS h b k.1).2]]) 5 ?_ ?_
 .dsimp only;rw [Wb];exact yH
 .rintro⟨k,hk⟩;dsimp only;by_cases hk2:16*k<b.length
  .have r:min (16*k) b.length=16*k:=ag;have hlt:decide (((b.length-16*k:Nat):Int)>0)=ab:=aA;have O:=YK D b o k _ hD hk2 rfl;have G:=f90 (j7 b k) (OT b k);have Z:=OT b k;rw [r];have u:bN (aK 16 (SV.u8 0)) (0+0*cM.sz) (SV.agg (aB (min (b.length-16*k) (16-0)*cM.sz) (aB ((b.length-16*k)*cM.sz) (aG (o+16*k) (SB.ro (fR SV.u8 D)).cells))))=(j7 b k).map SV.u8:=by rw [show min (b.length-16*k) (16-0)*cM.sz=min (b.length-16*k) 16 from fS _,show(b.length-16*k)*cM.sz=b.length-16*k from fS _];exact O
   have hld:(if 0+HM.sz<=(SB.box (fR SV.u8 (j7 b k))).cells.length then aa (SV.agg (aB HM.sz (aG 0 (SB.box (fR SV.u8 (j7 b k))).cells)))else ah)=aa (SV.agg ((j7 b k).map SV.u8)):=
    cK (sz:=16) (k:=0) rfl (by simp [Z])
   have U:=Wa h b k;rw [<-V]at U;refine zt ?_;repeat(first|refine zH (cK rfl az) ?_|refine zW (iN rfl) ?_|refine aS ?_)
   rw [u,hld];conv=>whnf
   refine zW (cP [] G) ?_;refine zW (cP [] (f91 (yS h b k).1 (yS h b k).2 (lh (j7 b k)).1 (lh (j7 b k)).2)) ?_;refine yl ?_;refine zW (cP [] (f92 ((yS h b k).1^^^(lh (j7 b k)).1,(yS h b k).2^^^(lh (j7 b k)).2) K)) ?_;refine zJ ?_;refine yG ?_;dsimp only;rw [U];refine bP [0,1,2,3,4] ?_ ?_
   ·(repeat'(first|exact trivial|refine aJ ?_ ?_|fail))<;>first|rfl|exact iQ rfl ag ag|fail
   .exact zo
  .have r:min (16*k) b.length=b.length:=ag;have hke:k=(b.length+15)/16:=ag;rw [r,pR];have I:=f93 (yS h b k).1 (yS h b k).2;have hfin:(cQ 16).map (bB (yS h b k).1 (yS h b k).2)=rC h b:=by rw [hke];rfl
   have h6:=Gd h b;rw [hfin]at I;refine zy ?_;refine yl ?_;refine zW (aE [] [] ab I) ?_;refine zq ?_;exact gH
end Go.Sh
namespace Go.Sh
open Go.Proofs
theorem f54(c0 c1 c2 c3 c4 c5 c6 c7 c8 c9 Z h6 r u F G:UInt8):aQ 79 [.agg ([c0,c1,c2,c3,c4,c5,c6,c7,c8,c9,Z,h6,r,u,F,G].map .u8)] [] (.agg ((rK [c0,c1,c2,c3,c4,c5,c6,c7,c8,c9,Z,h6,r,u,F,G]).map .u8)) []:=by
 have hn:rK [c0,c1,c2,c3,c4,c5,c6,c7,c8,c9,Z,h6,r,u,F,G]= [c0,c1,c2,c3,c4,c5,c6,c7,c8,c9,Z,h6]++oL r u F G:=rfl;rw [hn];refine aL (fn:=Tryz.f79) ?_;refine zu ?_;refine wD ?_;by_cases O:G+1≠0
 .have hq:oL r u F G= [r,u,F,G+1]:=by unfold oL;rw [if_pos O]
  have g15:(G+1 !=0)=ab:=by simp [O]
  rw [hq];repeat(first|refine zH (cK rfl az) ?_|refine zH (df rfl az) ?_|refine zW (bl g15) ?_|refine aS ?_)
  exact gI
 .have g15:(G+1 !=0)=af:=by simpa using O
  by_cases W:F+1≠0
  .have hq:oL r u F G= [r,u,F+1,G+1]:=by unfold oL;rw [if_neg O,if_pos W]
   have g14:(F+1 !=0)=ab:=by simp [W]
   rw [hq];repeat(first|refine zH (cK rfl az) ?_|refine zH (df rfl az) ?_|refine zW (bC g15) ?_|refine zW (bl g14) ?_|refine aS ?_)
   exact gI
  .have g14:(F+1 !=0)=af:=by simpa using W
   by_cases I:u+1≠0
   .have hq:oL r u F G= [if u+1≠0 then r else r+1,u+1,F+1,G+1]:=by unfold oL;rw [if_neg O,if_neg W];simp only [if_pos I]
    have g13:(u+1 !=0)=ab:=by simpa using I
    rw [hq];simp only [if_pos I];by_cases V:r+1≠0
    .have U:(r+1 !=0)=ab:=by simp [V]
     exact Wq
    .have U:(r+1 !=0)=af:=by simpa using V
     exact Wq
   .have hq:oL r u F G= [if u+1≠0 then r else r+1,u+1,F+1,G+1]:=by unfold oL;rw [if_neg O,if_neg W];simp only [if_neg I]
    have g13:(u+1 !=0)=af:=by simpa using I
    rw [hq];simp only [if_neg I];by_cases V:r+1≠0
    .have U:(r+1 !=0)=ab:=by simp [V]
     repeat(first|refine zH (cK rfl az) ?_|refine zH (df rfl az) ?_|refine zW (bC g15) ?_|refine zW (bC g14) ?_|refine zW (bC g13) ?_|refine zW (bl U) ?_|refine aS ?_)
     exact gI
    .have U:(r+1 !=0)=af:=by simpa using V
     repeat(first|refine zH (cK rfl az) ?_|refine zH (df rfl az) ?_|refine zW (bC g15) ?_|refine zW (bC g14) ?_|refine zW (bC g13) ?_|refine zW (bC U) ?_|refine aS ?_)
     exact gI
theorem Ai(c:List UInt8)(hc:c.length=16):aQ 79 [.agg (c.map .u8)] [] (.agg ((rK c).map .u8)) []:=by obtain⟨U,s1,s2,V,W,Z,s6,s7,s8,s9,r,u,F,G,I,O,rfl⟩:=Bw hc;exact f54 U s1 s2 V W Z s6 s7 s8 s9 r u F G I O
theorem f89(n:Nat)(fl:Bool)(w:List UInt8)(c:List UInt8):aM 86 [.p 0 0,.agg (c.map .u8)] [an (cD.map .u8++ [.sl 1 0 n 4 fl]),ak w] (.fn 120 [.p 2 0,.p 3 0]) [al [.p 0 0],dn c]:=by refine aL (fn:=Tryz.f86) ?_;refine zu ?_;exact bE [0,1,2,3]
theorem vO(n:Nat)(fl:Bool)(w:List UInt8)(R:Nat)(hn:n=4*(R+1))(hw:w.length=16*(R+1))(Z:1<=R)(h6:R<=20)(c D b:List UInt8)(o:Nat)(hD:(D.drop o).take b.length=b)(h9:o+b.length<=D.length)(hc:c.length=16)(hb:b.length<100000000000000)(f1 f2:Bool):aM 51 [.p 0 0,.agg (c.map .u8),.sl 2 0 1 1 f1] [an (cD.map .u8++ [.sl 1 0 n 4 fl]),ak w,an [.sl 3 o b.length 1 f2],ak D] (.tup [.sl 4 0 b.length 1 af,.i 0]) [aC 5 (iP w R c b)]:=by
 have W:=f89 n fl w c;have h7:b.map SV.u8=aB (b.length*1) (aG o (D.map SV.u8)):=by rw [fS];exact(ru hD).symm
 refine aL (fn:=Tryz.f51) ?_;refine oY ?_;refine zW (pC dw fq bD 2) ?_;repeat(first|refine zH (cK rfl qM) ?_|refine aS ?_)
 refine zW (aE [0,1] [af,ab,af,ab] af W) ?_;refine bp.weak (R0:= [(8,.p 5 0),(11,.p 7 0),(28,.fn 120 [.p 8 0,.p 9 0])]) (H0:= [an (cD.map .u8++ [.sl 1 0 n 4 fl]),ak w,an [.sl 3 o b.length 1 f2],ak (D),ah,al [.sl 6 0 b.length 1 af],aC 5 b,al [.i 0],al [.p 0 0],dn c]) (L0:=10) ?_ ?_
 .refine bP [0,1,2,3,4,5,6,7,8,9] ?_ ?_
  .exact zo
  ·(repeat'(first|exact trivial|exact aY (cY _) h7|refine aJ ?_ ?_|(refine dM ?_ ?_)))<;>first|rfl|exact aY bY az|exact ke bY az rfl|fail
 refine Lz rfl rfl rfl (by kernel_rfl:Tryz.prog.funcs[120]?=aa Tryz.f120) rfl rfl rfl rfl ?_;intro U V G I;refine zu ?_;refine fH (ι:={k:Nat//k=0\/16*k<b.length}) (λk=> [(0,.yld 10),(1,.p 8 0),(2,.p 9 0)]) (λk=> [an (cD.map .u8++ [.sl 1 0 n 4 fl]),ak w,an [.sl 3 o b.length 1 f2],ak (D),ah,al [.sl 6 0 b.length 1 af],aC 5 (bR b.length (16*k.1) (fB w R c b) (λj=>b.getD j 0)),al [.i ((16*k.1:Nat):Int)],al [.p 0 0],dn (j8 c k.1),aa (.obj (.loop [(8,.p 5 0),(11,.p 7 0)] Tryz.f51.ntmps [29] U V))]) (λ_=>11) (λk=>b.length-16*k.1) ⟨0,.inl rfl⟩ ?_ ?_
 .have hz:bR b.length (16*0) (fB w R c b) (λj=>b.getD j 0)=b:=Aj rfl;exact bL [0,1,2,3,4,5,6,7,8,9,10]
 .rintro⟨k,hk⟩;have hf:=kG b.length (16*k) (fB w R c b) (λj=>b.getD j 0);have F:=Aa hc k;have hse:=PN n fl w R hn hw Z h6 (j8 c k) F;have h54:=Ai (j8 c k) F;rw [KM]at hse;have hkl:=Gp (w:=w) (R:=R) hc k;refine nH ?_;repeat(first|refine zH (cK rfl qM) ?_|refine zf ?_)
  refine zW (aE [0,1] [af,af] ab hse) ?_;refine zc ?_;have O:b.length<=16*(k+1)\/16*(k+1)<b.length:=ag;rcases O with hca|hca
  .refine rO 10 [5,6,7] [af,af,ab,ab] (rV (ps:= [29]) (N:=Tryz.f51.ntmps) (R0:= [(8,.p 1 0),(11,.p 3 0)]) (args0:= [.agg ((nX w R c k).map .u8)]) (ex:=(.exit 2)) (H0t:= [al [.sl 2 0 b.length 1 af],aC 5 (bR b.length (16*k) (fB w R c b) (λj=>b.getD j 0)),al [.i ((16*k:Nat):Int)]]) (H1t:= [al [.sl 2 0 b.length 1 af],aC 5 (bR b.length (b.length) (fB w R c b) (λj=>b.getD j 0)),al [.i ((b.length:Nat):Int)]]) (.inr (.inr ⟨2,rfl⟩)) rfl rfl rfl ?_) rfl rfl ⟨⟨rfl,XN⟩,bU,IJ,?_⟩
   .subst G;subst I;refine Xk ?_;refine fH (ι:={i:Nat//i<=16/\16*k+i<=b.length}) (λi=> [(8,.p 1 0),(11,.p 3 0),(12,.p 4 0),(13,.i (i.1:Int))]) (λi=> [ah,al [.sl 2 0 b.length 1 af],aC 5 (bR b.length (16*k+i.1) (fB w R c b) (λj=>b.getD j 0)),al [.i ((16*k+i.1:Nat):Int)],dn (nX w R c k)]) (λ_=>5) (λi=>16-i.1) ⟨0,ag,ag⟩ ?_ ?_
    .exact yH
    .rintro⟨i,hi,him⟩;have hf:=kG b.length (16*k+i) (fB w R c b) (λj=>b.getD j 0);dsimp only;by_cases h8:i<16
     .have hl1:decide ((i:Int)<16)=ab:=aA;by_cases hm2:16*k+i<b.length
      .have hl2:decide (((16*k+i:Nat):Int)<(b.length:Int))=ab:=aA;have hp1:=AU i ag;have hp2:=AU (16*k+i) ag;have hx:(bR b.length (16*k+i) (fB w R c b) (λj=>b.getD j 0)).getD (16*k+i) 0^^^(nX w R c k).getD i 0=fB w R c b (16*k+i):=by rw [qe hm2,if_neg ag];unfold fB;rw [show(16*k+i)/16=k by omega,show(16*k+i)%16=i by omega]
       have hst:=nx (g:=λj=>b.getD j 0) hm2 hx;refine yo ?_;refine bP [0,1,2,3,4] ?_ ?_
       .exact bU
       ·(repeat'(first|exact trivial|refine aJ ?_ ?_|(refine dM ?_ ?_)))<;>first|exact gw (by first|exact hst|exact hst.symm|fail)|rfl|exact dh (by first|rfl|exact hp2.symm|fail)|exact aY bY az|fail
      .have hl2:decide (((16*k+i:Nat):Int)<(b.length:Int))=af:=aA;have u:16*k+i=b.length:=ag;have r:(((16*k+i:Nat):Int)==(b.length:Int))=ab:=aA;conv=>whnf
       repeat(first|refine zW (bl hl1) ?_|refine zW (iN hl1) ?_|refine zW (bC hl2) ?_|refine zW (bl r) ?_|refine aS ?_)
       have hfm:bR b.length (16*k+i) (fB w R c b) (λj=>b.getD j 0)=bR b.length (b.length) (fB w R c b) (λj=>b.getD j 0):=by rw [u]
       exact⟨[0,1,2,3],rfl,rfl,XO,rfl⟩
     .obtain rfl:i=16:=ag;have hl1:decide (((16:Nat):Int)<16)=af:=aw;have u:16*k+16=b.length:=ag;have r:(((16*k+16:Nat):Int)==(b.length:Int))=ab:=aA;conv=>whnf
      repeat(first|refine zW (cO hl1) ?_|refine zW (bl r) ?_|refine aS ?_)
      have hfm:bR b.length (16*k+16) (fB w R c b) (λj=>b.getD j 0)=bR b.length (b.length) (fB w R c b) (λj=>b.getD j 0):=by rw [u]
      exact⟨[0,1,2,3],rfl,rfl,XO,rfl⟩
   .refine zL ?_;have htl:bR b.length b.length (fB w R c b) (λj=>b.getD j 0)=iP w R c b:=p9 ..;refine⟨[0,1,2,3,6],?_,rfl,rfl,?_,rfl⟩
    .exact zo
    ·(repeat'(first|exact trivial|refine aJ ?_ ?_|(refine dM ?_ ?_)))<;>first|exact gw (by first|exact htl|exact htl.symm|fail)|rfl|exact aY bY az|exact ke bY az rfl|fail
  .refine rO 10 [5,6,7] [af,af,ab,ab] (rV (ps:= [29]) (N:=Tryz.f51.ntmps) (R0:= [(8,.p 1 0),(11,.p 3 0)]) (args0:= [.agg ((nX w R c k).map .u8)]) (ex:= .normal) (H0t:= [al [.sl 2 0 b.length 1 af],aC 5 (bR b.length (16*k) (fB w R c b) (λj=>b.getD j 0)),al [.i ((16*k:Nat):Int)]]) (H1t:= [al [.sl 2 0 b.length 1 af],aC 5 (bR b.length (16*(k+1)) (fB w R c b) (λj=>b.getD j 0)),al [.i ((16*(k+1):Nat):Int)]]) (.inl rfl) rfl rfl rfl ?_) rfl rfl ⟨⟨rfl,XN⟩,bU,IJ,?_⟩
   .subst G;subst I;refine Xk ?_;refine fH (ι:={i:Nat//i<=16/\16*k+i<=b.length}) (λi=> [(8,.p 1 0),(11,.p 3 0),(12,.p 4 0),(13,.i (i.1:Int))]) (λi=> [ah,al [.sl 2 0 b.length 1 af],aC 5 (bR b.length (16*k+i.1) (fB w R c b) (λj=>b.getD j 0)),al [.i ((16*k+i.1:Nat):Int)],dn (nX w R c k)]) (λ_=>5) (λi=>16-i.1) ⟨0,ag,ag⟩ ?_ ?_
    .exact yH
    .rintro⟨i,hi,him⟩;have hf:=kG b.length (16*k+i) (fB w R c b) (λj=>b.getD j 0);dsimp only;by_cases h8:i<16
     .have hl1:decide ((i:Int)<16)=ab:=aA;by_cases hm2:16*k+i<b.length
      .have hl2:decide (((16*k+i:Nat):Int)<(b.length:Int))=ab:=aA;have hp1:=AU i ag;have hp2:=AU (16*k+i) ag;have hx:(bR b.length (16*k+i) (fB w R c b) (λj=>b.getD j 0)).getD (16*k+i) 0^^^(nX w R c k).getD i 0=fB w R c b (16*k+i):=by rw [qe hm2,if_neg ag];unfold fB;rw [show(16*k+i)/16=k by omega,show(16*k+i)%16=i by omega]
       have hst:=nx (g:=λj=>b.getD j 0) hm2 hx;refine yo ?_;refine bP [0,1,2,3,4] ?_ ?_
       .exact bU
       ·(repeat'(first|exact trivial|refine aJ ?_ ?_|(refine dM ?_ ?_)))<;>first|exact gw (by first|exact hst|exact hst.symm|fail)|rfl|exact dh (by first|rfl|exact hp2.symm|fail)|exact aY bY az|fail
      .have hl2:decide (((16*k+i:Nat):Int)<(b.length:Int))=af:=aA;exact absurd hca ag
     .obtain rfl:i=16:=ag;have hl1:decide (((16:Nat):Int)<16)=af:=aw;have u:16*k+16=16*(k+1):=ag;have r:(((16*k+16:Nat):Int)==(b.length:Int))=af:=aA;conv=>whnf
      repeat(first|refine zW (cO hl1) ?_|refine zW (bC r) ?_|refine aS ?_)
      have hfm:bR b.length (16*k+16) (fB w R c b) (λj=>b.getD j 0)=bR b.length (16*(k+1)) (fB w R c b) (λj=>b.getD j 0):=by rw [u]
      exact⟨[0,1,2,3],rfl,rfl,bU,rfl⟩
   .conv=>whnf
    repeat(first|refine zH (cK rfl qM) ?_|refine zf ?_)
    refine zW (aE [] [] ab h54) ?_;have hnl:=Rn F;repeat(first|refine zH (df rfl (by first|rfl|(simp [F,hnl];done)|fail)) ?_|refine aS ?_)
    refine⟨⟨k+1,.inr ag⟩,dt,?_⟩;exact bL [0,1,2,3,4,5,6,7,8,9,10]
end Go.Sh
