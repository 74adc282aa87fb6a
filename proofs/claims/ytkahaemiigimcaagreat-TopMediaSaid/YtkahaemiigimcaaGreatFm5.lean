/- Merged for a claim: M5h, M5hw, M8, M9, M10, M12, V4. -/
import Derived.Test.YtkahaemiigimcaaGreatFm4
set_option linter.unusedSimpArgs false
set_option linter.unusedVariables false
set_option maxHeartbeats 8000000
open Option renaming some->aa,none->ah
open Bool renaming true->ab,false->af
open List renaming take->aB,drop->aG,replicate->aK,length_append->aW,take_of_length_le->bW,drop_zero->cq,range->cQ,getD_eq_getElem?_getD->dk,getElem?_eq_getElem->dy,getElem?_eq_none->dI,map_append->dU,length_drop->fQ,map->fR,mem_cons->gy,append_assoc->iw,append_nil->jz,mem_of_getElem?->jO,getElem?_map->ky,getElem?_cons_succ->pP,map_congr_left->qQ
open UInt64 renaming ofNat->aF
open And renaming intro->aJ
open Nat renaming mul_one->fS,zero_add->ig,zero_le->kD
open Int renaming toNat_natCast->mq
open UInt8 renaming xor_zero->vE
namespace Go.Sh
open Go.Proofs
variable{ps:List cC}
def fU(r:List UInt8)(ps:List cC):Nat->List UInt8
 |0=> []
 |i+1=>r++kO ps i
theorem Sf(r:List UInt8)(ps:List cC):fU r ps 1=fU r ps 0++r:=by show r++kO ps 0= []++r;rw [agH];simp
theorem Si{r:List UInt8}{i:Nat}{p:cC}(h:ps[i]?=aa p):fU r ps (i+1+1)=fU r ps (i+1)++p.2.2:=by
 show r++kO ps (i+1)=r++kO ps i++p.2.2
 rw [agG h,iw]
theorem Sg(r:List UInt8)(ps:List cC):∀i,(fU r ps i).length<=(fU r ps (ps.length+1)).length
 |0=>kD _
 |i+1=>by
  show(r++kO ps i).length<=(r++kO ps ps.length).length
  have:=agF ps i;rw [aW,aW];omega
theorem DG(r:List UInt8)(ps:List cC):fU r ps (ps.length+1)=r++(ps.map (λp=>p.2.2)).flatten:=by
 show r++kO ps ps.length=_
 rw [agE]
theorem Tq{x:SV}{i:Nat}{p:cC}(h:ps[i]?=aa p):dz af 1 (x::ps.map cA) (0+(i+1)*1)=aa (.lit p.1):=by
 show(x::ps.map cA)[0+(i+1)*1]?=_
 rw [ig,fS,pP,ky,h];rfl
attribute [local irreducible] nR fX qE jd oI d9 jE At jv pA kO fU
theorem ZH(h k:List UInt32)(hh:h.length=8)(hk:k.length=64)(u:List UInt8)(O:Bool)(ps:List cC)(hn:ps.length<1000000000)(hb0:(fU u ps (ps.length+1)).length<100000000000000)(fl:Bool):aQ 146 [.p 0 0,.sl 3 0 (ps.length+1) 1 fl] [an (kM 1 2),jZ 255 h,jK k,an (.sl 5 0 u.length 1 O::ps.map cA),aa (.ext (.fam (ps.map aX))),ak u] (.sl 6 0 32 1 af) [an (kM 1 2),ah,jK k,an (.sl 5 0 u.length 1 O::ps.map cA),aa (.ext (.fam (ps.map aX))),ak u,aC 5 (oI k h (fU u ps (ps.length+1)))]:=by
 obtain⟨r,I⟩:∃r:Nat->List UInt8,r=fU u ps:=⟨_,rfl⟩;have tx0:r 0= []:=by rw [I];unfold fU;rfl
 have tx1:r 1=r 0++u:=by rw [I];exact Sf u ps
 have txn:∀i p,ps[i]?=aa p->r (i+1+1)=r (i+1)++p.2.2:=λi p hp=>by rw [I];exact Si hp
 have h6:∀i,(r i).length<=(r (ps.length+1)).length:=λi=>by rw [I];exact Sg u ps i
 rw [<-I]at hb0|-;clear I;refine aL (fn:=Tryz.f146) ?_;refine zM ?_;refine bp.weak (cl.virt 6 5 1 rfl) ?_;refine Gt [7] dw fq bD (ι:={x:Nat×List UInt8×Nat//x.1<=ps.length+1/\x.2.2<=x.2.1.length/\x.2.1.drop x.2.2=jd (r x.1)}) (λx=> [(0,.p 0 0),(5,.i 64),(6,.sl 6 x.1.2.2 (x.1.2.1.length-x.1.2.2) 1 af),(7,.u64 (aF (r x.1.1).length)),(21,.sl 3 0 (ps.length+1) 1 fl),(22,.i ((ps.length+1:Nat):Int)),(23,.i (x.1.1:Int))]) (λx=> [an (kM 1 2),jZ 255 (qE k h (r x.1.1)),jK k,an (.sl 5 0 u.length 1 O::ps.map cA),aa (.ext (.fam (ps.map aX))),ak u,aC 5 x.1.2.1]) (λ_=>7) (λx=>ps.length+1-x.1.1) ⟨(0,[],0),ag,aq,by rw [tx0];exact ahr⟩ ?_ ?_
 .dsimp only;rw [tx0,ajm];exact xp
 .rintro⟨⟨i,E,o⟩,hi,ho,hE⟩;dsimp only at hi ho hE|-;have V:=ajk k hh (r i);have hrl:=Hl (r i);obtain⟨S,hS⟩:=ax (qE k h (r i));rw [<-hS]at V|-;have ha:E.length-o=(jd (r i)).length:=by rw [<-hE,fQ]
  by_cases hi2:i<ps.length+1
  .have hlt:decide ((i:Int)<((ps.length+1:Nat):Int))=ab:=aA;have hp1:au ((i:Int)+1)=((i+1:Nat):Int):=cp;have htl:=h6 i;rcases i with _|i
   .have htxs:=tx1;have hbb:=h6 1;have G:u.length<100000000000000:=IA;have hq:=Kg k h (r 0) u;have F:=PY (r 0) u;rw [<-hS]at hq;rw [<-htxs]at hq F;rw [<-hE]at hq F ha;have hap:(E.drop o++u).map SV.u8=aB ((E.length-o)*1) (aG o (E.map SV.u8))++aB (u.length*1) (aG 0 (u.map SV.u8)):=(Bq rfl rfl).symm;have U:(E.drop o++u).length=E.length-o+u.length:=IB;have hel:E.length-o<64:=IC;have hul:aF (r 0).length+fO (u.length:Int)=aF (r 1).length:=ID;clear hS hrl;refine zt ?_;refine zl ?_;refine r9 ?_;obtain⟨D,hD⟩:=ax (E.drop o++u);rw [<-hD]at hq F hap U;refine fH (ι:={j:Nat//64*j<=D.length}) (λj=> [(0,.p 0 0),(5,.i 64),(6,.sl 6 (64*j.1) (D.length-64*j.1) 1 af),(7,.u64 (aF (r 1).length)),(21,.sl 3 0 (ps.length+1) 1 fl),(22,.i (((ps.length+1):Nat):Int)),(23,.i ((0:Nat):Int))]) (λj=> [an (kM 1 2),jZ 255 (fX k S D j.1),jK k,an (.sl 5 0 u.length 1 O::ps.map cA),aa (.ext (.fam (ps.map aX))),ak u,aC 5 D]) (λ_=>6+1) (λj=>D.length-64*j.1) ⟨0,ag⟩ ?_ ?_
    .have hz:=Jq k S D;have hDn:E.length-o+u.length=D.length-64*0:=ag;refine yL ?_;exact bL [0,1,2,3,4,5,7]
    .rintro⟨j,hj⟩;dsimp only;have G:=Bn k V D j;by_cases hc:64*(j+1)<=D.length
     .have hge:decide (((D.length-64*j:Nat):Int)>=64)=ab:=aA;have hs:=Jo k S D j;have q139:=JW (fX k S D j) k D (64*j) G hk ag af;rw [<-hs]at q139;exact Nt
     .obtain rfl:j=D.length/64:=ag;have hge:decide (((D.length-64*(D.length/64):Nat):Int)>=64)=af:=aA;rw [hq];refine xq ?_;conv=>whnf
      refine⟨⟨(1,D,64*(D.length/64)),ag,dt,F⟩,dt,?_⟩;dsimp only;exact xp
   .obtain⟨p,hp⟩:∃p,ps[i]?=aa p:=⟨_,dy ag⟩;have hld:=Tq (x:= .sl 5 0 u.length 1 O) hp;have hmem:aX p∈ps.map aX:=List.mem_map_of_mem (jO hp);have htxs:=txn i p hp;have hbb:=h6 (i+1+1);obtain⟨pv,prb,b⟩:=p;dsimp only at htxs;have G:b.length<100000000000000:=IA;have hq:=Kg k h (r (i+1)) b;have F:=PY (r (i+1)) b;rw [<-hS]at hq;rw [<-htxs]at hq F;rw [<-hE]at hq F ha;have hap:(E.drop o++b).map SV.u8=aB ((E.length-o)*1) (aG o (E.map SV.u8))++aB (b.length*1) (aG 0 (b.map SV.u8)):=(Bq rfl rfl).symm;have U:(E.drop o++b).length=E.length-o+b.length:=IB;have hel:E.length-o<64:=IC;have hul:aF (r (i+1)).length+fO (b.length:Int)=aF (r (i+1+1)).length:=ID;clear hS hrl;refine XI ?_;obtain⟨D,hD⟩:=ax (E.drop o++b);rw [<-hD]at hq F hap U;refine fH (ι:={j:Nat//64*j<=D.length}) (λj=> [(0,.p 0 0),(5,.i 64),(6,.sl 6 (64*j.1) (D.length-64*j.1) 1 af),(7,.u64 (aF (r (i+1+1)).length)),(21,.sl 3 0 (ps.length+1) 1 fl),(22,.i (((ps.length+1):Nat):Int)),(23,.i (((i+1):Nat):Int))]) (λj=> [an (kM 1 2),jZ 255 (fX k S D j.1),jK k,an (.sl 5 0 u.length 1 O::ps.map cA),aa (.ext (.fam (ps.map aX))),ak u,aC 5 D]) (λ_=>6+1) (λj=>D.length-64*j.1) ⟨0,ag⟩ ?_ ?_
    .have hz:=Jq k S D;have hDn:E.length-o+b.length=D.length-64*0:=ag;refine yL ?_;exact bL [0,1,2,3,4,5,8]
    .rintro⟨j,hj⟩;dsimp only;have G:=Bn k V D j;by_cases hc:64*(j+1)<=D.length
     .have hge:decide (((D.length-64*j:Nat):Int)>=64)=ab:=aA;have hs:=Jo k S D j;have q139:=JW (fX k S D j) k D (64*j) G hk ag af;rw [<-hs]at q139;exact Nt
     .obtain rfl:j=D.length/64:=ag;have hge:decide (((D.length-64*(D.length/64):Nat):Int)>=64)=af:=aA;rw [hq];refine xq ?_;conv=>whnf
      refine⟨⟨((i+1+1),D,64*(D.length/64)),ag,dt,F⟩,dt,?_⟩;dsimp only;refine bP [0,1,2,3,4,5,6] ?_ ?_
      ·(repeat'(first|exact trivial|refine aJ ?_ ?_|fail))<;>first|rfl|exact dh ag|fail
      .exact zo
  .obtain rfl:i=ps.length+1:=ag;have x5:decide (((ps.length+1:Nat):Int)<((ps.length+1:Nat):Int))=af:=aq;obtain⟨n,hn⟩:=ax (E.length-o);have hnE:o+n=E.length:=ag;rw [<-hn];have hcat:(jd (r (ps.length+1))++ [128]).map SV.u8=aB (n*1) (aG o (E.map SV.u8))++aB (1*1) (aG 0 [SV.u8 128]):=by rw [<-hE];exact(Bq (b:= [128]) hn rfl).symm
   have hdd:decide (((n:Nat):Int).toNat=((n:Nat):Int).toNat)=ab:=aq;conv=>whnf
   first|refine eV (by exact x5) ?_|fail
   refine zI ?_;rw [hdd];rw [mq];have hnl:n=(jd (r (ps.length+1))).length:=by rw [hn,<-hE,fQ]
   have hn64:n<64:=by rw [hnl,hrl];omega
   have x7:=ag3 (r (ps.length+1));rw [<-hnl]at x7;have hpl:d9 n<64:=NU;refine Xl ?_;refine bT (d9 n) (λj=> [(0,.p 0 0),(5,.i 64),(6,.sl 6 0 (n+1+j.1) 1 af),(7,.u64 (aF (r (ps.length+1)).length))]) (λj=> [an (kM 1 2),jZ 255 S,jK k,an (.sl 5 0 u.length 1 O::ps.map cA),aa (.ext (.fam (ps.map aX))),ak u,aC 5 (jd (r (ps.length+1))++ [128]++aK j.1 0)]) (6+1) ?_ ?_
   .have hz:jd (r (ps.length+1))++ [128]++aK 0 0=jd (r (ps.length+1))++ [128]:=jz _;refine yL ?_;exact bL [0,1,2,3,4,5,6+2]
   .rintro⟨j,hj⟩;dsimp only;obtain⟨Y,hY⟩:=ax (jd (r (ps.length+1))++ [128]++aK j 0);have hYl:Y.length=n+1+j:=XM;have hYs:jd (r (ps.length+1))++ [128]++aK (j+1) 0=Y++ [0]:=IE;by_cases hj2:j<d9 n
    .have hno:=agN hj2;have hcd:(((au (((n+1+j:Nat):Int)+au (2*4))).tmod 64) !=0)=ab:=by have e:au (((n+1+j:Nat):Int)+au (2*4))=((n+1+j+8:Nat):Int):=cp;rw [e,show(((n+1+j+8:Nat):Int)).tmod 64=(((n+1+j+8)%64:Nat):Int)from rfl];simp;omega
     refine Ip ?_;refine zI ?_;have x0:(Y++ [0]).map SV.u8=aB ((n+1+j)*1) (aG 0 (Y.map SV.u8))++aB (1*1) (aG 0 [SV.u8 0]):=(Bq (o:=0) (n:=n+1+j) (E:=Y) (b:= [0]) ag rfl).symm;refine⟨⟨j+1,ag⟩,dt,?_⟩;dsimp only;rw [hYs];refine bP [0,1,2,3,4,5,6+2] ?_ ?_
     .exact zo
     ·(repeat'(first|exact trivial|exact aY (cY _) x0|refine aJ ?_ ?_|(refine dM ?_ ?_)))<;>first|rfl|exact aY bY az|fail
    .obtain rfl:j=d9 n:=ag;have hyes:=Sk n;have hcd:(((au (((n+1+d9 n:Nat):Int)+au (2*4))).tmod 64) !=0)=af:=by have e:au (((n+1+d9 n:Nat):Int)+au (2*4))=((n+1+d9 n+8:Nat):Int):=cp;rw [e,show(((n+1+d9 n+8:Nat):Int)).tmod 64=(((n+1+d9 n+8)%64:Nat):Int)from rfl,hyes];rfl
     refine Ie ?_;obtain⟨N,hN⟩:=ax ((r (ps.length+1)).length);rw [<-hN];refine bT 8 (λi=> [(0,.p 0 0),(5,.i 64),(6,.sl 6 0 (n+1+d9 n) 1 af),(7,.u64 (aF N)),(10,.sl (6+1) 0 8 1 ab),(76,.i (i.1:Int))]) (λi=> [an (kM 1 2),jZ 255 S,jK k,an (.sl 5 0 u.length 1 O::ps.map cA),aa (.ext (.fam (ps.map aX))),ak u,aC 5 Y,aC 5 (jv N i.1)]) (6+2) ?_ ?_
     .have hz:=adO N;refine yL ?_;exact Iu
     .rintro⟨i,hi⟩;dsimp only;have x6:=BQ N i;by_cases hi8:i<8
      .have hlt:decide ((i:Int)<8)=ab:=aA;have hp:=t6 i ag;have h8:au (8*(i:Int))=((8*i:Nat):Int):=cp;have h7:au (au (8-1)-(i:Int))=((7-i:Nat):Int):=cp;have hs:=adM N i;refine zt ?_;refine⟨_,K3 h8,?_⟩;conv=>whnf
       repeat(first|refine zH (nC (i:=7-i) aT) ?_|refine zH (bg (m:=7-i) aT) ?_|refine aS ?_)
       refine xI ?_;rw [hs];exact Iu
      .obtain rfl:i=8:=ag;have W:(Y++jv N 8).map SV.u8=aB ((n+1+d9 n)*1) (aG 0 (Y.map SV.u8))++aB (8*1) (aG 0 ((jv N 8).map SV.u8)):=(Bq (o:=0) (n:=n+1+d9 n) (E:=Y) (b:=jv N 8) ag x6.symm).symm;obtain⟨D,hD⟩:=ax (Y++jv N 8);have U:D.length=n+1+d9 n+8:=by rw [hD,aW,hYl,x6]
       have hDe:D=pA (r (ps.length+1)):=by rw [hD,hY,x7,hN];exact adr _
       have h9:=adt (r (ps.length+1));have hfin:=adv k h (r (ps.length+1));rw [<-hDe]at h9 hfin;rw [<-hS]at hfin;rw [<-hD]at W;refine zy ?_;refine zl ?_;refine fH (ι:={j:Nat//64*j<=D.length}) (λj=> [(0,.p 0 0),(5,.i 64),(6,.sl 6 (64*j.1) (D.length-64*j.1) 1 af)]) (λj=> [an (kM 1 2),jZ 255 (fX k S D j.1),jK k,an (.sl 5 0 u.length 1 O::ps.map cA),aa (.ext (.fam (ps.map aX))),ak u,aC 5 D]) (λ_=>6+1) (λj=>D.length-64*j.1) ⟨0,ag⟩ ?_ ?_
       .have hz:=Jq k S D;have hDn:n+1+d9 n+8=D.length-64*0:=ag;refine yL ?_;refine bP [0,1,2,3,4,5,6+2] ?_ ?_
        .exact bU
        ·(repeat'(first|exact trivial|exact aY (cY _) W|refine aJ ?_ ?_|(refine dM ?_ ?_)))<;>first|rfl|exact aY bY az|fail
       .rintro⟨j,hj⟩;dsimp only;have G:=Bn k V D j;by_cases hc:64*(j+1)<=D.length
        .have hge:decide (((D.length-64*j:Nat):Int)>0)=ab:=aA;have hs:=Jo k S D j;have q139:=JW (fX k S D j) k D (64*j) G hk ag af;rw [<-hs]at q139;exact Nt
        .obtain rfl:j=D.length/64:=ag;have hge:decide (((D.length-64*(D.length/64):Nat):Int)>0)=af:=aA;obtain⟨H,hH⟩:=ax (fX k S D (D.length/64));rw [<-hH]at G hfin|-;refine xq ?_;refine zL ?_;refine bp.weak (cl.virt 12 5 1 rfl) ?_;refine bT 8 (λi=> [(0,.p 0 0),(12,.sl 6 0 (4*i.1) 1 af),(110,.sl 1 0 8 1 af),(111,.i 8),(112,.i (i.1:Int))]) (λi=> [an (kM 1 2),jZ 255 H,jK k,an (.sl 5 0 u.length 1 O::ps.map cA),aa (.ext (.fam (ps.map aX))),ak u,aC 5 (jE H (4*i.1))]) (6+1) ?_ ?_
         .have hz:=agB H;refine yL ?_;exact bL [0,1,2,3,4,5,6+1]
         .rintro⟨i,hi⟩;dsimp only;by_cases hi8:i<8
          .have hlt:decide ((i:Int)<8)=ab:=aA;have hp:=t6 i ag;refine zt ?_;repeat(first|refine zH (wm (i:=i) aT ag) ?_|refine zH (bg (m:=i) az) ?_|refine aS ?_)
           refine bT 4 (λm=> [(0,.p 0 0),(12,.sl 6 0 (4*i+m.1) 1 af),(14,.u32 (H.getD i 0)),(15,.i (3-(m.1:Int))),(110,.sl 1 0 8 1 af),(111,.i 8),(112,.i (i:Int))]) (λm=> [an (kM 1 2),jZ 255 H,jK k,an (.sl 5 0 u.length 1 O::ps.map cA),aa (.ext (.fam (ps.map aX))),ak u,aC 5 (jE H (4*i+m.1))]) (6+1) ?_ ?_
           .exact xp
           .rintro⟨m,hm⟩;dsimp only;have hol:=GO H (4*i+m);by_cases hm4:m<4
            .have hge:decide ((3-(m:Int))>=0)=ab:=aA;have h8:au (8*(3-(m:Int)))=((8*(3-m):Nat):Int):=cp;have hp2:au (3-(m:Int)-1)=3-((m+1:Nat):Int):=cp;have hs:=agz H i m hm4;obtain⟨Z,hZ⟩:=ax (jE H (4*i+m));rw [<-hZ]at hol hs|-;have hap4:(Z++ [(kf (H.getD i 0) (8*(3-m))).toUInt8]).map SV.u8=aB ((4*i+m)*1) (aG 0 (Z.map SV.u8))++aB (1*1) (aG 0 [SV.u8 (kf (H.getD i 0) (8*(3-m))).toUInt8]):=(Bq (o:=0) (n:=4*i+m) (E:=Z) (b:= [(kf (H.getD i 0) (8*(3-m))).toUInt8]) ag rfl).symm;refine yx ?_;conv=>whnf
             refine⟨_,afg h8,?_⟩;exact Xp
            .obtain rfl:m=4:=ag;refine zy ?_;refine xI ?_;rw [show 4*(i+1)=4*i+4 by omega];exact xp
          .obtain rfl:i=8:=ag;rw [agx]at hfin;rw [<-hfin];refine zy ?_;exact bE [0,1,2,3,4,5,6]
end Go.Sh
namespace Go.Sh
open Go.Proofs
attribute [local irreducible] nS fY qF je oJ eC jF Au i9 pB kO fU
theorem ZI(h k:List UInt64)(hh:h.length=8)(hk:k.length=80)(u:List UInt8)(O:Bool)(ps:List cC)(hn:ps.length<1000000000)(hb0:(fU u ps (ps.length+1)).length<100000000000000)(fl:Bool):aQ 148 [.p 0 0,.sl 3 0 (ps.length+1) 1 fl] [an (kN 1 2),dC 24 h,eJ k,an (.sl 5 0 u.length 1 O::ps.map cA),aa (.ext (.fam (ps.map aX))),ak u] (.sl 6 0 64 1 af) [an (kN 1 2),ah,eJ k,an (.sl 5 0 u.length 1 O::ps.map cA),aa (.ext (.fam (ps.map aX))),ak u,aC 5 (oJ k h (fU u ps (ps.length+1)))]:=by
 obtain⟨r,I⟩:∃r:Nat->List UInt8,r=fU u ps:=⟨_,rfl⟩;have tx0:r 0= []:=by rw [I];unfold fU;rfl
 have tx1:r 1=r 0++u:=by rw [I];exact Sf u ps
 have txn:∀i p,ps[i]?=aa p->r (i+1+1)=r (i+1)++p.2.2:=λi p hp=>by rw [I];exact Si hp
 have h6:∀i,(r i).length<=(r (ps.length+1)).length:=λi=>by rw [I];exact Sg u ps i
 rw [<-I]at hb0|-;clear I;refine aL (fn:=Tryz.f148) ?_;refine zM ?_;refine bp.weak (cl.virt 6 5 1 rfl) ?_;refine Gt [7] dw fq bD (ι:={x:Nat×List UInt8×Nat//x.1<=ps.length+1/\x.2.2<=x.2.1.length/\x.2.1.drop x.2.2=je (r x.1)}) (λx=> [(0,.p 0 0),(5,.i 128),(6,.sl 6 x.1.2.2 (x.1.2.1.length-x.1.2.2) 1 af),(7,.u64 (aF (r x.1.1).length)),(21,.sl 3 0 (ps.length+1) 1 fl),(22,.i ((ps.length+1:Nat):Int)),(23,.i (x.1.1:Int))]) (λx=> [an (kN 1 2),dC 24 (qF k h (r x.1.1)),eJ k,an (.sl 5 0 u.length 1 O::ps.map cA),aa (.ext (.fam (ps.map aX))),ak u,aC 5 x.1.2.1]) (λ_=>7) (λx=>ps.length+1-x.1.1) ⟨(0,[],0),ag,aq,by rw [tx0];exact ahs⟩ ?_ ?_
 .dsimp only;rw [tx0,ajn];exact xp
 .rintro⟨⟨i,E,o⟩,hi,ho,hE⟩;dsimp only at hi ho hE|-;have V:=ajl k hh (r i);have hrl:=Hm (r i);obtain⟨S,hS⟩:=ax (qF k h (r i));rw [<-hS]at V|-;have ha:E.length-o=(je (r i)).length:=by rw [<-hE,fQ]
  by_cases hi2:i<ps.length+1
  .have hlt:decide ((i:Int)<((ps.length+1:Nat):Int))=ab:=aA;have hp1:au ((i:Int)+1)=((i+1:Nat):Int):=cp;have htl:=h6 i;rcases i with _|i
   .have htxs:=tx1;have hbb:=h6 1;have G:u.length<100000000000000:=IA;have hq:=Kh k h (r 0) u;have F:=PZ (r 0) u;rw [<-hS]at hq;rw [<-htxs]at hq F;rw [<-hE]at hq F ha;have hap:(E.drop o++u).map SV.u8=aB ((E.length-o)*1) (aG o (E.map SV.u8))++aB (u.length*1) (aG 0 (u.map SV.u8)):=(Br rfl rfl).symm;have U:(E.drop o++u).length=E.length-o+u.length:=IB;have hel:E.length-o<128:=IC;have hul:aF (r 0).length+fO (u.length:Int)=aF (r 1).length:=ID;clear hS hrl;refine zt ?_;refine zl ?_;refine r9 ?_;obtain⟨D,hD⟩:=ax (E.drop o++u);rw [<-hD]at hq F hap U;refine fH (ι:={j:Nat//128*j<=D.length}) (λj=> [(0,.p 0 0),(5,.i 128),(6,.sl 6 (128*j.1) (D.length-128*j.1) 1 af),(7,.u64 (aF (r 1).length)),(21,.sl 3 0 (ps.length+1) 1 fl),(22,.i (((ps.length+1):Nat):Int)),(23,.i ((0:Nat):Int))]) (λj=> [an (kN 1 2),dC 24 (fY k S D j.1),eJ k,an (.sl 5 0 u.length 1 O::ps.map cA),aa (.ext (.fam (ps.map aX))),ak u,aC 5 D]) (λ_=>6+1) (λj=>D.length-128*j.1) ⟨0,ag⟩ ?_ ?_
    .have hz:=Jr k S D;have hDn:E.length-o+u.length=D.length-128*0:=ag;refine yL ?_;exact bL [0,1,2,3,4,5,7]
    .rintro⟨j,hj⟩;dsimp only;have G:=Bo k V D j;by_cases hc:128*(j+1)<=D.length
     .have hge:decide (((D.length-128*j:Nat):Int)>=128)=ab:=aA;have hs:=Jp k S D j;have q140:=JX (fY k S D j) k D (128*j) G hk ag af;rw [<-hs]at q140;exact Nu
     .obtain rfl:j=D.length/128:=ag;have hge:decide (((D.length-128*(D.length/128):Nat):Int)>=128)=af:=aA;rw [hq];refine xq ?_;conv=>whnf
      refine⟨⟨(1,D,128*(D.length/128)),ag,dt,F⟩,dt,?_⟩;dsimp only;exact xp
   .obtain⟨p,hp⟩:∃p,ps[i]?=aa p:=⟨_,dy ag⟩;have hld:=Tq (x:= .sl 5 0 u.length 1 O) hp;have hmem:aX p∈ps.map aX:=List.mem_map_of_mem (jO hp);have htxs:=txn i p hp;have hbb:=h6 (i+1+1);obtain⟨pv,prb,b⟩:=p;dsimp only at htxs;have G:b.length<100000000000000:=IA;have hq:=Kh k h (r (i+1)) b;have F:=PZ (r (i+1)) b;rw [<-hS]at hq;rw [<-htxs]at hq F;rw [<-hE]at hq F ha;have hap:(E.drop o++b).map SV.u8=aB ((E.length-o)*1) (aG o (E.map SV.u8))++aB (b.length*1) (aG 0 (b.map SV.u8)):=(Br rfl rfl).symm;have U:(E.drop o++b).length=E.length-o+b.length:=IB;have hel:E.length-o<128:=IC;have hul:aF (r (i+1)).length+fO (b.length:Int)=aF (r (i+1+1)).length:=ID;clear hS hrl;refine XI ?_;obtain⟨D,hD⟩:=ax (E.drop o++b);rw [<-hD]at hq F hap U;refine fH (ι:={j:Nat//128*j<=D.length}) (λj=> [(0,.p 0 0),(5,.i 128),(6,.sl 6 (128*j.1) (D.length-128*j.1) 1 af),(7,.u64 (aF (r (i+1+1)).length)),(21,.sl 3 0 (ps.length+1) 1 fl),(22,.i (((ps.length+1):Nat):Int)),(23,.i (((i+1):Nat):Int))]) (λj=> [an (kN 1 2),dC 24 (fY k S D j.1),eJ k,an (.sl 5 0 u.length 1 O::ps.map cA),aa (.ext (.fam (ps.map aX))),ak u,aC 5 D]) (λ_=>6+1) (λj=>D.length-128*j.1) ⟨0,ag⟩ ?_ ?_
    .have hz:=Jr k S D;have hDn:E.length-o+b.length=D.length-128*0:=ag;refine yL ?_;exact bL [0,1,2,3,4,5,8]
    .rintro⟨j,hj⟩;dsimp only;have G:=Bo k V D j;by_cases hc:128*(j+1)<=D.length
     .have hge:decide (((D.length-128*j:Nat):Int)>=128)=ab:=aA;have hs:=Jp k S D j;have q140:=JX (fY k S D j) k D (128*j) G hk ag af;rw [<-hs]at q140;exact Nu
     .obtain rfl:j=D.length/128:=ag;have hge:decide (((D.length-128*(D.length/128):Nat):Int)>=128)=af:=aA;rw [hq];refine xq ?_;conv=>whnf
      refine⟨⟨((i+1+1),D,128*(D.length/128)),ag,dt,F⟩,dt,?_⟩;dsimp only;refine bP [0,1,2,3,4,5,6] ?_ ?_
      ·(repeat'(first|exact trivial|refine aJ ?_ ?_|fail))<;>first|rfl|exact dh ag|fail
      .exact zo
  .obtain rfl:i=ps.length+1:=ag;have x5:decide (((ps.length+1:Nat):Int)<((ps.length+1:Nat):Int))=af:=aq;obtain⟨n,hn⟩:=ax (E.length-o);have hnE:o+n=E.length:=ag;rw [<-hn];have hcat:(je (r (ps.length+1))++ [128]).map SV.u8=aB (n*1) (aG o (E.map SV.u8))++aB (1*1) (aG 0 [SV.u8 128]):=by rw [<-hE];exact(Br (b:= [128]) hn rfl).symm
   have hdd:decide (((n:Nat):Int).toNat=((n:Nat):Int).toNat)=ab:=aq;conv=>whnf
   first|refine eV (by exact x5) ?_|fail
   refine zI ?_;rw [hdd];rw [mq];have hnl:n=(je (r (ps.length+1))).length:=by rw [hn,<-hE,fQ]
   have hn64:n<128:=by rw [hnl,hrl];omega
   have x7:=ag4 (r (ps.length+1));rw [<-hnl]at x7;have hpl:eC n<128:=NV;refine Xl ?_;refine bT (eC n) (λj=> [(0,.p 0 0),(5,.i 128),(6,.sl 6 0 (n+1+j.1) 1 af),(7,.u64 (aF (r (ps.length+1)).length))]) (λj=> [an (kN 1 2),dC 24 S,eJ k,an (.sl 5 0 u.length 1 O::ps.map cA),aa (.ext (.fam (ps.map aX))),ak u,aC 5 (je (r (ps.length+1))++ [128]++aK j.1 0)]) (6+1) ?_ ?_
   .have hz:je (r (ps.length+1))++ [128]++aK 0 0=je (r (ps.length+1))++ [128]:=jz _;refine yL ?_;exact bL [0,1,2,3,4,5,6+2]
   .rintro⟨j,hj⟩;dsimp only;obtain⟨Y,hY⟩:=ax (je (r (ps.length+1))++ [128]++aK j 0);have hYl:Y.length=n+1+j:=XM;have hYs:je (r (ps.length+1))++ [128]++aK (j+1) 0=Y++ [0]:=IE;by_cases hj2:j<eC n
    .have hno:=agO hj2;have hcd:(((au (((n+1+j:Nat):Int)+au (2*8))).tmod 128) !=0)=ab:=by have e:au (((n+1+j:Nat):Int)+au (2*8))=((n+1+j+16:Nat):Int):=cp;rw [e,show(((n+1+j+16:Nat):Int)).tmod 128=(((n+1+j+16)%128:Nat):Int)from rfl];simp;omega
     refine Ip ?_;refine zI ?_;have x0:(Y++ [0]).map SV.u8=aB ((n+1+j)*1) (aG 0 (Y.map SV.u8))++aB (1*1) (aG 0 [SV.u8 0]):=(Br (o:=0) (n:=n+1+j) (E:=Y) (b:= [0]) ag rfl).symm;refine⟨⟨j+1,ag⟩,dt,?_⟩;dsimp only;rw [hYs];refine bP [0,1,2,3,4,5,6+2] ?_ ?_
     .exact zo
     ·(repeat'(first|exact trivial|exact aY (cY _) x0|refine aJ ?_ ?_|(refine dM ?_ ?_)))<;>first|rfl|exact aY bY az|fail
    .obtain rfl:j=eC n:=ag;have hyes:=Sl n;have hcd:(((au (((n+1+eC n:Nat):Int)+au (2*8))).tmod 128) !=0)=af:=by have e:au (((n+1+eC n:Nat):Int)+au (2*8))=((n+1+eC n+16:Nat):Int):=cp;rw [e,show(((n+1+eC n+16:Nat):Int)).tmod 128=(((n+1+eC n+16)%128:Nat):Int)from rfl,hyes];rfl
     refine Ie ?_;obtain⟨N,hN⟩:=ax ((r (ps.length+1)).length);rw [<-hN];refine bT 8 (λi=> [(0,.p 0 0),(5,.i 128),(6,.sl 6 0 (n+1+eC n) 1 af),(7,.u64 (aF N)),(10,.sl (6+1) 0 16 1 ab),(76,.i (i.1:Int))]) (λi=> [an (kN 1 2),dC 24 S,eJ k,an (.sl 5 0 u.length 1 O::ps.map cA),aa (.ext (.fam (ps.map aX))),ak u,aC 5 Y,aC 5 (i9 N i.1)]) (6+2) ?_ ?_
     .have hz:=adP N;refine yL ?_;exact Iu
     .rintro⟨i,hi⟩;dsimp only;have x6:=BR N i;by_cases hi8:i<8
      .have hlt:decide ((i:Int)<8)=ab:=aA;have hp:=t6 i ag;have h8:au (8*(i:Int))=((8*i:Nat):Int):=cp;have h7:au (au (16-1)-(i:Int))=((15-i:Nat):Int):=cp;have hs:=adN N i;refine zt ?_;refine⟨_,K3 h8,?_⟩;conv=>whnf
       repeat(first|refine zH (nC (i:=15-i) aT) ?_|refine zH (bg (m:=15-i) aT) ?_|refine aS ?_)
       refine xI ?_;rw [hs];exact Iu
      .obtain rfl:i=8:=ag;have W:(Y++i9 N 8).map SV.u8=aB ((n+1+eC n)*1) (aG 0 (Y.map SV.u8))++aB (16*1) (aG 0 ((i9 N 8).map SV.u8)):=(Br (o:=0) (n:=n+1+eC n) (E:=Y) (b:=i9 N 8) ag x6.symm).symm;obtain⟨D,hD⟩:=ax (Y++i9 N 8);have U:D.length=n+1+eC n+16:=by rw [hD,aW,hYl,x6]
       have hDe:D=pB (r (ps.length+1)):=by rw [hD,hY,x7,hN];exact ads _
       have h9:=adu (r (ps.length+1));have hfin:=adw k h (r (ps.length+1));rw [<-hDe]at h9 hfin;rw [<-hS]at hfin;rw [<-hD]at W;refine zy ?_;refine zl ?_;refine fH (ι:={j:Nat//128*j<=D.length}) (λj=> [(0,.p 0 0),(5,.i 128),(6,.sl 6 (128*j.1) (D.length-128*j.1) 1 af)]) (λj=> [an (kN 1 2),dC 24 (fY k S D j.1),eJ k,an (.sl 5 0 u.length 1 O::ps.map cA),aa (.ext (.fam (ps.map aX))),ak u,aC 5 D]) (λ_=>6+1) (λj=>D.length-128*j.1) ⟨0,ag⟩ ?_ ?_
       .have hz:=Jr k S D;have hDn:n+1+eC n+16=D.length-128*0:=ag;refine yL ?_;refine bP [0,1,2,3,4,5,6+2] ?_ ?_
        .exact bU
        ·(repeat'(first|exact trivial|exact aY (cY _) W|refine aJ ?_ ?_|(refine dM ?_ ?_)))<;>first|rfl|exact aY bY az|fail
       .rintro⟨j,hj⟩;dsimp only;have G:=Bo k V D j;by_cases hc:128*(j+1)<=D.length
        .have hge:decide (((D.length-128*j:Nat):Int)>0)=ab:=aA;have hs:=Jp k S D j;have q140:=JX (fY k S D j) k D (128*j) G hk ag af;rw [<-hs]at q140;exact Nu
        .obtain rfl:j=D.length/128:=ag;have hge:decide (((D.length-128*(D.length/128):Nat):Int)>0)=af:=aA;obtain⟨H,hH⟩:=ax (fY k S D (D.length/128));rw [<-hH]at G hfin|-;refine xq ?_;refine zL ?_;refine bp.weak (cl.virt 12 5 1 rfl) ?_;refine bT 8 (λi=> [(0,.p 0 0),(12,.sl 6 0 (8*i.1) 1 af),(110,.sl 1 0 8 1 ab),(111,.i 8),(112,.i (i.1:Int))]) (λi=> [an (kN 1 2),dC 24 H,eJ k,an (.sl 5 0 u.length 1 O::ps.map cA),aa (.ext (.fam (ps.map aX))),ak u,aC 5 (jF H (8*i.1))]) (6+1) ?_ ?_
         .have hz:=agC H;refine yL ?_;exact bL [0,1,2,3,4,5,6+1]
         .rintro⟨i,hi⟩;dsimp only;by_cases hi8:i<8
          .have hlt:decide ((i:Int)<8)=ab:=aA;have hp:=t6 i ag;refine zt ?_;refine zT ?_;refine bT 8 (λm=> [(0,.p 0 0),(12,.sl 6 0 (8*i+m.1) 1 af),(14,.u64 (H.getD i 0)),(15,.i (7-(m.1:Int))),(110,.sl 1 0 8 1 ab),(111,.i 8),(112,.i (i:Int))]) (λm=> [an (kN 1 2),dC 24 H,eJ k,an (.sl 5 0 u.length 1 O::ps.map cA),aa (.ext (.fam (ps.map aX))),ak u,aC 5 (jF H (8*i+m.1))]) (6+1) ?_ ?_
           .exact xp
           .rintro⟨m,hm⟩;dsimp only;have hol:=GP H (8*i+m);by_cases hm8:m<8
            .have hge:decide ((7-(m:Int))>=0)=ab:=aA;have h8:au (8*(7-(m:Int)))=((8*(7-m):Nat):Int):=cp;have hp2:au (7-(m:Int)-1)=7-((m+1:Nat):Int):=cp;have hs:=agA H i m hm8;obtain⟨Z,hZ⟩:=ax (jF H (8*i+m));rw [<-hZ]at hol hs|-;have hap4:(Z++ [(bh (H.getD i 0) (8*(7-m))).toUInt8]).map SV.u8=aB ((8*i+m)*1) (aG 0 (Z.map SV.u8))++aB (1*1) (aG 0 [SV.u8 (bh (H.getD i 0) (8*(7-m))).toUInt8]):=(Br (o:=0) (n:=8*i+m) (E:=Z) (b:= [(bh (H.getD i 0) (8*(7-m))).toUInt8]) ag rfl).symm;refine yx ?_;conv=>whnf
             refine⟨_,K3 h8,?_⟩;exact Xp
            .obtain rfl:m=8:=ag;refine zy ?_;refine xI ?_;rw [show 8*(i+1)=8*i+8 by omega];exact xp
          .obtain rfl:i=8:=ag;rw [agy]at hfin;rw [<-hfin];refine zy ?_;exact bE [0,1,2,3,4,5,6]
end Go.Sh
namespace Go.Sh
open Go.Proofs
variable{ps:List cC}
def gB(T:List UInt8):List UInt8:=oI iD j9 T
def gD(T:List UInt8):List UInt8:=oJ i7 kH T
theorem vp(T:List UInt8):(gB T).length=32:=acA _ _ _
theorem vq(T:List UInt8):(gD T).length=64:=acB _ _ _
attribute [local irreducible] gB gD j9 iD kH i7 oI oJ
theorem FW{r:List UInt8}{ds:List PD}(h:ps.map (λp=>p.2.2)=ds.map eY):fU r ps (ps.length+1)=r++(ds.map eY).flatten:=by rw [DG,h]
theorem vS{ds:List PD}(h:ps.map (λp=>p.2.2)=ds.map eY):ps.length=ds.length:=by have:=congrArg List.length h;simpa using this
theorem aao(r:List UInt8)(F:Bool)(ps:List cC)(hn:ps.length<1000000000)(u:(fU r ps (ps.length+1)).length<100000000000000)(fl:Bool):aM 113 [.sl 0 0 (ps.length+1) 1 fl] [an (.sl 2 0 r.length 1 F::ps.map cA),aa (.ext (.fam (ps.map aX))),ak r] (.agg ((gB (fU r ps (ps.length+1))).map .u8)) []:=by have q:=ZH j9 iD Qt ac7 r F ps hn u fl;rw [show oI iD j9 (fU r ps (ps.length+1))=gB (fU r ps (ps.length+1)) by unfold gB;rfl]at q;have hl:=vp (fU r ps (ps.length+1));obtain⟨W,hW⟩:=ax (gB (fU r ps (ps.length+1)));rw [<-hW]at q hl|-;refine aL (fn:=Tryz.f113) ?_;refine zp ?_;refine zW (aE [] [af,ab,ab] af f101) ?_;exact xJ
theorem Kb(r:List UInt8)(F:Bool)(ps:List cC)(hn:ps.length<1000000000)(u:(fU r ps (ps.length+1)).length<100000000000000)(fl:Bool):aM 77 [.u8 1,.sl 0 0 (ps.length+1) 1 fl] [an (.sl 2 0 r.length 1 F::ps.map cA),aa (.ext (.fam (ps.map aX))),ak r] (.sl 3 0 32 1 ab) [dn (gB (fU r ps (ps.length+1)))]:=by have q:=aao r F ps hn u fl;have hl:=vp (fU r ps (ps.length+1));obtain⟨W,hW⟩:=ax (gB (fU r ps (ps.length+1)));rw [<-hW]at q hl|-;exact xD
theorem aaq(r:List UInt8)(F:Bool)(ps:List cC)(hn:ps.length<1000000000)(u:(fU r ps (ps.length+1)).length<100000000000000)(fl:Bool):aM 114 [.sl 0 0 (ps.length+1) 1 fl] [an (.sl 2 0 r.length 1 F::ps.map cA),aa (.ext (.fam (ps.map aX))),ak r] (.agg ((gD (fU r ps (ps.length+1))).map .u8)) []:=by have q:=ZI kH i7 Qu ac8 r F ps hn u fl;rw [show oJ i7 kH (fU r ps (ps.length+1))=gD (fU r ps (ps.length+1)) by unfold gD;rfl]at q;have hl:=vq (fU r ps (ps.length+1));obtain⟨W,hW⟩:=ax (gD (fU r ps (ps.length+1)));rw [<-hW]at q hl|-;refine aL (fn:=Tryz.f114) ?_;refine zp ?_;refine zW (aE [] [af,ab,ab] af f103) ?_;exact xJ
theorem Kc(r:List UInt8)(F:Bool)(ps:List cC)(hn:ps.length<1000000000)(u:(fU r ps (ps.length+1)).length<100000000000000)(fl:Bool):aM 77 [.u8 2,.sl 0 0 (ps.length+1) 1 fl] [an (.sl 2 0 r.length 1 F::ps.map cA),aa (.ext (.fam (ps.map aX))),ak r] (.sl 3 0 64 1 ab) [dn (gD (fU r ps (ps.length+1)))]:=by have q:=aaq r F ps hn u fl;have hl:=vq (fU r ps (ps.length+1));obtain⟨W,hW⟩:=ax (gD (fU r ps (ps.length+1)));rw [<-hW]at q hl|-;exact xD
theorem PV(r:List UInt8)(u:Bool)(ds:List PD)(X:HL)(hn:ds.length<1000000)(hb:(r++(ds.map eY).flatten).length<100000000000000)(fl:Bool)(hX:∀id f b,aa (id,f,b)∈ds->hg (an (.sl 1 0 r.length 1 u::ds.map lH)::ak r::X) id=ak b)(G:∀id b,hg X id=aa b->b.own=af):aQ 77 [.u8 1,.sl 0 0 (ds.length+1) 1 fl] (an (.sl 1 0 r.length 1 u::ds.map lH)::ak r::X) (.sl (X.length+1+1) 0 32 1 ab) (an (.sl 1 0 r.length 1 u::ds.map lH)::ak r::X++ [dn (gB (r++(ds.map eY).flatten))]):=by
 have q:∀ps:List cC,ps.map (λp=>p.2.2)=ds.map eY->_:=λps e=>Kb r u ps (by rw [vS e];omega) (by rw [FW e];exact hb) fl
 refine bV.absorb (N0:= [dn (gB (r++(ds.map eY).flatten))]) (args':= [.u8 1,.sl 0 0 (ds.length+1) 1 fl]) (ret':= .sl 3 0 32 1 ab) [0,0,1] ?_ ?_ ?_ rfl rfl ?_ rfl ?_
 .exact(Kb r u [] aw (by rw [DG];rw [aW]at hb;simp;omega) fl).fn
 .intro ρ w hH;obtain⟨rb,hr,hb⟩:=hH 0 _ rfl;obtain⟨I,hr1,F⟩:=hH 1 _ rfl;obtain⟨ps,e1,e2,e3⟩:=Hq (sel:= [0,0,1]) (xs:= [.sl 1 0 r.length 1 u]) (ys:= [.sl 2 0 r.length 1 u]) (ds:=ds) hH hX rfl hb;have q2:=q ps e1;rw [FW e1,vS e1]at q2;refine⟨[an (.sl 2 0 r.length 1 u::ps.map cA),aa (.ext (.fam (ps.map aX))),ak r],rfl,?_,?_,q2⟩
  .intro j hj
   match j,hj with
   |0,_=>exact⟨_,rfl,rfl⟩
   |1,_=>exact⟨_,rfl,rfl⟩
   |2,_=>exact⟨_,rfl,rfl⟩
  .intro id b h
   match id,h with
   |0,h=>cases h;exact⟨rb,hr,e3⟩
   |1,h=>cases h;exact⟨rb,hr,e2 _ _⟩
   |2,h=>cases h;exact⟨I,hr1,(l9 (kb _ bI)).2 F⟩
   |_+3,h=>simp [hg]at h
 .intro id b h
  match id,h with
  |0,h=>cases h;rfl
  |1,h=>cases h;rfl
  |id+2,h=>exact G id b mZ
 .intro j s h
  match j,h with
  |0,h=>cases h;simp
  |1,h=>cases h;simp
  |2,h=>cases h;simp
  |_+3,h=>simp at h
 .intro j
  match j with
  |0=>exact .inr ⟨_,_,rfl,rfl,kb _ bI⟩
  |_+1=>exact .inl ⟨rfl,rfl⟩
theorem PW(r:List UInt8)(u:Bool)(ds:List PD)(X:HL)(hn:ds.length<1000000)(hb:(r++(ds.map eY).flatten).length<100000000000000)(fl:Bool)(hX:∀id f b,aa (id,f,b)∈ds->hg (an (.sl 1 0 r.length 1 u::ds.map lH)::ak r::X) id=ak b)(G:∀id b,hg X id=aa b->b.own=af):aQ 77 [.u8 2,.sl 0 0 (ds.length+1) 1 fl] (an (.sl 1 0 r.length 1 u::ds.map lH)::ak r::X) (.sl (X.length+1+1) 0 64 1 ab) (an (.sl 1 0 r.length 1 u::ds.map lH)::ak r::X++ [dn (gD (r++(ds.map eY).flatten))]):=by
 have q:∀ps:List cC,ps.map (λp=>p.2.2)=ds.map eY->_:=λps e=>Kc r u ps (by rw [vS e];omega) (by rw [FW e];exact hb) fl
 refine bV.absorb (N0:= [dn (gD (r++(ds.map eY).flatten))]) (args':= [.u8 2,.sl 0 0 (ds.length+1) 1 fl]) (ret':= .sl 3 0 64 1 ab) [0,0,1] ?_ ?_ ?_ rfl rfl ?_ rfl ?_
 .exact(Kc r u [] aw (by rw [DG];rw [aW]at hb;simp;omega) fl).fn
 .intro ρ w hH;obtain⟨rb,hr,hb⟩:=hH 0 _ rfl;obtain⟨I,hr1,F⟩:=hH 1 _ rfl;obtain⟨ps,e1,e2,e3⟩:=Hq (sel:= [0,0,1]) (xs:= [.sl 1 0 r.length 1 u]) (ys:= [.sl 2 0 r.length 1 u]) (ds:=ds) hH hX rfl hb;have q2:=q ps e1;rw [FW e1,vS e1]at q2;refine⟨[an (.sl 2 0 r.length 1 u::ps.map cA),aa (.ext (.fam (ps.map aX))),ak r],rfl,?_,?_,q2⟩
  .intro j hj
   match j,hj with
   |0,_=>exact⟨_,rfl,rfl⟩
   |1,_=>exact⟨_,rfl,rfl⟩
   |2,_=>exact⟨_,rfl,rfl⟩
  .intro id b h
   match id,h with
   |0,h=>cases h;exact⟨rb,hr,e3⟩
   |1,h=>cases h;exact⟨rb,hr,e2 _ _⟩
   |2,h=>cases h;exact⟨I,hr1,(l9 (kb _ bI)).2 F⟩
   |_+3,h=>simp [hg]at h
 .intro id b h
  match id,h with
  |0,h=>cases h;rfl
  |1,h=>cases h;rfl
  |id+2,h=>exact G id b mZ
 .intro j s h
  match j,h with
  |0,h=>cases h;simp
  |1,h=>cases h;simp
  |2,h=>cases h;simp
  |_+3,h=>simp at h
 .intro j
  match j with
  |0=>exact .inr ⟨_,_,rfl,rfl,kb _ bI⟩
  |_+1=>exact .inl ⟨rfl,rfl⟩
theorem aaM(r:List UInt8)(F:r.length<100000000000000)(u fl:Bool):aM 77 [.u8 1,.sl 0 0 1 1 fl] [an [.sl 1 0 r.length 1 u],ak r] (.sl 2 0 32 1 ab) [dn (gB (r))]:=by have q:=PV r u [] [] aq sV fl (by intro id f b h;(repeat(rcases gy.1 h with e|h;·(cases e<;>rfl)));exact absurd h (by simp)) (by intro id b h;match id,h with|_+0,h=>simp [hg]at h);rw [show r++(fR eY []).flatten=r by simp [eY]]at q;exact q
theorem aaN(u r:List UInt8)(G:u.length<10000000000000)(I:r.length<10000000000000)(F f1 fl:Bool):aM 77 [.u8 1,.sl 0 0 2 1 fl] [an [.sl 1 0 u.length 1 F,.sl 2 0 r.length 1 f1],ak u,ak r] (.sl 3 0 32 1 ab) [dn (gB (u++r))]:=by have q:=PV u F [aa (2,f1,r)] [ak r] aq sV fl (by intro id f b h;(repeat(rcases gy.1 h with e|h;·(cases e<;>rfl)));exact absurd h (by simp)) (by intro id b h;match id,h with|0,h=>cases h;rfl|_+1,h=>simp [hg]at h);rw [show u++(fR eY [aa (2,f1,r)]).flatten=u++r by simp [eY]]at q;exact q
theorem aaO(r:List UInt8)(F:r.length<100000000000000)(u fl:Bool):aM 77 [.u8 2,.sl 0 0 1 1 fl] [an [.sl 1 0 r.length 1 u],ak r] (.sl 2 0 64 1 ab) [dn (gD (r))]:=by have q:=PW r u [] [] aq sV fl (by intro id f b h;(repeat(rcases gy.1 h with e|h;·(cases e<;>rfl)));exact absurd h (by simp)) (by intro id b h;match id,h with|_+0,h=>simp [hg]at h);rw [show r++(fR eY []).flatten=r by simp [eY]]at q;exact q
theorem aaP(u r:List UInt8)(G:u.length<10000000000000)(I:r.length<10000000000000)(F f1 fl:Bool):aM 77 [.u8 2,.sl 0 0 2 1 fl] [an [.sl 1 0 u.length 1 F,.sl 2 0 r.length 1 f1],ak u,ak r] (.sl 3 0 64 1 ab) [dn (gD (u++r))]:=by have q:=PW u F [aa (2,f1,r)] [ak r] aq sV fl (by intro id f b h;(repeat(rcases gy.1 h with e|h;·(cases e<;>rfl)));exact absurd h (by simp)) (by intro id b h;match id,h with|0,h=>cases h;rfl|_+1,h=>simp [hg]at h);rw [show u++(fR eY [aa (2,f1,r)]).flatten=u++r by simp [eY]]at q;exact q
end Go.Sh
namespace Go.Sh
open Go.Proofs
def gM(B:Nat)(K:List UInt8)(w:UInt8):List UInt8:=(cQ B).map (λi=>w^^^K.getD i 0)
theorem vZ(B:Nat)(K:List UInt8)(w:UInt8):(gM B K w).length=B:=by unfold gM;simp
theorem agK{B:Nat}{K:List UInt8}{w:UInt8}(h:K.length<=B):bR B K.length (λi=>w^^^K.getD i 0) (λ_=>w)=gM B K w:=by
 unfold bR gM;apply qQ;intro i _;by_cases hi:i<K.length
 .rw [if_pos hi]
 .rw [if_neg hi,dk,dI ag];show w=w^^^0
  exact(vE).symm
def kK(K:List UInt8):List UInt8:=if 64<K.length then gB K else K
def kL(K:List UInt8):List UInt8:=if 128<K.length then gD K else K
theorem J9:aQ 41 [.u8 1] [] (.i 32) []:=by exact XC
theorem FK:aQ 115 [.u8 1] [] (.i 64) []:=by refine aL (fn:=Tryz.f115) ?_;refine zp ?_;refine zW (aE [] [] ab J9) ?_;exact gI
theorem Ka:aQ 41 [.u8 2] [] (.i 64) []:=by exact XC
theorem FL:aQ 115 [.u8 2] [] (.i 128) []:=by refine aL (fn:=Tryz.f115) ?_;refine zp ?_;refine zW (aE [] [] ab Ka) ?_;exact gI
theorem Ib(i:Nat)(h:i<1000):au ((i:Int)+1)=((i+1:Nat):Int):=by simp only [eI];omega
attribute [local irreducible] gB gD
theorem ZE(K:List UInt8)(F:K.length<=64)(w:UInt8)(f:Bool):aM 78 [.u8 1,.sl 0 0 K.length 1 f,.u8 w] [ak K] (.sl 1 0 64 1 ab) [aC 5 (gM 64 K w)]:=by
 have r:=FM w 64 aw aw ab;obtain⟨Z,hZ⟩:=ax (aK 64 w);rw [<-hZ]at r;have hlt:decide ((K.length:Int)>64)=af:=aA;have G:K.length<=64:=F;refine Ii ?_;refine zW (aE [] [] ab FK) ?_;refine zl ?_;first|intro _
 refine zL ?_;refine zW (aE [] [] ab FK) ?_;refine zW (aE [1] [af,ab] af r) ?_;refine bT K.length (λi=> [(7,.sl 1 0 64 1 ab),(24,.sl 0 0 K.length 1 f),(25,.i K.length),(26,.i (i.1:Int))]) (λi=> [ak K,aC 5 (bR 64 i.1 (λi=>w^^^K.getD i 0) (λ_=>w))]) (1+1) ?_ ?_
 .have hz:bR 64 0 (λi=>w^^^K.getD i 0) (λ_=>w)=Z:=IF;refine yL ?_;exact bL [0,2]
 .rintro⟨i,hi⟩;dsimp only;have hf:=kG 64 i (λi=>w^^^K.getD i 0) (λ_=>w);by_cases I:i<K.length
  .have hlt2:decide ((i:Int)<(K.length:Int))=ab:=aA;have hp:=Ib i ag;have u:i<64:=ag;have hx:(bR 64 i (λi=>w^^^K.getD i 0) (λ_=>w)).getD i 0^^^K.getD i 0=(λi=>w^^^K.getD i 0) i:=by rw [qe u,if_neg ag]
   have hs:=nx (f:=λi=>w^^^K.getD i 0) (g:=λ_=>w) u hx;refine Il ?_;exact bL [0,1]
  .obtain rfl:i=K.length:=ag;have hlt2:decide ((K.length:Int)<(K.length:Int))=af:=aq;refine Ih ?_;exact jy
theorem ZD(K:List UInt8)(O:64<K.length)(G:K.length<100000000000000)(w:UInt8)(f:Bool):aM 78 [.u8 1,.sl 0 0 K.length 1 f,.u8 w] [ak K] (.sl 1 0 64 1 ab) [aC 5 (gM 64 (gB K) w)]:=by
 have r:=FM w 64 aw aw ab;obtain⟨Z,hZ⟩:=ax (aK 64 w);rw [<-hZ]at r;have hlt:decide ((K.length:Int)>64)=ab:=aA;have q99:=aaM K G f ab;have u:=vp K;obtain⟨W,hW⟩:=ax (gB K);rw [<-hW]at q99 u|-;refine Ii ?_;refine zW (aE [] [] ab FK) ?_;refine XH ?_;refine zW (aE [] [] ab FK) ?_;refine zW (aE [3] [af,ab] af r) ?_;refine bT W.length (λi=> [(7,.sl 2 0 64 1 ab),(24,.sl 1 0 W.length 1 ab),(25,.i W.length),(26,.i (i.1:Int))]) (λi=> [ak K,ak W,aC 5 (bR 64 i.1 (λi=>w^^^W.getD i 0) (λ_=>w))]) (2+1) ?_ ?_
 .have hz:bR 64 0 (λi=>w^^^W.getD i 0) (λ_=>w)=Z:=IF;refine yL ?_;refine bP [0,2,4] ?_ ?_
  ·(repeat'(first|exact trivial|refine aJ ?_ ?_|fail))<;>first|rfl|exact dh aT|exact iQ rfl az (by exact u)|fail
  .exact zo
 .rintro⟨i,hi⟩;dsimp only;have hf:=kG 64 i (λi=>w^^^W.getD i 0) (λ_=>w);by_cases I:i<W.length
  .have hlt2:decide ((i:Int)<(W.length:Int))=ab:=aA;have hp:=Ib i ag;have F:i<64:=ag;have hx:(bR 64 i (λi=>w^^^W.getD i 0) (λ_=>w)).getD i 0^^^W.getD i 0=(λi=>w^^^W.getD i 0) i:=by rw [qe F,if_neg ag]
   have hs:=nx (f:=λi=>w^^^W.getD i 0) (g:=λ_=>w) F hx;refine Il ?_;exact xA
  .obtain rfl:i=W.length:=ag;have hlt2:decide ((W.length:Int)<(W.length:Int))=af:=aq;refine Ih ?_;exact bE [0,2]
theorem PC(K:List UInt8)(r:K.length<100000000000000)(w:UInt8)(f:Bool):aM 78 [.u8 1,.sl 0 0 K.length 1 f,.u8 w] [ak K] (.sl 1 0 64 1 ab) [aC 5 (gM 64 (kK K) w)]:=by
 by_cases hk:64<K.length
 .rw [show kK K=gB K by unfold kK;rw [if_pos hk]];exact ZD K hk r w f
 .rw [show kK K=K by unfold kK;rw [if_neg hk]];exact ZE K ag w f
theorem ZG(K:List UInt8)(F:K.length<=128)(w:UInt8)(f:Bool):aM 78 [.u8 2,.sl 0 0 K.length 1 f,.u8 w] [ak K] (.sl 1 0 128 1 ab) [aC 5 (gM 128 K w)]:=by
 have r:=FM w 128 aw aw ab;obtain⟨Z,hZ⟩:=ax (aK 128 w);rw [<-hZ]at r;have hlt:decide ((K.length:Int)>128)=af:=aA;have G:K.length<=128:=F;refine Ii ?_;refine zW (aE [] [] ab FL) ?_;refine zl ?_;first|intro _
 refine zL ?_;refine zW (aE [] [] ab FL) ?_;refine zW (aE [1] [af,ab] af r) ?_;refine bT K.length (λi=> [(7,.sl 1 0 128 1 ab),(24,.sl 0 0 K.length 1 f),(25,.i K.length),(26,.i (i.1:Int))]) (λi=> [ak K,aC 5 (bR 128 i.1 (λi=>w^^^K.getD i 0) (λ_=>w))]) (1+1) ?_ ?_
 .have hz:bR 128 0 (λi=>w^^^K.getD i 0) (λ_=>w)=Z:=IF;refine yL ?_;exact bL [0,2]
 .rintro⟨i,hi⟩;dsimp only;have hf:=kG 128 i (λi=>w^^^K.getD i 0) (λ_=>w);by_cases I:i<K.length
  .have hlt2:decide ((i:Int)<(K.length:Int))=ab:=aA;have hp:=Ib i ag;have u:i<128:=ag;have hx:(bR 128 i (λi=>w^^^K.getD i 0) (λ_=>w)).getD i 0^^^K.getD i 0=(λi=>w^^^K.getD i 0) i:=by rw [qe u,if_neg ag]
   have hs:=nx (f:=λi=>w^^^K.getD i 0) (g:=λ_=>w) u hx;refine Il ?_;exact bL [0,1]
  .obtain rfl:i=K.length:=ag;have hlt2:decide ((K.length:Int)<(K.length:Int))=af:=aq;refine Ih ?_;exact jy
theorem ZF(K:List UInt8)(O:128<K.length)(G:K.length<100000000000000)(w:UInt8)(f:Bool):aM 78 [.u8 2,.sl 0 0 K.length 1 f,.u8 w] [ak K] (.sl 1 0 128 1 ab) [aC 5 (gM 128 (gD K) w)]:=by
 have r:=FM w 128 aw aw ab;obtain⟨Z,hZ⟩:=ax (aK 128 w);rw [<-hZ]at r;have hlt:decide ((K.length:Int)>128)=ab:=aA;have q99:=aaO K G f ab;have u:=vq K;obtain⟨W,hW⟩:=ax (gD K);rw [<-hW]at q99 u|-;refine Ii ?_;refine zW (aE [] [] ab FL) ?_;refine XH ?_;refine zW (aE [] [] ab FL) ?_;refine zW (aE [3] [af,ab] af r) ?_;refine bT W.length (λi=> [(7,.sl 2 0 128 1 ab),(24,.sl 1 0 W.length 1 ab),(25,.i W.length),(26,.i (i.1:Int))]) (λi=> [ak K,ak W,aC 5 (bR 128 i.1 (λi=>w^^^W.getD i 0) (λ_=>w))]) (2+1) ?_ ?_
 .have hz:bR 128 0 (λi=>w^^^W.getD i 0) (λ_=>w)=Z:=IF;refine yL ?_;refine bP [0,2,4] ?_ ?_
  ·(repeat'(first|exact trivial|refine aJ ?_ ?_|fail))<;>first|rfl|exact dh aT|exact iQ rfl az (by exact u)|fail
  .exact zo
 .rintro⟨i,hi⟩;dsimp only;have hf:=kG 128 i (λi=>w^^^W.getD i 0) (λ_=>w);by_cases I:i<W.length
  .have hlt2:decide ((i:Int)<(W.length:Int))=ab:=aA;have hp:=Ib i ag;have F:i<128:=ag;have hx:(bR 128 i (λi=>w^^^W.getD i 0) (λ_=>w)).getD i 0^^^W.getD i 0=(λi=>w^^^W.getD i 0) i:=by rw [qe F,if_neg ag]
   have hs:=nx (f:=λi=>w^^^W.getD i 0) (g:=λ_=>w) F hx;refine Il ?_;exact xA
  .obtain rfl:i=W.length:=ag;have hlt2:decide ((W.length:Int)<(W.length:Int))=af:=aq;refine Ih ?_;exact bE [0,2]
theorem PE(K:List UInt8)(r:K.length<100000000000000)(w:UInt8)(f:Bool):aM 78 [.u8 2,.sl 0 0 K.length 1 f,.u8 w] [ak K] (.sl 1 0 128 1 ab) [aC 5 (gM 128 (kL K) w)]:=by
 by_cases hk:128<K.length
 .rw [show kL K=gD K by unfold kL;rw [if_pos hk]];exact ZF K hk r w f
 .rw [show kL K=K by unfold kL;rw [if_neg hk]];exact ZG K ag w f
end Go.Sh
namespace Go.Sh
open Go.Proofs
def cS(K T:List UInt8):List UInt8:=gB (gM 64 (kK K) 92++gB (gM 64 (kK K) 54++T))
def dF(K T:List UInt8):List UInt8:=gD (gM 128 (kL K) 92++gD (gM 128 (kL K) 54++T))
theorem tI(K T:List UInt8):(cS K T).length=32:=vp _
theorem BT(K T:List UInt8):(dF K T).length=64:=vq _
attribute [local irreducible] gB gD gM kK kL
def mO(ps:List cC):List UInt8:=(ps.map (λp=>p.2.2)).flatten
theorem PO(K:List UInt8)(Z:K.length<100000000000000)(ps:List cC)(hn:ps.length<1000000)(hT:(mO ps).length<90000000000000)(U fl:Bool):aM 42 [.u8 1,.sl 0 0 K.length 1 U,.sl 1 0 ps.length 1 fl] [ak K,an (ps.map cA),aa (.ext (.fam (ps.map aX)))] (.sl 3 0 32 1 ab) [dn (cS K (mO ps))]:=by
 have q1:=PC K Z 54 U;have q2:=PC K Z 92 U;have l1:=vZ 64 (kK K) 54;have l2:=vZ 64 (kK K) 92;obtain⟨r,u⟩:=ax (gM 64 (kK K) 54);obtain⟨O,F⟩:=ax (gM 64 (kK K) 92);rw [<-u]at q1 l1;rw [<-F]at q2 l2;have G:fU r ps (ps.length+1)=r++mO ps:=DG r ps;have q3:=Kb r ab ps ag (by rw [G,aW];omega) af;rw [G,l1]at q3;have l3:=vp (r++mO ps);have hm:cS K (mO ps)=gB (O++gB (r++mO ps)):=by unfold cS;rw [u,F]
 rw [hm];obtain⟨I,V⟩:=ax (gB (r++mO ps));rw [<-V]at q3 l3|-;have q4:=aaN O I ag ag ab ab ab;rw [l2,l3]at q4;have l4:=vp (O++I);obtain⟨W,hW⟩:=ax (gB (O++I));rw [<-hW]at q4 l4|-;clear u F V hW hm G;have hrow:aB (1*wv.sz) (aG 0 (bN (dK 1 SV.slnil.cells) (0*wv.sz) (SV.sl (Nat.succ 2) 0 64 1 ab)))++aB (ps.length*wv.sz) (aG 0 (SB.ro (fR cA ps)).cells)=SV.sl 3 0 64 1 ab::ps.map cA:=by
  show [SV.sl 3 0 64 1 ab]++aB (ps.length*1) (ps.map cA)=_
  rw [fS,bW gX];rfl
 refine WS ?_;refine zW (aE [] [] ab J9) ?_;refine zc ?_;exact xR
theorem PQ(K:List UInt8)(Z:K.length<100000000000000)(ps:List cC)(hn:ps.length<1000000)(hT:(mO ps).length<90000000000000)(U fl:Bool):aM 42 [.u8 2,.sl 0 0 K.length 1 U,.sl 1 0 ps.length 1 fl] [ak K,an (ps.map cA),aa (.ext (.fam (ps.map aX)))] (.sl 3 0 64 1 ab) [dn (dF K (mO ps))]:=by
 have q1:=PE K Z 54 U;have q2:=PE K Z 92 U;have l1:=vZ 128 (kL K) 54;have l2:=vZ 128 (kL K) 92;obtain⟨r,u⟩:=ax (gM 128 (kL K) 54);obtain⟨O,F⟩:=ax (gM 128 (kL K) 92);rw [<-u]at q1 l1;rw [<-F]at q2 l2;have G:fU r ps (ps.length+1)=r++mO ps:=DG r ps;have q3:=Kc r ab ps ag (by rw [G,aW];omega) af;rw [G,l1]at q3;have l3:=vq (r++mO ps);have hm:dF K (mO ps)=gD (O++gD (r++mO ps)):=by unfold dF;rw [u,F]
 rw [hm];obtain⟨I,V⟩:=ax (gD (r++mO ps));rw [<-V]at q3 l3|-;have q4:=aaP O I ag ag ab ab ab;rw [l2,l3]at q4;have l4:=vq (O++I);obtain⟨W,hW⟩:=ax (gD (O++I));rw [<-hW]at q4 l4|-;clear u F V hW hm G;have hrow:aB (1*wv.sz) (aG 0 (bN (dK 1 SV.slnil.cells) (0*wv.sz) (SV.sl (Nat.succ 2) 0 128 1 ab)))++aB (ps.length*wv.sz) (aG 0 (SB.ro (fR cA ps)).cells)=SV.sl 3 0 128 1 ab::ps.map cA:=by
  show [SV.sl 3 0 128 1 ab]++aB (ps.length*1) (ps.map cA)=_
  rw [fS,bW gX];rfl
 refine WS ?_;refine zW (aE [] [] ab Ka) ?_;refine zc ?_;exact xR
theorem FP(K:List UInt8)(I:K.length<100000000000000)(ds:List PD)(X:HL)(hn:ds.length<1000000)(hb:(ds.map eY).flatten.length<90000000000000)(u fl:Bool)(hX:∀id f b,aa (id,f,b)∈ds->hg (ak K::an (ds.map lH)::X) id=ak b)(G:∀id b,hg X id=aa b->b.own=af):aQ 42 [.u8 1,.sl 0 0 K.length 1 u,.sl 1 0 ds.length 1 fl] (ak K::an (ds.map lH)::X) (.sl (X.length+1+1) 0 32 1 ab) (ak K::an (ds.map lH)::X++ [dn (cS K (ds.map eY).flatten)]):=by
 have q:∀ps:List cC,ps.map (λp=>p.2.2)=ds.map eY->_:=λps e=>PO K I ps (by rw [vS e];exact hn) (by unfold mO;rw [e];exact hb) u fl
 refine bV.absorb (N0:= [dn (cS K (ds.map eY).flatten)]) (args':= [.u8 1,.sl 0 0 K.length 1 u,.sl 1 0 ds.length 1 fl]) (ret':= .sl 3 0 32 1 ab) [0,1,0] (PO K I [] aw aw u fl).fn ?_ ?_ rfl rfl ?_ rfl ?_
 .intro ρ w hH;obtain⟨rb,hr,hb⟩:=hH 1 _ rfl;obtain⟨r,hr1,F⟩:=hH 0 _ rfl;obtain⟨ps,e1,e2,e3⟩:=Hq (sel:= [0,1,0]) (xs:= []) (ys:= []) (ds:=ds) hH hX rfl hb;have q2:=q ps e1;unfold mO at q2;rw [e1,vS e1]at q2;refine⟨[ak K,an (ps.map cA),aa (.ext (.fam (ps.map aX)))],rfl,?_,?_,q2⟩
  .intro j hj
   match j,hj with
   |0,_=>exact⟨_,rfl,rfl⟩
   |1,_=>exact⟨_,rfl,rfl⟩
   |2,_=>exact⟨_,rfl,rfl⟩
  .intro id b h
   match id,h with
   |0,h=>cases h;exact⟨r,hr1,(l9 (kb _ bI)).2 F⟩
   |1,h=>cases h;exact⟨rb,hr,e3⟩
   |2,h=>cases h;exact⟨r,hr1,e2 _ _⟩
   |_+3,h=>simp [hg]at h
 .intro id b h
  match id,h with
  |0,h=>cases h;rfl
  |1,h=>cases h;rfl
  |id+2,h=>exact G id b mZ
 .intro j s h
  match j,h with
  |0,h=>cases h;simp
  |1,h=>cases h;simp
  |2,h=>cases h;simp
  |_+3,h=>simp at h
 .intro j
  match j with
  |0=>exact .inr ⟨_,_,rfl,rfl,kb _ bI⟩
  |_+1=>exact .inl ⟨rfl,rfl⟩
theorem JZ(K:List UInt8)(I:K.length<100000000000000)(ds:List PD)(X:HL)(hn:ds.length<1000000)(hb:(ds.map eY).flatten.length<90000000000000)(u fl:Bool)(hX:∀id f b,aa (id,f,b)∈ds->hg (ak K::an (ds.map lH)::X) id=ak b)(G:∀id b,hg X id=aa b->b.own=af):aQ 42 [.u8 2,.sl 0 0 K.length 1 u,.sl 1 0 ds.length 1 fl] (ak K::an (ds.map lH)::X) (.sl (X.length+1+1) 0 64 1 ab) (ak K::an (ds.map lH)::X++ [dn (dF K (ds.map eY).flatten)]):=by
 have q:∀ps:List cC,ps.map (λp=>p.2.2)=ds.map eY->_:=λps e=>PQ K I ps (by rw [vS e];exact hn) (by unfold mO;rw [e];exact hb) u fl
 refine bV.absorb (N0:= [dn (dF K (ds.map eY).flatten)]) (args':= [.u8 2,.sl 0 0 K.length 1 u,.sl 1 0 ds.length 1 fl]) (ret':= .sl 3 0 64 1 ab) [0,1,0] (PQ K I [] aw aw u fl).fn ?_ ?_ rfl rfl ?_ rfl ?_
 .intro ρ w hH;obtain⟨rb,hr,hb⟩:=hH 1 _ rfl;obtain⟨r,hr1,F⟩:=hH 0 _ rfl;obtain⟨ps,e1,e2,e3⟩:=Hq (sel:= [0,1,0]) (xs:= []) (ys:= []) (ds:=ds) hH hX rfl hb;have q2:=q ps e1;unfold mO at q2;rw [e1,vS e1]at q2;refine⟨[ak K,an (ps.map cA),aa (.ext (.fam (ps.map aX)))],rfl,?_,?_,q2⟩
  .intro j hj
   match j,hj with
   |0,_=>exact⟨_,rfl,rfl⟩
   |1,_=>exact⟨_,rfl,rfl⟩
   |2,_=>exact⟨_,rfl,rfl⟩
  .intro id b h
   match id,h with
   |0,h=>cases h;exact⟨r,hr1,(l9 (kb _ bI)).2 F⟩
   |1,h=>cases h;exact⟨rb,hr,e3⟩
   |2,h=>cases h;exact⟨r,hr1,e2 _ _⟩
   |_+3,h=>simp [hg]at h
 .intro id b h
  match id,h with
  |0,h=>cases h;rfl
  |1,h=>cases h;rfl
  |id+2,h=>exact G id b mZ
 .intro j s h
  match j,h with
  |0,h=>cases h;simp
  |1,h=>cases h;simp
  |2,h=>cases h;simp
  |_+3,h=>simp at h
 .intro j
  match j with
  |0=>exact .inr ⟨_,_,rfl,rfl,kb _ bI⟩
  |_+1=>exact .inl ⟨rfl,rfl⟩
theorem aaa(K:List UInt8)(G:K.length<100000000000000)(r:List UInt8)(I:r.length<10000000000000)(F u fl:Bool):aM 42 [.u8 1,.sl 0 0 K.length 1 F,.sl 1 0 1 1 fl] [ak K,an [.sl 2 0 r.length 1 u],ak r] (.sl 3 0 32 1 ab) [dn (cS K (r))]:=by have q:=FP K G [aa (2,u,r)] [ak r] aq sV F fl (by intro id f b h;(repeat(rcases gy.1 h with e|h;·(cases e<;>rfl)));exact absurd h (by simp)) (by intro id b h;match id,h with|0,h=>cases h;rfl|_+1,h=>simp [hg]at h);rw [show(fR eY [aa (2,u,r)]).flatten=r by simp [eY]]at q;exact q
theorem aac(K:List UInt8)(G:K.length<100000000000000)(r u:List UInt8)(I:r.length<10000000000000)(hb2:u.length<10000000000000)(F f1 f2 fl:Bool):aM 42 [.u8 1,.sl 0 0 K.length 1 F,.sl 1 0 3 1 fl] [ak K,an [.slnil,.sl 2 0 r.length 1 f1,.sl 3 0 u.length 1 f2],ak r,ak u] (.sl 4 0 32 1 ab) [dn (cS K (r++u))]:=by have q:=FP K G [ah,aa (2,f1,r),aa (3,f2,u)] [ak r,ak u] aq sV F fl (by intro id f b h;(repeat(rcases gy.1 h with e|h;·(cases e<;>rfl)));exact absurd h (by simp)) (by intro id b h;match id,h with|0,h=>cases h;rfl|1,h=>cases h;rfl|_+2,h=>simp [hg]at h);rw [show(fR eY [ah,aa (2,f1,r),aa (3,f2,u)]).flatten=r++u by simp [eY]]at q;exact q
theorem aab(K:List UInt8)(O:K.length<100000000000000)(r u F:List UInt8)(U:r.length<10000000000000)(V:u.length<10000000000000)(hb2:F.length<10000000000000)(I G f1 f2 fl:Bool):aM 42 [.u8 1,.sl 0 0 K.length 1 I,.sl 1 0 3 1 fl] [ak K,an [.sl 2 0 r.length 1 G,.sl 3 0 u.length 1 f1,.sl 4 0 F.length 1 f2],ak r,ak u,ak F] (.sl 5 0 32 1 ab) [dn (cS K (r++u++F))]:=by have q:=FP K O [aa (2,G,r),aa (3,f1,u),aa (4,f2,F)] [ak r,ak u,ak F] aq sV I fl (by intro id f b h;(repeat(rcases gy.1 h with e|h;·(cases e<;>rfl)));exact absurd h (by simp)) (by intro id b h;match id,h with|0,h=>cases h;rfl|1,h=>cases h;rfl|2,h=>cases h;rfl|_+3,h=>simp [hg]at h);rw [show(fR eY [aa (2,G,r),aa (3,f1,u),aa (4,f2,F)]).flatten=r++u++F by simp [eY]]at q;exact q
theorem aae(K:List UInt8)(G:K.length<100000000000000)(r:List UInt8)(I:r.length<10000000000000)(F u fl:Bool):aM 42 [.u8 2,.sl 0 0 K.length 1 F,.sl 1 0 1 1 fl] [ak K,an [.sl 2 0 r.length 1 u],ak r] (.sl 3 0 64 1 ab) [dn (dF K (r))]:=by have q:=JZ K G [aa (2,u,r)] [ak r] aq sV F fl (by intro id f b h;(repeat(rcases gy.1 h with e|h;·(cases e<;>rfl)));exact absurd h (by simp)) (by intro id b h;match id,h with|0,h=>cases h;rfl|_+1,h=>simp [hg]at h);rw [show(fR eY [aa (2,u,r)]).flatten=r by simp [eY]]at q;exact q
theorem aag(K:List UInt8)(G:K.length<100000000000000)(r u:List UInt8)(I:r.length<10000000000000)(hb2:u.length<10000000000000)(F f1 f2 fl:Bool):aM 42 [.u8 2,.sl 0 0 K.length 1 F,.sl 1 0 3 1 fl] [ak K,an [.slnil,.sl 2 0 r.length 1 f1,.sl 3 0 u.length 1 f2],ak r,ak u] (.sl 4 0 64 1 ab) [dn (dF K (r++u))]:=by have q:=JZ K G [ah,aa (2,f1,r),aa (3,f2,u)] [ak r,ak u] aq sV F fl (by intro id f b h;(repeat(rcases gy.1 h with e|h;·(cases e<;>rfl)));exact absurd h (by simp)) (by intro id b h;match id,h with|0,h=>cases h;rfl|1,h=>cases h;rfl|_+2,h=>simp [hg]at h);rw [show(fR eY [ah,aa (2,f1,r),aa (3,f2,u)]).flatten=r++u by simp [eY]]at q;exact q
theorem aaf(K:List UInt8)(O:K.length<100000000000000)(r u F:List UInt8)(U:r.length<10000000000000)(V:u.length<10000000000000)(hb2:F.length<10000000000000)(I G f1 f2 fl:Bool):aM 42 [.u8 2,.sl 0 0 K.length 1 I,.sl 1 0 3 1 fl] [ak K,an [.sl 2 0 r.length 1 G,.sl 3 0 u.length 1 f1,.sl 4 0 F.length 1 f2],ak r,ak u,ak F] (.sl 5 0 64 1 ab) [dn (dF K (r++u++F))]:=by have q:=JZ K O [aa (2,G,r),aa (3,f1,u),aa (4,f2,F)] [ak r,ak u,ak F] aq sV I fl (by intro id f b h;(repeat(rcases gy.1 h with e|h;·(cases e<;>rfl)));exact absurd h (by simp)) (by intro id b h;match id,h with|0,h=>cases h;rfl|1,h=>cases h;rfl|2,h=>cases h;rfl|_+3,h=>simp [hg]at h);rw [show(fR eY [aa (2,G,r),aa (3,f1,u),aa (4,f2,F)]).flatten=r++u++F by simp [eY]]at q;exact q
theorem aai(K T:List UInt8)(u:K.length<100000000000000)(hT:T.length<10000000000000)(r ft:Bool):aM 40 [.u8 1,.sl 0 0 K.length 1 r,.sl 1 0 T.length 1 ft] [ak K,ak T] (.sl 2 0 32 1 ab) [dn (cS K T)]:=by have q:=aaa K u T hT r ft ab;have l:=tI K T;obtain⟨W,hW⟩:=ax (cS K T);rw [<-hW]at q l|-;exact Wp
theorem aal(K T:List UInt8)(u:K.length<100000000000000)(hT:T.length<10000000000000)(r ft:Bool):aM 40 [.u8 2,.sl 0 0 K.length 1 r,.sl 1 0 T.length 1 ft] [ak K,ak T] (.sl 2 0 64 1 ab) [dn (dF K T)]:=by have q:=aae K u T hT r ft ab;have l:=BT K T;obtain⟨W,hW⟩:=ax (dF K T);rw [<-hW]at q l|-;exact Wp
end Go.Sh
namespace Go.Sh
open Go.Proofs
def mE(K I:List UInt8):Nat->List UInt8
 |0=> []
 |i+1=>cS K (mE K I i++I++ [dg ((i+1:Nat):Int)])
def fD(K I:List UInt8):Nat->List UInt8
 |0=> []
 |i+1=>fD K I i++mE K I (i+1)
theorem uJ(K I:List UInt8)(i:Nat):(mE K I (i+1)).length=32:=tI _ _
theorem pY(K I:List UInt8):∀i,(fD K I i).length=32*i
 |0=>rfl
 |i+1=>by
  show(fD K I i++mE K I (i+1)).length=_
  rw [aW,pY K I i,uJ];omega
theorem FI(K I:List UInt8)(i:Nat):mE K I (i+1)=cS K (mE K I i++I++ [dg ((i+1:Nat):Int)]):=rfl
theorem PA(K I:List UInt8):mE K I 1=cS K (I++ [dg ((1:Nat):Int)]):=rfl
theorem Pw(K I:List UInt8)(i:Nat):fD K I (i+1)=fD K I i++mE K I (i+1):=rfl
theorem Py(K I:List UInt8):fD K I 0= []:=rfl
def JU:Nat->SV
 |0=> .slnil
 |_+1=> .sl 3 0 32 1 ab
def JO(K I:List UInt8):Nat->Option SB
 |0=>ah
 |i+1=>dn (mE K I (i+1))
section
attribute [local irreducible] cS mE fD
theorem J0(K I:List UInt8)(hK:K.length<100000000000000)(Z:I.length<10000000000000)(n:Nat)(h7:1<=n)(hn:n<=8160)(G F:Bool):aM 14 [.u8 1,.sl 0 0 K.length 1 G,.sl 1 0 I.length 1 F,.i (n:Int)] [ak K,ak I] (.tup [.sl 2 0 n 1 ab,.i 0]) [aC 5 (fD K I ((n+(32-1))/32))]:=by
 have e1:decide ((n:Int)<1)=af:=aA;have e2:decide ((n:Int)>au (255*32))=af:=by simp [eI];omega
 obtain⟨m,hm⟩:=ax ((n+(32-1))/32);refine WU ?_;refine zW (aE [] [] ab J9) ?_;refine Ic ?_;refine bp.weak (cl.virt 10 5 1 rfl) ?_;refine bT m (λi=> [(0,.u8 1),(1,.sl 0 0 K.length 1 G),(2,.sl 1 0 I.length 1 F),(3,.i n),(8,.slnil),(9,.i 0),(10,.sl 2 0 (32*i.1) 1 af),(11,JU i.1),(12,.i ((i.1+1:Nat):Int))]) (λi=> [ak K,ak I,aC 5 (fD K I i.1),JO K I i.1]) 4 ?_ ?_
 .have hz:=Py K I;exact Ix
 .rintro⟨i,hi⟩;dsimp only;have W:=pY K I i;have hos:=Pw K I i;have htl:=uJ K I i;have h9:=FI K I i;have hp:au (((i+1:Nat):Int)+1)=((i+1+1:Nat):Int):=cp;by_cases h6:i<m
  .have hlt:decide (((32*i:Nat):Int)<(n:Int))=ab:=aA;obtain⟨O,hO⟩:=ax (fD K I i);rw [<-hO]at W hos|-;rcases i with _|i
   .have q:=aac K hK I [dg ((1:Nat):Int)] Z (by decide: [dg ((1:Nat):Int)].length<10000000000000) G F ab ab;rw [<-PA]at q;obtain⟨T,hT⟩:=ax (mE K I 1);rw [<-hT]at q;have U:T.length=32:=by rw [hT];exact uJ K I 0
    have hap:(O++T).map SV.u8=aB (32*0*1) (aG 0 (O.map SV.u8))++aB (32*1) (aG 0 (T.map SV.u8)):=by rw [cq,cq,bW (l:=O.map SV.u8) gX,bW (l:=T.map SV.u8) gX,dU]
    refine WT ?_;unfold JU JO;dsimp only;rw [<-hT];exact bL [0,1,7,6]
   .obtain⟨T0,r⟩:=ax (mE K I (i+1));have u:=uJ K I i;rw [<-r]at u;have q:=aab K hK T0 I [dg ((i+1+1:Nat):Int)] ag Z aq G ab F ab ab;rw [r,<-FI,<-r,u]at q;obtain⟨T,hT⟩:=ax (mE K I (i+1+1));rw [<-hT]at q;have U:T.length=32:=by rw [hT];exact uJ K I (i+1)
    have hap:(O++T).map SV.u8=aB (32*(i+1)*1) (aG 0 (O.map SV.u8))++aB (32*1) (aG 0 (T.map SV.u8)):=by rw [cq,cq,bW (l:=O.map SV.u8) gX,bW (l:=T.map SV.u8) gX,dU]
    have h8:32*(i+1+1)=32*(i+1)+32:=ag;unfold JU JO;dsimp only;rw [<-r];refine zt ?_;exact Wl
  .obtain rfl:i=m:=ag;have hlt:decide (((32*i:Nat):Int)<(n:Int))=af:=aA;rcases i with _|i
   .omega
   .refine yF ?_;refine zI ?_;have V:decide (((n:Nat):Int).toNat=((n:Nat):Int).toNat)=ab:=aq;rw [V,mq];exact kU
end
def mG(K I:List UInt8):Nat->List UInt8
 |0=> []
 |i+1=>dF K (mG K I i++I++ [dg ((i+1:Nat):Int)])
def fZ(K I:List UInt8):Nat->List UInt8
 |0=> []
 |i+1=>fZ K I i++mG K I (i+1)
theorem uK(K I:List UInt8)(i:Nat):(mG K I (i+1)).length=64:=BT _ _
theorem tz(K I:List UInt8):∀i,(fZ K I i).length=64*i
 |0=>rfl
 |i+1=>by
  show(fZ K I i++mG K I (i+1)).length=_
  rw [aW,tz K I i,uK];omega
theorem FJ(K I:List UInt8)(i:Nat):mG K I (i+1)=dF K (mG K I i++I++ [dg ((i+1:Nat):Int)]):=rfl
theorem PB(K I:List UInt8):mG K I 1=dF K (I++ [dg ((1:Nat):Int)]):=rfl
theorem Px(K I:List UInt8)(i:Nat):fZ K I (i+1)=fZ K I i++mG K I (i+1):=rfl
theorem Pz(K I:List UInt8):fZ K I 0= []:=rfl
def JV:Nat->SV
 |0=> .slnil
 |_+1=> .sl 3 0 64 1 ab
def JP(K I:List UInt8):Nat->Option SB
 |0=>ah
 |i+1=>dn (mG K I (i+1))
section
attribute [local irreducible] dF mG fZ
theorem J1(K I:List UInt8)(hK:K.length<100000000000000)(Z:I.length<10000000000000)(n:Nat)(h7:1<=n)(hn:n<=16320)(G F:Bool):aM 14 [.u8 2,.sl 0 0 K.length 1 G,.sl 1 0 I.length 1 F,.i (n:Int)] [ak K,ak I] (.tup [.sl 2 0 n 1 ab,.i 0]) [aC 5 (fZ K I ((n+(64-1))/64))]:=by
 have e1:decide ((n:Int)<1)=af:=aA;have e2:decide ((n:Int)>au (255*64))=af:=by simp [eI];omega
 obtain⟨m,hm⟩:=ax ((n+(64-1))/64);refine WU ?_;refine zW (aE [] [] ab Ka) ?_;refine Ic ?_;refine bp.weak (cl.virt 10 5 1 rfl) ?_;refine bT m (λi=> [(0,.u8 2),(1,.sl 0 0 K.length 1 G),(2,.sl 1 0 I.length 1 F),(3,.i n),(8,.slnil),(9,.i 0),(10,.sl 2 0 (64*i.1) 1 af),(11,JV i.1),(12,.i ((i.1+1:Nat):Int))]) (λi=> [ak K,ak I,aC 5 (fZ K I i.1),JP K I i.1]) 4 ?_ ?_
 .have hz:=Pz K I;exact Ix
 .rintro⟨i,hi⟩;dsimp only;have W:=tz K I i;have hos:=Px K I i;have htl:=uK K I i;have h9:=FJ K I i;have hp:au (((i+1:Nat):Int)+1)=((i+1+1:Nat):Int):=cp;by_cases h6:i<m
  .have hlt:decide (((64*i:Nat):Int)<(n:Int))=ab:=aA;obtain⟨O,hO⟩:=ax (fZ K I i);rw [<-hO]at W hos|-;rcases i with _|i
   .have q:=aag K hK I [dg ((1:Nat):Int)] Z (by decide: [dg ((1:Nat):Int)].length<10000000000000) G F ab ab;rw [<-PB]at q;obtain⟨T,hT⟩:=ax (mG K I 1);rw [<-hT]at q;have U:T.length=64:=by rw [hT];exact uK K I 0
    have hap:(O++T).map SV.u8=aB (64*0*1) (aG 0 (O.map SV.u8))++aB (64*1) (aG 0 (T.map SV.u8)):=by rw [cq,cq,bW (l:=O.map SV.u8) gX,bW (l:=T.map SV.u8) gX,dU]
    refine WT ?_;unfold JV JP;dsimp only;rw [<-hT];exact bL [0,1,7,6]
   .obtain⟨T0,r⟩:=ax (mG K I (i+1));have u:=uK K I i;rw [<-r]at u;have q:=aaf K hK T0 I [dg ((i+1+1:Nat):Int)] ag Z aq G ab F ab ab;rw [r,<-FJ,<-r,u]at q;obtain⟨T,hT⟩:=ax (mG K I (i+1+1));rw [<-hT]at q;have U:T.length=64:=by rw [hT];exact uK K I (i+1)
    have hap:(O++T).map SV.u8=aB (64*(i+1)*1) (aG 0 (O.map SV.u8))++aB (64*1) (aG 0 (T.map SV.u8)):=by rw [cq,cq,bW (l:=O.map SV.u8) gX,bW (l:=T.map SV.u8) gX,dU]
    have h8:64*(i+1+1)=64*(i+1)+64:=ag;unfold JV JP;dsimp only;rw [<-r];refine zt ?_;exact Wl
  .obtain rfl:i=m:=ag;have hlt:decide (((64*i:Nat):Int)<(n:Int))=af:=aA;rcases i with _|i
   .omega
   .refine yF ?_;refine zI ?_;have V:decide (((n:Nat):Int).toNat=((n:Nat):Int).toNat)=ab:=aq;rw [V,mq];exact kU
end
attribute [local irreducible] cS dF fD fZ
theorem aaj(b:List UInt8)(hb:b.length<10000000000000)(f:Bool):aM 40 [.u8 1,.slnil,.sl 1 0 b.length 1 f] [ak b,ak b] (.sl 2 0 32 1 ab) [dn (cS [] b)]:=
 bV.nil [.u8 1] ((aai [] b aw hb ab f).sub 0 0 (b.map .u8) [] 3 rfl rfl rfl (cY _) rfl aw ⟨.inr ⟨rfl,rfl⟩,.inl rfl,.inr ⟨rfl,rfl⟩,trivial⟩ rfl ⟨.inl rfl,.inr (.inl bI),trivial⟩ ⟨.inl rfl,.inr (.inl bI),.inr (.inl bI),trivial⟩) rfl
theorem aak(b:List UInt8)(hb:b.length<10000000000000)(f:Bool):aM 40 [.u8 2,.slnil,.sl 1 0 b.length 1 f] [ak b,ak b] (.sl 2 0 64 1 ab) [dn (dF [] b)]:=
 bV.nil [.u8 2] ((aal [] b aw hb ab f).sub 0 0 (b.map .u8) [] 3 rfl rfl rfl (cY _) rfl aw ⟨.inr ⟨rfl,rfl⟩,.inl rfl,.inr ⟨rfl,rfl⟩,trivial⟩ rfl ⟨.inl rfl,.inr (.inl bI),trivial⟩ ⟨.inl rfl,.inr (.inl bI),.inr (.inl bI),trivial⟩) rfl
def iE:List UInt8:= [83,70,114,97,109,101,32,49,46,48,32,83,101,99,114,101,116,32,107,101,121,32]
def ia:List UInt8:= [83,70,114,97,109,101,32,49,46,48,32,83,101,99,114,101,116,32,115,97,108,116,32]
def pE:List UInt8:= [83,70,114,97,109,101,32,49,46,48,32,82,97,116,99,104,101,116]
theorem PF(K:UInt16)(A B C:Nat)(q66:aQ 39 [.u16 K] [] (.tup [iB 1 A B C 32,.i 0]) [])(b:List UInt8)(h0:0<b.length)(h1:b.length<=1024)(f:Bool):aM 13 [.u16 K,.sl 0 0 b.length 1 f] [ak b] (.tup [iB 1 A B C 32,.sl 1 0 32 1 ab,.i 0]) [dn (cS [] b)]:=by have q:=aaj b ag f;have l:=tI [] b;obtain⟨X,hX⟩:=ax (cS [] b);rw [<-hX]at q l|-;have e1:((b.length:Int)==0)=af:=IG;have e2:decide ((b.length:Int)>1024)=af:=aA;exact yO
theorem FR(K:UInt16)(A B C:Nat)(q66:aQ 39 [.u16 K] [] (.tup [iB 1 A B C 32,.i 0]) [])(b:List UInt8)(h0:0<b.length)(h1:b.length<=1024)(f:Bool):aM 144 [.u16 K,.sl 0 0 b.length 1 f] [ak b] (.tup [.sl 1 0 32 1 ab,.i 0]) [aC 5 (fD (cS [] b) pE 1)]:=by have q:=PF K A B C q66 b h0 h1 f;have l:=tI [] b;have q2:=J0 (cS [] b) pE ag aw 32 aw aw ab ab;rw [show fD (cS [] b) pE ((32+(32-1))/32)=fD (cS [] b) pE 1 from rfl,l]at q2;have l2:=pY (cS [] b) pE 1;obtain⟨X,hX⟩:=ax (cS [] b);rw [<-hX]at q q2 l l2|-;obtain⟨Y,hY⟩:=ax (fD X pE 1);rw [<-hY]at q2 l2|-;exact xX
theorem PG(K:UInt16)(A B C:Nat)(q66:aQ 39 [.u16 K] [] (.tup [iB 2 A B C 64,.i 0]) [])(b:List UInt8)(h0:0<b.length)(h1:b.length<=1024)(f:Bool):aM 13 [.u16 K,.sl 0 0 b.length 1 f] [ak b] (.tup [iB 2 A B C 64,.sl 1 0 64 1 ab,.i 0]) [dn (dF [] b)]:=by have q:=aak b ag f;have l:=BT [] b;obtain⟨X,hX⟩:=ax (dF [] b);rw [<-hX]at q l|-;have e1:((b.length:Int)==0)=af:=IG;have e2:decide ((b.length:Int)>1024)=af:=aA;exact yO
theorem aaC(K:UInt16)(A B C:Nat)(q66:aQ 39 [.u16 K] [] (.tup [iB 2 A B C 64,.i 0]) [])(b:List UInt8)(h0:0<b.length)(h1:b.length<=1024)(f:Bool):aM 144 [.u16 K,.sl 0 0 b.length 1 f] [ak b] (.tup [.sl 1 0 64 1 ab,.i 0]) [aC 5 (fZ (dF [] b) pE 1)]:=by have q:=PG K A B C q66 b h0 h1 f;have l:=BT [] b;have q2:=J1 (dF [] b) pE ag aw 64 aw aw ab ab;rw [show fZ (dF [] b) pE ((64+(64-1))/64)=fZ (dF [] b) pE 1 from rfl,l]at q2;have l2:=tz (dF [] b) pE 1;obtain⟨X,hX⟩:=ax (dF [] b);rw [<-hX]at q q2 l l2|-;obtain⟨Y,hY⟩:=ax (fZ X pE 1);rw [<-hY]at q2 l2|-;exact xX
end Go.Sh
