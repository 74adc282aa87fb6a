/- Merged for a claim: T7, T8, W14, W13, W15, W10, R1. -/
import Derived.Test.YtkahaemiigimcaaGreatFm10
set_option linter.unusedSimpArgs false
set_option linter.unusedVariables false
set_option maxHeartbeats 4000000
open Option renaming some->aa,none->ah
open Bool renaming true->ab,false->af
open List renaming take->aB,drop->aG,length_append->aW,take_of_length_le->bW,drop_zero->cq,getElem?_eq_getElem->dy,map_append->dU,length_drop->fQ,getElem?_drop->iS,map_take->iU,length_cons->jM,take_length->ly,drop_drop->ng,map_drop->o0,take_left->sZ,eq_nil_of_length_eq_zero->ug,take_left'->vz
open UInt64 renaming ofNat->aF,toNat_inj->dJ,lt_iff_toNat_lt->gh,toNat_ofNat'->j5,toNat_add->lY,toNat_lt->l6,toNat_div->nL,toNat_mod->nM,toNat_toUInt8->oB,toNat_shiftRight->sr,toNat_mul->uu,toNat_shiftLeft->uv,toNat_and->wW,toNat_or->Bg
open And renaming intro->aJ
open UInt8 renaming ofNat->cX,toNat_lt->eQ,toNat_inj->my,toNat_ofNat'->nN,toNat_toUInt64->qU
open Nat renaming mul_one->fS,mod_eq_of_lt->gq,mul_le_mul_right->iV,zero_le->kD,shiftLeft_eq->nk,shiftRight_eq_div_pow->np,add_assoc->sn,pow_le_pow_right->uo,add_comm->vC
open Int renaming tmod_eq_emod_of_nonneg->sk
open UInt32 renaming toNat_ofNat'->Bd
namespace Go.Sh
open Go.Proofs
variable{k:UInt64}
def Fg(a:UInt64)(c:UInt8):UInt64:=dr a 8|||c.toUInt64
def pU(l:List UInt8):UInt64:=l.foldl Fg 0
def gW(b:List UInt8)(cz:UInt8)(r:Nat):Option (UInt64×Nat):=
 if cz<8 then aa (cz.toUInt64,r)
 else if b.length<r+(cz-8).toNat+1 then ah
 else if(hD (pU ((b.drop r).take ((cz-8).toNat+1)))).length=(cz-8).toNat+1 then aa (pU ((b.drop r).take ((cz-8).toNat+1)),r+(cz-8).toNat+1)else ah
def cz(b:List UInt8)(i:Nat):UInt8:=if i=0 then wk (b.getD 0 0) 4 else b.getD 0 0&&&15
def qI(b:List UInt8):Nat->Option (Nat×UInt64×UInt64)
 |0=>aa (1,0,0)
 |i+1=>match qI b i with
  |none=>ah
  |some (at_,k,c)=>match gW b (cz b i) at_ with
   |none=>ah
   |some (v,at2)=>aa (at2,if i=0 then v else k,if i=0 then c else v)
def fg(b:List UInt8):Option (Nat×UInt64×UInt64):=if b= []then ah else qI b 2
def ajH:Option (Nat×UInt64×UInt64)->SV
 |none=> .tup [.agg [.u64 0,.u64 0],.i 0,.i 9]
 |some (u,k,c)=> .tup [.agg [.u64 k,.u64 c],.i (u:Int),.i 0]
theorem TO{α:Type}(d:α)(b:List α)(a j:Nat)(h:a+j<b.length):(b.drop a).take (j+1)=(b.drop a).take j++ [b.getD (a+j) d]:=by rw [List.take_add_one];congr 1;simp [iS,dy h]
theorem Oy(b:List UInt8)(a j:Nat)(h:a+j<b.length):pU ((b.drop a).take (j+1))=Fg (pU ((b.drop a).take j)) (b.getD (a+j) 0):=by rw [TO 0 b a j h];simp [pU]
theorem f17(b:List UInt8)(hb:b.length<1000000000):aM 27 [.sl 0 0 b.length 1 af] [ak b] (ajH (fg b)) []:=by
 refine aL (fn:=Tryz.f27) ?_;refine zu ?_;by_cases h0:b= []
 .subst h0;refine zW (du az) ?_;refine zl ?_;exact⟨[0],rfl,rfl,rfl,⟨rfl,trivial⟩,rfl⟩
 .have hl:0<b.length:=List.length_pos_iff.2 h0;refine zW (eV aA) ?_;repeat(first|refine zH (cU (i:=0) az ag) ?_|refine aS ?_)
  refine fH (ι:={p:Nat×Nat×UInt64×UInt64//p.1<=2/\p.2.1<=b.length/\qI b p.1=aa p.2}) (λp=> [(0,.sl 0 0 b.length 1 af),(2,.p 1 0),(5,.p 2 0),(6,.i (p.1.2.1:Int)),(24,.agg [.u8 (cz b 0),.u8 (cz b 1)]),(25,.i (p.1.1:Int))]) (λp=> [ak b,al [.u64 0,.u64 0],al [.u64 p.1.2.2.1,.u64 p.1.2.2.2]]) (λ_=>3) (λp=>2-p.1.1) ⟨(0,1,0,0),aq,aA,rfl⟩ ?_ ?_
  .exact xA
  .rintro⟨⟨i,a,k,c⟩,hi,ha,ht⟩;refine nH ?_;refine⟨λhc=>?_,λhc=>?_⟩
   .conv=>whnf
    have h6:i=0\/i=1:=ov;rcases h6 with rfl|rfl
    .change a<=b.length at ha;have hz:k=0:=by simp [qI]at ht;exact ht.2.1.symm
     have I:qI b (0+1)=(match gW b (cz b 0) a with|none=>ah|some (v,at2)=>aa (at2,if 0=0 then v else k,if 0=0 then c else v)):=by
      show(match qI b 0 with|none=>ah|some (at_,k,c)=>match gW b (cz b 0) at_ with|none=>ah|some (v,at2)=>aa (at2,if 0=0 then v else k,if 0=0 then c else v))=_
      rw [show qI b 0=aa (a,k,c)from ht]
     have h7:(cz b 0-8).toNat<256:=eQ _;have F:gW b (cz b 0) a=ah->fg b=ah:=λh=>by rw [h]at I;unfold fg;rw [if_neg h0];show(match qI b 1 with|none=>ah|some (at_,k,c)=>_)=ah;rw [I]
     refine zl ?_;refine⟨λh8=>?_,λh8=>?_⟩
     .refine zI ?_;have V:cz b 0<8:=by simpa using h8
      have G:gW b (cz b 0) a=aa ((cz b 0).toUInt64,a):=by unfold gW;rw [if_pos V]
      rw [G]at I;refine⟨⟨(0+1,a,if 0=0 then(cz b 0).toUInt64 else k,if 0=0 then c else(cz b 0).toUInt64),aq,ha,I⟩,aq,?_⟩;exact xA
     .have V:¬cz b 0<8:=by simpa using h8
      conv=>whnf
      have hw:au (au ((a:Int)+((cz b 0-8).toNat:Int))+1)=((a+(cz b 0-8).toNat+1:Nat):Int):=by exact t8
      refine⟨λhe=>?_,λhe=>?_⟩
      .have W:b.length<a+(cz b 0-8).toNat+1:=by have O:decide (au (au ((a:Int)+((cz b 0-8).toNat:Int))+1)>(b.length:Int))=ab:=he;rw [hw]at O;simp at O;omega
       have G:gW b (cz b 0) a=ah:=by unfold gW;rw [if_neg V,if_pos W]
       refine zI ?_;rw [F G];exact gH
      .have W:a+(cz b 0-8).toNat+1<=b.length:=by have O:decide (au (au ((a:Int)+((cz b 0-8).toNat:Int))+1)>(b.length:Int))=af:=he;rw [hw]at O;simp at O;omega
       conv=>whnf
       repeat(first|refine zH (bg (m:=a+(cz b 0-8).toNat+1) (by first|rfl|exact hw)) ?_|refine aS ?_)
       obtain⟨m,hm⟩:=ax ((cz b 0-8).toNat+1);refine bT m (λj=> [(0,.sl 0 0 b.length 1 af),(2,.p 1 0),(5,.p 2 0),(6,.i (a:Int)),(7,.i 0),(9,.i ((a+m:Nat):Int)),(24,.agg [.u8 (cz b 0),.u8 (cz b 1)]),(25,.i 0),(49,.sl 0 a m 1 af),(50,.i (m:Int)),(51,.i (j.1:Int))]) (λj=> [ak b,al [.u64 0,.u64 0],al [.u64 (pU ((b.drop a).take j.1)),.u64 c]]) 3 ?_ ?_
       .refine bP [0,1,2] ?_ ?_
        ·(repeat'(first|exact trivial|refine aJ ?_ ?_|(refine pJ ?_)|(refine dM ?_ ?_)))<;>first|rfl|exact dh (by first|rfl|omega|(simp [hz,hm,pU];omega))|exact iQ rfl ag ag|fail
        ·(repeat'(first|exact trivial|refine aJ ?_ ?_|(refine dM ?_ ?_)))<;>first|rfl|exact aY (by first|simp) az|exact lr (by exact hz.symm)|fail
       .rintro⟨j,hj⟩;refine nH ?_;refine⟨λhjc=>?_,λhjc=>?_⟩
        .have Z:j<m:=uc;conv=>whnf
         repeat(first|refine zH (cU (i:=a+j) (by first|omega) ag) ?_|refine aS ?_)
         have hs:=Oy b a j ag;have hjw:au ((j:Int)+1)=((j+1:Nat):Int):=cp;refine⟨⟨j+1,ag⟩,dt,?_⟩;refine bP [0,1,2] ?_ ?_
         ·(repeat'(first|exact trivial|refine aJ ?_ ?_|(refine pJ ?_)|(refine dM ?_ ?_)))<;>first|rfl|exact dh (by exact hjw.symm)|fail
         ·(repeat'(first|exact trivial|refine aJ ?_ ?_|(refine dM ?_ ?_)))<;>first|rfl|exact aY (by first|simp) az|exact lr (by exact hs)|fail
        .have Z:j=m:=ud;subst Z;refine zI ?_;obtain⟨u,hu⟩:=ax (pU ((b.drop a).take j));rw [<-hu];have G:gW b (cz b 0) a=if(hD u).length=j then aa (u,a+j)else ah:=by unfold gW;rw [if_neg V,if_neg ag,<-hm,<-hu,hm];rfl
         have hjw:au (((a+j:Nat):Int)-(a:Int))=(j:Int):=cp;by_cases U:u<8
         .refine zW (cP [] (BD u U)) ?_;refine zW (du (by rw [hjw];simp;omega)) ?_;have r:gW b (cz b 0) a=ah:=by rw [G,if_neg (by simp [hD,U];omega)]
          refine zl ?_;rw [F r];exact gH
         .refine zW (cP [] (De u U)) ?_;have hDu:(hD u).length=(gz u 8).length:=by simp [hD,U]
          refine⟨λhq=>?_,λhq=>?_⟩
          .have hne:(gz u 8).length≠j:=IW;have r:gW b (cz b 0) a=ah:=by rw [G,if_neg (by omega)]
           refine zI ?_;rw [F r];exact gH
          .have hne:(gz u 8).length=j:=IW;have r:gW b (cz b 0) a=aa (u,a+j):=by rw [G,if_pos (by omega)]
           rw [r]at I;conv=>whnf
           refine⟨⟨(0+1,a+j,if 0=0 then u else k,if 0=0 then c else u),aq,dt,I⟩,aq,?_⟩;exact xA
    .change a<=b.length at ha;have hz:c=0:=by simp only [qI]at ht;split at ht<;>simp_all
     have I:qI b (1+1)=(match gW b (cz b 1) a with|none=>ah|some (v,at2)=>aa (at2,if 1=0 then v else k,if 1=0 then c else v)):=by
      show(match qI b 1 with|none=>ah|some (at_,k,c)=>match gW b (cz b 1) at_ with|none=>ah|some (v,at2)=>aa (at2,if 1=0 then v else k,if 1=0 then c else v))=_
      rw [show qI b 1=aa (a,k,c)from ht]
     have h7:(cz b 1-8).toNat<256:=eQ _;have F:gW b (cz b 1) a=ah->fg b=ah:=λh=>by rw [h]at I;unfold fg;rw [if_neg h0];exact I
     refine zl ?_;refine⟨λh8=>?_,λh8=>?_⟩
     .refine zI ?_;have V:cz b 1<8:=by simpa using h8
      have G:gW b (cz b 1) a=aa ((cz b 1).toUInt64,a):=by unfold gW;rw [if_pos V]
      rw [G]at I;refine⟨⟨(1+1,a,if 1=0 then(cz b 1).toUInt64 else k,if 1=0 then c else(cz b 1).toUInt64),aq,ha,I⟩,aq,?_⟩;exact xA
     .have V:¬cz b 1<8:=by simpa using h8
      conv=>whnf
      have hw:au (au ((a:Int)+((cz b 1-8).toNat:Int))+1)=((a+(cz b 1-8).toNat+1:Nat):Int):=by exact t8
      refine⟨λhe=>?_,λhe=>?_⟩
      .have W:b.length<a+(cz b 1-8).toNat+1:=by have O:decide (au (au ((a:Int)+((cz b 1-8).toNat:Int))+1)>(b.length:Int))=ab:=he;rw [hw]at O;simp at O;omega
       have G:gW b (cz b 1) a=ah:=by unfold gW;rw [if_neg V,if_pos W]
       refine zI ?_;rw [F G];exact gH
      .have W:a+(cz b 1-8).toNat+1<=b.length:=by have O:decide (au (au ((a:Int)+((cz b 1-8).toNat:Int))+1)>(b.length:Int))=af:=he;rw [hw]at O;simp at O;omega
       conv=>whnf
       repeat(first|refine zH (bg (m:=a+(cz b 1-8).toNat+1) (by first|rfl|exact hw)) ?_|refine aS ?_)
       obtain⟨m,hm⟩:=ax ((cz b 1-8).toNat+1);refine bT m (λj=> [(0,.sl 0 0 b.length 1 af),(2,.p 1 0),(5,.p 2 0),(6,.i (a:Int)),(7,.i 1),(9,.i ((a+m:Nat):Int)),(24,.agg [.u8 (cz b 0),.u8 (cz b 1)]),(25,.i 1),(49,.sl 0 a m 1 af),(50,.i (m:Int)),(51,.i (j.1:Int))]) (λj=> [ak b,al [.u64 0,.u64 0],al [.u64 k,.u64 (pU ((b.drop a).take j.1))]]) 3 ?_ ?_
       .refine bP [0,1,2] ?_ ?_
        ·(repeat'(first|exact trivial|refine aJ ?_ ?_|(refine pJ ?_)|(refine dM ?_ ?_)))<;>first|rfl|exact dh (by first|rfl|omega|(simp [hz,hm,pU];omega))|exact iQ rfl ag ag|fail
        ·(repeat'(first|exact trivial|refine aJ ?_ ?_|(refine dM ?_ ?_)))<;>first|rfl|exact aY (by first|simp) az|exact lr (by exact hz.symm)|fail
       .rintro⟨j,hj⟩;refine nH ?_;refine⟨λhjc=>?_,λhjc=>?_⟩
        .have Z:j<m:=uc;conv=>whnf
         repeat(first|refine zH (cU (i:=a+j) (by first|omega) ag) ?_|refine aS ?_)
         have hs:=Oy b a j ag;have hjw:au ((j:Int)+1)=((j+1:Nat):Int):=cp;refine⟨⟨j+1,ag⟩,dt,?_⟩;refine bP [0,1,2] ?_ ?_
         ·(repeat'(first|exact trivial|refine aJ ?_ ?_|(refine pJ ?_)|(refine dM ?_ ?_)))<;>first|rfl|exact dh (by exact hjw.symm)|fail
         ·(repeat'(first|exact trivial|refine aJ ?_ ?_|(refine dM ?_ ?_)))<;>first|rfl|exact aY (by first|simp) az|exact lr (by exact hs)|fail
        .have Z:j=m:=ud;subst Z;refine zI ?_;obtain⟨u,hu⟩:=ax (pU ((b.drop a).take j));rw [<-hu];have G:gW b (cz b 1) a=if(hD u).length=j then aa (u,a+j)else ah:=by unfold gW;rw [if_neg V,if_neg ag,<-hm,<-hu,hm];rfl
         have hjw:au (((a+j:Nat):Int)-(a:Int))=(j:Int):=cp;by_cases U:u<8
         .refine zW (cP [] (BD u U)) ?_;refine zW (du (by rw [hjw];simp;omega)) ?_;have r:gW b (cz b 1) a=ah:=by rw [G,if_neg (by simp [hD,U];omega)]
          refine zl ?_;rw [F r];exact gH
         .refine zW (cP [] (De u U)) ?_;have hDu:(hD u).length=(gz u 8).length:=by simp [hD,U]
          refine⟨λhq=>?_,λhq=>?_⟩
          .have hne:(gz u 8).length≠j:=IW;have r:gW b (cz b 1) a=ah:=by rw [G,if_neg (by omega)]
           refine zI ?_;rw [F r];exact gH
          .have hne:(gz u 8).length=j:=IW;have r:gW b (cz b 1) a=aa (u,a+j):=by rw [G,if_pos (by omega)]
           rw [r]at I;conv=>whnf
           refine⟨⟨(1+1,a+j,if 1=0 then u else k,if 1=0 then c else u),aq,dt,I⟩,aq,?_⟩;exact xA
   .conv=>whnf
    have h6:i=2:=ov;subst h6;refine zl ?_;have hT:fg b=aa (a,k,c):=by unfold fg;rw [if_neg h0];exact ht
    rw [hT];exact gH
theorem Dc(k c:UInt64):∃fl,aQ 21 [.agg [.u64 k,.u64 c]] [] (.sl 0 0 (gV k c).length 1 fl) [aC 5 (gV k c)]:=by
 by_cases hk:k<8<;>by_cases hc:c<8
 .exact⟨_,Z0 k c hk hc⟩
 .exact⟨_,ZZ k c hk hc⟩
 .exact⟨_,ZY k c hk hc⟩
 .exact⟨_,ZX k c hk hc⟩
theorem Z5(k c:UInt64):∃fl,aQ 17 [.agg [.u64 k,.u64 c]] [] (.sl 0 0 (bF k c).length 1 fl) [aC 5 (bF k c)]:=by
 by_cases hk:k<8<;>by_cases hc:c<8
 .exact⟨_,Z4 k c hk hc⟩
 .exact⟨_,Z3 k c hk hc⟩
 .exact⟨_,Z2 k c hk hc⟩
 .exact⟨_,Z1 k c hk hc⟩
def iY(l:List UInt8):UInt64:=l.foldl (λa c=>256*a+c.toUInt64) 0
theorem Ow(b:List UInt8)(a j:Nat)(h:a+j<b.length):iY ((b.drop a).take (j+1))=256*iY ((b.drop a).take j)+(b.getD (a+j) 0).toUInt64:=by rw [TO 0 b a j h];simp [iY]
def bK(b:List UInt8):Nat:=if 128<=(b.getD 0 0).toNat then(b.getD 0 0).toNat/16-7 else 0
def bX(b:List UInt8):Nat:=if 8<=(b.getD 0 0).toNat%16 then(b.getD 0 0).toNat%16-7 else 0
theorem rZ(a c:Nat)(r:a<=1000000000)(hc:c<=1000000000):au (au (1+(a:Int))+(c:Int))=((1+a+c:Nat):Int):=by exact t8
theorem H6(a:Nat)(r:7<=a)(hc:a<=1000000000):au ((a:Int)-7)=((a-7:Nat):Int):=by exact t8
theorem Na{c d:UInt8}:decide (c>=d)=ab↔d.toNat<=c.toNat:=by simp [UInt8.le_iff_toNat_le]
theorem HW{c d:UInt8}:decide (c>=d)=af↔c.toNat<d.toNat:=by simp [UInt8.lt_iff_toNat_lt]
def rk(b:List UInt8):UInt64:=if 0<bK b then iY ((b.drop 1).take (bK b))else(b.getD 0 0/16).toUInt64
def rc(b:List UInt8):UInt64:=if 0<bX b then iY ((b.drop (1+bK b)).take (bX b))else(b.getD 0 0%16).toUInt64
def u7(b:List UInt8):Option (Nat×UInt64×UInt64):=
 if b= []then ah else if b.length<1+bK b+bX b then ah
 else if gV (rk b) (rc b)=b.take (1+bK b+bX b)then aa (1+bK b+bX b,rk b,rc b)else ah
def ag8:Option (Nat×UInt64×UInt64)->SV
 |none=> .tup [.agg [.u64 0,.u64 0],.i 0]
 |some (u,k,c)=> .tup [.agg [.u64 k,.u64 c],.i (u:Int)]
def e1(b:List UInt8)(j:Nat):UInt64:=if 0<bK b then iY ((b.drop 1).take j)else(b.getD 0 0/16).toUInt64
def e2(b:List UInt8)(j:Nat):UInt64:=if 0<bX b then iY ((b.drop (1+bK b)).take j)else(b.getD 0 0%16).toUInt64
theorem FA(b:List UInt8)(j:Nat)(h:1+j<b.length)(hj:j<bK b):256*e1 b j+(b.getD (1+j) 0).toUInt64=e1 b (j+1):=by unfold e1;rw [if_pos ag,if_pos ag,Ow b 1 j h]
theorem FB(b:List UInt8)(j:Nat)(h:1+bK b+j<b.length)(hj:j<bX b):256*e2 b j+(b.getD (1+bK b+j) 0).toUInt64=e2 b (j+1):=by unfold e2;rw [if_pos ag,if_pos ag,Ow b (1+bK b) j h]
theorem wy(a:Nat)(r:a<=1000000000):au ((a:Int)+1)=((a+1:Nat):Int):=by simp only [eI];omega
theorem HZ(a:Nat)(r:a<=1000000000):au (1+(a:Int))=((1+a:Nat):Int):=by simp only [eI];omega
theorem f18(b:List UInt8)(hb:b.length<1000000000):aM 35 [.sl 0 0 b.length 1 af] [ak b] (ag8 (u7 b)) []:=by
 refine aL (fn:=Tryz.f35) ?_;refine zu ?_;by_cases h0:b= []
 .subst h0;refine zW (du az) ?_;refine zl ?_;exact gH
 .have hl:0<b.length:=List.length_pos_iff.2 h0;refine zW (eV aA) ?_;repeat(first|refine zH (cU (i:=0) az ag) ?_|refine aS ?_)
  have O:(b.getD 0 0/16).toNat=(b.getD 0 0).toNat/16:=UInt8.toNat_div _ _;have I:(b.getD 0 0%16).toNat=(b.getD 0 0).toNat%16:=UInt8.toNat_mod _ _;have V:(b.getD 0 0).toNat<256:=eQ _;have hr1:u7 b=if b.length<1+bK b+bX b then ah else if gV (rk b) (rc b)=b.take (1+bK b+bX b)then aa (1+bK b+bX b,rk b,rc b)else ah:=by unfold u7;rw [if_neg h0]
  by_cases hk:128<=(b.getD 0 0).toNat<;>by_cases hc:8<=(b.getD 0 0).toNat%16
  .refine du (by first|(refine Na.2 ?_;exact hk)|fail) ?_;refine zV ?_;refine du XS ?_;refine zV ?_;have hnk:au (((b.getD 0 0/16).toNat:Int)-7)=(bK b:Int):=by unfold bK;rw [if_pos hk];first|(rw [O,H6 _ ag ag])
   have hnc:au (((b.getD 0 0%16).toNat:Int)-7)=(bX b:Int):=by unfold bX;rw [if_pos hc];first|(rw [I,H6 _ ag ag])
   have bk:bK b<=8:=by unfold bK;split<;>omega
   have U:bX b<=8:=by unfold bX;split<;>omega
   have hx:au (au (1+au (((b.getD 0 0/16).toNat:Int)-7))+au (((b.getD 0 0%16).toNat:Int)-7))=((1+bK b+bX b:Nat):Int):=by have h:=rZ (bK b) (bX b) ag ag;rw [<-hnk,<-hnc]at h;exact h
   refine⟨λh1=>?_,λh1=>?_⟩
   .have F:b.length<1+bK b+bX b:=by have h2:decide ((b.length:Int)<au (au (1+au (((b.getD 0 0/16).toNat:Int)-7))+au (((b.getD 0 0%16).toNat:Int)-7)))=ab:=h1;rw [hx]at h2;simp at h2;omega
    rw [if_pos F]at hr1;exact y5
   .have F:¬b.length<1+bK b+bX b:=by have h2:decide ((b.length:Int)<au (au (1+au (((b.getD 0 0/16).toNat:Int)-7))+au (((b.getD 0 0%16).toNat:Int)-7)))=af:=h1;rw [hx]at h2;simp at h2;omega
    rw [if_neg F]at hr1;refine zV ?_;have hpk:(au (((b.getD 0 0/16).toNat:Int)-7)>0)↔0<bK b:=by rw [hnk];omega
    have hpc:(au (((b.getD 0 0%16).toNat:Int)-7)>0)↔0<bX b:=by rw [hnc];omega
    have gk:0<bK b:=by unfold bK;rw [if_pos hk];all_goals omega
    have gc:0<bX b:=by unfold bX;rw [if_pos hc];all_goals omega
    refine WZ ?_;refine W0 ?_;have i1:0=e1 b 0:=IX;have i2:0=e2 b 0:=IY;refine bT (bK b) (λj=> [(0,.sl 0 0 b.length 1 af),(2,.p 1 0),(4,.i (bK b:Int)),(5,.i (bX b:Int)),(6,.p 2 0),(7,.i (j.1:Int))]) (λj=> [ak b,al [.u64 0,.u64 0],al [.u64 (e1 b j.1),.u64 (e2 b 0)]]) 3 ?_ ?_
    .exact xA
    .rintro⟨j,hj⟩;refine nH ?_;refine⟨λhjc=>?_,λhjc=>?_⟩
     .have u:j<bK b:=uc;have G:=HZ j ag;have hw2:=wy j ag;have hs:=FA b j ag u;exact z0
     .have u:j=bK b:=ud;subst u;conv=>whnf
      refine bT (bX b) (λj=> [(0,.sl 0 0 b.length 1 af),(2,.p 1 0),(4,.i (bK b:Int)),(5,.i (bX b:Int)),(6,.p 2 0),(8,.i (j.1:Int))]) (λj=> [ak b,al [.u64 0,.u64 0],al [.u64 (rk b),.u64 (e2 b j.1)]]) 3 ?_ ?_
      .exact xA
      .rintro⟨j,hj⟩;refine nH ?_;refine⟨λhjc=>?_,λhjc=>?_⟩
       .have u:j<bX b:=uc;have G:=rZ (bK b) j ag ag;have hw2:=wy j ag;have hs:=FB b j ag u;exact zX
       .have u:j=bX b:=ud;subst u;refine zL ?_;obtain⟨fl,h16⟩:=Dc (rk b) (rc b);have hw3:=rZ (bK b) (bX b) ag ag;obtain⟨r,hr⟩:=ax (gV (rk b) (rc b));rw [<-hr]at h16;refine yQ ?_;have hrr:r.take r.length=r:=ly;rw [<-hr]at hr1;refine⟨λhq=>?_,λhq=>?_⟩
        .have hne:¬r=b.take (1+bK b+bX b):=wM;rw [if_neg hne]at hr1;exact y5
        .have hne:r=b.take (1+bK b+bX b):=wM;rw [if_pos hne]at hr1;exact y5
  .refine du (by first|(refine Na.2 ?_;exact hk)|fail) ?_;refine zV ?_;refine eV (by first|(refine HW.2 ?_;show(b.getD 0 0%16).toNat<8;omega)) ?_;conv=>whnf
   have hnk:au (((b.getD 0 0/16).toNat:Int)-7)=(bK b:Int):=by unfold bK;rw [if_pos hk];first|(rw [O,H6 _ ag ag])
   have hnc:(0:Int)=(bX b:Int):=by unfold bX;rw [if_neg hc];first|rfl|fail
   have bk:bK b<=8:=by unfold bK;split<;>omega
   have U:bX b<=8:=by unfold bX;split<;>omega
   have hx:au (au (1+au (((b.getD 0 0/16).toNat:Int)-7))+(0:Int))=((1+bK b+bX b:Nat):Int):=by have h:=rZ (bK b) (bX b) ag ag;rw [<-hnk,<-hnc]at h;exact h
   refine⟨λh1=>?_,λh1=>?_⟩
   .have F:b.length<1+bK b+bX b:=by have h2:decide ((b.length:Int)<au (au (1+au (((b.getD 0 0/16).toNat:Int)-7))+(0:Int)))=ab:=h1;rw [hx]at h2;simp at h2;omega
    rw [if_pos F]at hr1;exact y5
   .have F:¬b.length<1+bK b+bX b:=by have h2:decide ((b.length:Int)<au (au (1+au (((b.getD 0 0/16).toNat:Int)-7))+(0:Int)))=af:=h1;rw [hx]at h2;simp at h2;omega
    rw [if_neg F]at hr1;refine zV ?_;have hpk:(au (((b.getD 0 0/16).toNat:Int)-7)>0)↔0<bK b:=by rw [hnk];omega
    have hpc:((0:Int)>0)↔0<bX b:=by rw [hnc];omega
    have gk:0<bK b:=by unfold bK;rw [if_pos hk];all_goals omega
    have gc:bX b=0:=by unfold bX;rw [if_neg hc];all_goals omega
    refine WZ ?_;first|skip
    have i1:0=e1 b 0:=IX;have i2:(b.getD 0 0%16).toUInt64=e2 b 0:=IY;refine bT (bK b) (λj=> [(0,.sl 0 0 b.length 1 af),(2,.p 1 0),(4,.i (bK b:Int)),(5,.i (bX b:Int)),(6,.p 2 0),(7,.i (j.1:Int))]) (λj=> [ak b,al [.u64 0,.u64 0],al [.u64 (e1 b j.1),.u64 (e2 b 0)]]) 3 ?_ ?_
    .exact xA
    .rintro⟨j,hj⟩;refine nH ?_;refine⟨λhjc=>?_,λhjc=>?_⟩
     .have u:j<bK b:=uc;have G:=HZ j ag;have hw2:=wy j ag;have hs:=FA b j ag u;exact z0
     .have u:j=bK b:=ud;subst u;conv=>whnf
      refine bT (bX b) (λj=> [(0,.sl 0 0 b.length 1 af),(2,.p 1 0),(4,.i (bK b:Int)),(5,.i (bX b:Int)),(6,.p 2 0),(8,.i (j.1:Int))]) (λj=> [ak b,al [.u64 0,.u64 0],al [.u64 (rk b),.u64 (e2 b j.1)]]) 3 ?_ ?_
      .exact xA
      .rintro⟨j,hj⟩;refine nH ?_;refine⟨λhjc=>?_,λhjc=>?_⟩
       .have u:j<bX b:=uc;have G:=rZ (bK b) j ag ag;have hw2:=wy j ag;have hs:=FB b j ag u;exact zX
       .have u:j=bX b:=ud;subst u;refine zL ?_;obtain⟨fl,h16⟩:=Dc (rk b) (rc b);have hw3:=rZ (bK b) (bX b) ag ag;obtain⟨r,hr⟩:=ax (gV (rk b) (rc b));rw [<-hr]at h16;refine yQ ?_;have hrr:r.take r.length=r:=ly;rw [<-hr]at hr1;refine⟨λhq=>?_,λhq=>?_⟩
        .have hne:¬r=b.take (1+bK b+bX b):=wM;rw [if_neg hne]at hr1;exact y5
        .have hne:r=b.take (1+bK b+bX b):=wM;rw [if_pos hne]at hr1;exact y5
  .refine eV (by first|(refine HW.2 ?_;show(b.getD 0 0).toNat<128;omega)) ?_;refine zV ?_;refine du XS ?_;refine zV ?_;have hnk:(0:Int)=(bK b:Int):=by unfold bK;rw [if_neg hk];first|rfl|fail
   have hnc:au (((b.getD 0 0%16).toNat:Int)-7)=(bX b:Int):=by unfold bX;rw [if_pos hc];first|(rw [I,H6 _ ag ag])
   have bk:bK b<=8:=by unfold bK;split<;>omega
   have U:bX b<=8:=by unfold bX;split<;>omega
   have hx:au (au (1+(0:Int))+au (((b.getD 0 0%16).toNat:Int)-7))=((1+bK b+bX b:Nat):Int):=by have h:=rZ (bK b) (bX b) ag ag;rw [<-hnk,<-hnc]at h;exact h
   refine⟨λh1=>?_,λh1=>?_⟩
   .have F:b.length<1+bK b+bX b:=by have h2:decide ((b.length:Int)<au (au (1+(0:Int))+au (((b.getD 0 0%16).toNat:Int)-7)))=ab:=h1;rw [hx]at h2;simp at h2;omega
    rw [if_pos F]at hr1;exact y5
   .have F:¬b.length<1+bK b+bX b:=by have h2:decide ((b.length:Int)<au (au (1+(0:Int))+au (((b.getD 0 0%16).toNat:Int)-7)))=af:=h1;rw [hx]at h2;simp at h2;omega
    rw [if_neg F]at hr1;refine zV ?_;have hpk:((0:Int)>0)↔0<bK b:=by rw [hnk];omega
    have hpc:(au (((b.getD 0 0%16).toNat:Int)-7)>0)↔0<bX b:=by rw [hnc];omega
    have gk:bK b=0:=by unfold bK;rw [if_neg hk];all_goals omega
    have gc:0<bX b:=by unfold bX;rw [if_pos hc];all_goals omega
    first|skip
    refine W0 ?_;have i1:(b.getD 0 0/16).toUInt64=e1 b 0:=IX;have i2:0=e2 b 0:=IY;refine bT (bK b) (λj=> [(0,.sl 0 0 b.length 1 af),(2,.p 1 0),(4,.i (bK b:Int)),(5,.i (bX b:Int)),(6,.p 2 0),(7,.i (j.1:Int))]) (λj=> [ak b,al [.u64 0,.u64 0],al [.u64 (e1 b j.1),.u64 (e2 b 0)]]) 3 ?_ ?_
    .exact xA
    .rintro⟨j,hj⟩;refine nH ?_;refine⟨λhjc=>?_,λhjc=>?_⟩
     .have u:j<bK b:=uc;have G:=HZ j ag;have hw2:=wy j ag;have hs:=FA b j ag u;exact z0
     .have u:j=bK b:=ud;subst u;conv=>whnf
      refine bT (bX b) (λj=> [(0,.sl 0 0 b.length 1 af),(2,.p 1 0),(4,.i (bK b:Int)),(5,.i (bX b:Int)),(6,.p 2 0),(8,.i (j.1:Int))]) (λj=> [ak b,al [.u64 0,.u64 0],al [.u64 (rk b),.u64 (e2 b j.1)]]) 3 ?_ ?_
      .exact xA
      .rintro⟨j,hj⟩;refine nH ?_;refine⟨λhjc=>?_,λhjc=>?_⟩
       .have u:j<bX b:=uc;have G:=rZ (bK b) j ag ag;have hw2:=wy j ag;have hs:=FB b j ag u;exact zX
       .have u:j=bX b:=ud;subst u;refine zL ?_;obtain⟨fl,h16⟩:=Dc (rk b) (rc b);have hw3:=rZ (bK b) (bX b) ag ag;obtain⟨r,hr⟩:=ax (gV (rk b) (rc b));rw [<-hr]at h16;refine yQ ?_;have hrr:r.take r.length=r:=ly;rw [<-hr]at hr1;refine⟨λhq=>?_,λhq=>?_⟩
        .have hne:¬r=b.take (1+bK b+bX b):=wM;rw [if_neg hne]at hr1;exact y5
        .have hne:r=b.take (1+bK b+bX b):=wM;rw [if_pos hne]at hr1;exact y5
  .refine eV (by first|(refine HW.2 ?_;show(b.getD 0 0).toNat<128;omega)) ?_;refine zV ?_;refine eV (by first|(refine HW.2 ?_;show(b.getD 0 0%16).toNat<8;omega)) ?_;conv=>whnf
   have hnk:(0:Int)=(bK b:Int):=by unfold bK;rw [if_neg hk];first|rfl|fail
   have hnc:(0:Int)=(bX b:Int):=by unfold bX;rw [if_neg hc];first|rfl|fail
   have bk:bK b<=8:=by unfold bK;split<;>omega
   have U:bX b<=8:=by unfold bX;split<;>omega
   have hx:au (au (1+(0:Int))+(0:Int))=((1+bK b+bX b:Nat):Int):=by have h:=rZ (bK b) (bX b) ag ag;rw [<-hnk,<-hnc]at h;exact h
   refine⟨λh1=>?_,λh1=>?_⟩
   .have F:b.length<1+bK b+bX b:=by have h2:decide ((b.length:Int)<au (au (1+(0:Int))+(0:Int)))=ab:=h1;rw [hx]at h2;simp at h2;omega
    rw [if_pos F]at hr1;exact y5
   .have F:¬b.length<1+bK b+bX b:=by have h2:decide ((b.length:Int)<au (au (1+(0:Int))+(0:Int)))=af:=h1;rw [hx]at h2;simp at h2;omega
    rw [if_neg F]at hr1;refine zV ?_;have hpk:((0:Int)>0)↔0<bK b:=by rw [hnk];omega
    have hpc:((0:Int)>0)↔0<bX b:=by rw [hnc];omega
    have gk:bK b=0:=by unfold bK;rw [if_neg hk];all_goals omega
    have gc:bX b=0:=by unfold bX;rw [if_neg hc];all_goals omega
    first|skip
    first|skip
    have i1:(b.getD 0 0/16).toUInt64=e1 b 0:=IX;have i2:(b.getD 0 0%16).toUInt64=e2 b 0:=IY;refine bT (bK b) (λj=> [(0,.sl 0 0 b.length 1 af),(2,.p 1 0),(4,.i (bK b:Int)),(5,.i (bX b:Int)),(6,.p 2 0),(7,.i (j.1:Int))]) (λj=> [ak b,al [.u64 0,.u64 0],al [.u64 (e1 b j.1),.u64 (e2 b 0)]]) 3 ?_ ?_
    .exact xA
    .rintro⟨j,hj⟩;refine nH ?_;refine⟨λhjc=>?_,λhjc=>?_⟩
     .have u:j<bK b:=uc;have G:=HZ j ag;have hw2:=wy j ag;have hs:=FA b j ag u;exact z0
     .have u:j=bK b:=ud;subst u;conv=>whnf
      refine bT (bX b) (λj=> [(0,.sl 0 0 b.length 1 af),(2,.p 1 0),(4,.i (bK b:Int)),(5,.i (bX b:Int)),(6,.p 2 0),(8,.i (j.1:Int))]) (λj=> [ak b,al [.u64 0,.u64 0],al [.u64 (rk b),.u64 (e2 b j.1)]]) 3 ?_ ?_
      .exact xA
      .rintro⟨j,hj⟩;refine nH ?_;refine⟨λhjc=>?_,λhjc=>?_⟩
       .have u:j<bX b:=uc;have G:=rZ (bK b) j ag ag;have hw2:=wy j ag;have hs:=FB b j ag u;exact zX
       .have u:j=bX b:=ud;subst u;refine zL ?_;obtain⟨fl,h16⟩:=Dc (rk b) (rc b);have hw3:=rZ (bK b) (bX b) ag ag;obtain⟨r,hr⟩:=ax (gV (rk b) (rc b));rw [<-hr]at h16;refine yQ ?_;have hrr:r.take r.length=r:=ly;rw [<-hr]at hr1;refine⟨λhq=>?_,λhq=>?_⟩
        .have hne:¬r=b.take (1+bK b+bX b):=wM;rw [if_neg hne]at hr1;exact y5
        .have hne:r=b.take (1+bK b+bX b):=wM;rw [if_pos hne]at hr1;exact y5
theorem Kv(n:UInt64):hD n=qz n:=by
 unfold hD qz;split
 .rfl
 .rename_i h;rw [Kx];unfold lJ;rw [if_neg];intro e;subst e;exact h aw
theorem Qv{n:UInt64}(h:¬n<8):hD n=mD n.toNat:=by unfold hD;rw [if_neg h,Kx]
theorem afj:∀x y:Fin 16,oe (oe 0 4|||cX x.1) 4|||cX y.1=cX (16*x.1+y.1):=by decide
theorem adD:∀x:Fin 8,(8:UInt8)|||cX x.1=cX (8+x.1):=by decide
def nb(n:UInt64):Nat:=if n<8 then n.toNat else 7+(hD n).length
theorem BI(n:UInt64):(hD n).length<=8:=by
 unfold hD;split
 .simp
 .exact rD n 8
theorem Gc{n:UInt64}(h:¬n<8):0<(hD n).length:=by unfold hD;rw [if_neg h];exact BK h
theorem BY(n:UInt64):nb n<16:=by
 unfold nb;have:=BI n;split
 .rename_i h;have:=n8 h;omega
 .omega
theorem Qx(n:UInt64):hX n=cX (nb n):=by
 unfold hX nb;split
 .rename_i h;have h2:=n8 h;apply my.1;have e:(n&&&7).toNat=n.toNat:=by
   rw [wW];show n.toNat&&&7=_
   rw [Nat.and_two_pow_sub_one_eq_mod n.toNat 3];omega
  rw [oB,e];simp
 .rename_i h;have h1:=rD n 8;have h2:=BK h;have hl:(hD n).length=(gz n 8).length:=by unfold hD;rw [if_neg h]
  rw [hl];have e:dg (au (((gz n 8).length:Int)-1))=cX ((gz n 8).length-1):=by rw [AQ ag ag];apply my.1;have:=Nb (((gz n 8).length:Int)-1);simp only [nN];omega
  rw [e];have:=adD ⟨(gz n 8).length-1,ag⟩;simp only at this;rw [this];congr 1;omega
theorem SI(n:UInt64):lL n=(nb n:Int):=by
 unfold lL nb;split
 .rfl
 .rename_i h;have hl:hD n=lJ n:=by rw [Kv];unfold qz;rw [if_neg h]
  rw [hl];omega
theorem acu(k c:UInt64):bF k c=cX (16*nb k+nb c)::(hD k++hD c):=by unfold bF;rw [Qx,Qx];have:=afj ⟨nb k,BY k⟩ ⟨nb c,BY c⟩;simp only at this;rw [this]
theorem DM(k c:UInt64):gV k c=cX (16*nb k+nb c)::(hD k++hD c):=by unfold gV;rw [SI,SI,Kv,Kv];congr 1;apply my.1;have:=Nb (16*(nb k:Int)+(nb c:Int));simp only [nN];omega
theorem Kw(k c:UInt64):bF k c=gV k c:=by rw [acu,DM]
theorem Me{α:Type}{p:List α->Prop}(h0:p [])(h1:∀l a,p l->p (l++ [a]))(l:List α):p l:=by
 rw [<-l.reverse_reverse]
 induction l.reverse with
 |nil=>exact h0
 |cons a r ih=>rw [List.reverse_cons];exact h1 _ _ ih
def oU(l:List UInt8):Nat:=l.foldl (λa c=>256*a+c.toNat) 0
theorem HY(l:List UInt8)(c:UInt8):oU (l++ [c])=256*oU l+c.toNat:=by simp [oU]
theorem ake(l:List UInt8):oU l<256^l.length:=by
 induction l using Me with
 |h0=>simp [oU]
 |h1 l c ih=>
  rw [HY];have:=eQ c;simp only [aW,List.length_singleton,Nat.pow_succ];omega
theorem Ze(l:List UInt8)(h:(mD (oU l)).length=l.length):mD (oU l)=l:=by
 induction l using Me with
 |h0=>simp [oU,uG]
 |h1 l c ih=>
  rw [HY]at h|-;have hc:=eQ c;by_cases h0:256*oU l+c.toNat=0
  .rw [h0,uG]at h;simp at h
  .rw [Ab h0]at h|-;have e1:(256*oU l+c.toNat)/256=oU l:=ag;have e2:cX (256*oU l+c.toNat)=c:=by apply my.1;simp only [nN];omega
   rw [e1,e2]at h|-;simp only [aW,List.length_singleton]at h;rw [ih ag]
theorem Ox(l:List UInt8)(h:l.length<=8):(iY l).toNat=oU l:=by
 induction l using Me with
 |h0=>rfl
 |h1 l c ih=>
  simp only [aW,List.length_singleton]at h;have e:iY (l++ [c])=256*iY l+c.toUInt64:=by simp [iY]
  have ih:=ih ag;have hv:=ake l;have hc:=eQ c;have hp:256^l.length<=256^7:=uo ag ag;rw [e,HY,lY,uu,ih];have e2:c.toUInt64.toNat=c.toNat:=aq;rw [e2];show((256*oU l)%18446744073709551616+c.toNat)%18446744073709551616=_
  omega
theorem Yk(l:List UInt8):pU l=iY l:=by
 have:∀(a:UInt64) (c:UInt8),Fg a c=256*a+c.toUInt64:=by
  intro a c;unfold Fg dr;rw [if_pos ag];apply dJ.1;have hc:=eQ c;have u:=l6 a;rw [Bg,uv,lY,uu];have e2:c.toUInt64.toNat=c.toNat:=aq;rw [e2];have e3:(aF 8).toNat%64=8:=aw;rw [e3,nk];show a.toNat*2^8%18446744073709551616|||c.toNat=((256*a.toNat)%18446744073709551616+c.toNat)%18446744073709551616
  have r:a.toNat*2^8%18446744073709551616=(a.toNat%72057594037927936)<<<8:=by rw [nk];omega
  rw [r,<-Nat.shiftLeft_add_eq_or_of_lt ag,nk];omega
 unfold pU iY;congr 1
 funext a c;exact this a c
theorem Vr(b:List UInt8)(cz:UInt8)(a v:Nat)(hv:cz.toNat=v):gW b cz a=if v<8 then aa (cz.toUInt64,a)else if b.length<a+(v-7)then ah else if(hD (iY ((b.drop a).take (v-7)))).length=v-7 then aa (iY ((b.drop a).take (v-7)),a+(v-7))else ah:=by
 unfold gW;have e:cz<8↔v<8:=by rw [UInt8.lt_iff_toNat_lt,hv];rfl
 by_cases h:v<8
 .rw [if_pos (e.2 h),if_pos h]
 .rw [if_neg (λx=>h (e.1 x)),if_neg h];have e2:(cz-8).toNat+1=v-7:=by have:(cz-8).toNat=(2^8-8+cz.toNat)%2^8:=UInt8.toNat_sub _ _;have:=eQ cz;omega
  rw [sn,e2];simp only [Yk]
theorem acq{l:List UInt8}(hl:l.length<=8)(h:(hD (iY l)).length=l.length)(h0:0<l.length):hD (iY l)=l/\¬iY l<8:=by
 have hn:¬iY l<8:=by
  intro hlt;have:hD (iY l)= []:=by unfold hD;rw [if_pos hlt]
  rw [this]at h;simp at h;omega
 refine⟨?_,hn⟩;rw [Qv hn,Ox l hl]at h|-;exact Ze l h
theorem Rm(K:UInt64)(v m:Nat)(hm:m=if 8<=v then v-7 else 0)(h:nb K=v):0<m->(hD K).length=m:=by
 intro h0;have r:8<=v:=by
  by_cases h:8<=v
  .exact h
  .rw [if_neg h]at hm;omega
 rw [if_pos r]at hm;unfold nb at h;split at h
 .rename_i hk;have:=n8 hk;omega
 .omega
theorem RC(K:UInt64)(v m:Nat)(hv:v<16)(l:List UInt8)(hl:l.length=m)(hm:m=if 8<=v then v-7 else 0)(r:K=if 0<m then iY l else aF v)(h:0<m->(hD K).length=m):hD K=l/\nb K=v:=by
 by_cases G:8<=v
 .rw [if_pos G]at hm;rw [if_pos ag]at r;subst r;have hd:=h ag;obtain⟨e1,e2⟩:=acq (l:=l) ag ag ag;refine⟨e1,?_⟩;unfold nb;rw [if_neg e2];omega
 .rw [if_neg G]at hm;subst hm;rw [if_neg ag]at r;have u:l= []:=ug hl;subst u;subst r;have e:(aF v).toNat=v:=by simp only [j5];omega
  have F:aF v<8:=by rw [gh,e];show v<8;omega
  refine⟨?_,?_⟩
  .unfold hD;rw [if_pos F]
  .unfold nb;rw [if_pos F,e]
theorem ag0(x m n:Nat)(c:UInt8)(t:List UInt8)(K C:UInt64)(hc:c.toNat=x)(hx:x<256)(ht:m+n<=t.length)(hm:m=if 8<=x/16 then x/16-7 else 0)(hn:n=if 8<=x%16 then x%16-7 else 0)(F:K=if 0<m then iY (t.take m)else aF (x/16))(u:C=if 0<n then iY ((t.drop m).take n)else aF (x%16)):gV K C=c::t.take (m+n)↔((0<m->(hD K).length=m)/\(0<n->(hD C).length=n)):=by
 rw [DM];constructor
 .intro h;have h1:=congrArg UInt8.toNat (List.cons.inj h).1;simp only [nN]at h1;have G:=BY K;have I:=BY C;have e1:nb K=x/16:=ag;have e2:nb C=x%16:=ag;exact⟨Rm K _ m hm e1,Rm C _ n hn e2⟩
 .rintro⟨h1,h2⟩;obtain⟨d1,e1⟩:=RC K (x/16) m ag (t.take m) aA hm F h1;obtain⟨r,e2⟩:=RC C (x%16) n ag ((t.drop m).take n) aA hn u h2;rw [d1,r,e1,e2,List.take_add];congr 1;apply my.1;simp only [nN];omega
theorem ajI(b:List UInt8)(hb:b≠ [])(x:Nat)(hx:(b.getD 0 0).toNat=x):fg b=u7 b:=by
 obtain⟨c,t,rfl⟩:=List.exists_cons_of_ne_nil hb;have hc:c.toNat=x:=hx;have r:x<256:=by rw [<-hc];exact eQ c
 have h9:c=cX x:=by apply my.1;rw [hc];simp only [nN];omega
 have n0:(cz (c::t) 0).toNat=x/16:=by
  unfold cz wk;rw [if_pos rfl,if_pos ag];show(c>>>cX 4).toNat=_
  rw [UInt8.toNat_shiftRight,hc];have:(cX 4).toNat%8=4:=aw;rw [this,np]
 have n1:(cz (c::t) 1).toNat=x%16:=by
  unfold cz;rw [if_neg ag];show(c&&&15).toNat=_
  rw [UInt8.toNat_and,hc];exact Nat.and_two_pow_sub_one_eq_mod x 4
 have hm:bK (c::t)=if 128<=x then x/16-7 else 0:=by unfold bK;rw [hx]
 have hn:bX (c::t)=if 8<=x%16 then x%16-7 else 0:=by unfold bX;rw [hx]
 have hk:rk (c::t)=if 0<bK (c::t)then iY (t.take (bK (c::t)))else(c/16).toUInt64:=rfl
 have hq:rc (c::t)=if 0<bX (c::t)then iY ((t.drop (bK (c::t))).take (bX (c::t)))else(c%16).toUInt64:=by unfold rc;rw [vC 1,List.drop_succ_cons];rfl
 obtain⟨K,O⟩:∃K,K=rk (c::t):=⟨_,rfl⟩;obtain⟨C,I⟩:∃C,C=rc (c::t):=⟨_,rfl⟩;obtain⟨m,U⟩:∃m,m=bK (c::t):=⟨_,rfl⟩;obtain⟨n,V⟩:∃n,n=bX (c::t):=⟨_,rfl⟩;rw [<-U]at hm hk hq;rw [<-V]at hn hq;rw [<-O]at hk;rw [<-I]at hq;have hm2:m=if 8<=x/16 then x/16-7 else 0:=by rw [hm];split<;>split<;>omega
 have W:(c/16).toUInt64=aF (x/16):=by
  apply dJ.1;simp only [qU,j5,UInt8.toNat_div,hc];show x/16=x/16%18446744073709551616
  omega
 have F:(c%16).toUInt64=aF (x%16):=by
  apply dJ.1;simp only [qU,j5,UInt8.toNat_mod,hc];show x%16=x%16%18446744073709551616
  omega
 have h6:(cz (c::t) 0).toUInt64=aF (x/16):=by apply dJ.1;simp only [qU,j5,n0];omega
 have h7:(cz (c::t) 1).toUInt64=aF (x%16):=by apply dJ.1;simp only [qU,j5,n1];omega
 rw [W]at hk;rw [F]at hq;have s1:gW (c::t) (cz (c::t) 0) 1=if t.length<m then ah else if 0<m->(hD K).length=m then aa (K,1+m)else ah:=by
  rw [Vr _ _ 1 (x/16) n0,h6];by_cases G:8<=x/16
  .rw [if_pos G]at hm2;rw [if_neg ag,<-hm2];rw [if_pos ag]at hk;have e:(aG 1 (c::t)).take m=t.take m:=rfl;rw [e,<-hk];simp only [jM];by_cases hl:t.length<m
   .rw [if_pos ag,if_pos hl]
   .rw [if_neg ag,if_neg hl];by_cases hd:(hD K).length=m
    .rw [if_pos hd,if_pos (λ_=>hd)]
    .rw [if_neg hd,if_neg (λh=>hd (h ag))]
  .rw [if_neg G]at hm2;subst hm2;rw [if_pos ag,if_neg ag,if_pos ag];rw [if_neg ag]at hk;rw [hk]
 have s2:¬t.length<m->gW (c::t) (cz (c::t) 1) (1+m)=if t.length<m+n then ah else if 0<n->(hD C).length=n then aa (C,1+m+n)else ah:=by
  intro ha;rw [Vr _ _ (1+m) (x%16) n1,h7];by_cases G:8<=x%16
  .rw [if_pos G]at hn;rw [if_neg ag,<-hn];rw [if_pos ag]at hq;have e:(aG (1+m) (c::t)).take n=(t.drop m).take n:=by rw [vC 1,List.drop_succ_cons]
   rw [e,<-hq];simp only [jM];by_cases hl:t.length<m+n
   .rw [if_pos ag,if_pos hl]
   .rw [if_neg ag,if_neg hl];by_cases hd:(hD C).length=n
    .rw [if_pos hd,if_pos (λ_=>hd)]
    .rw [if_neg hd,if_neg (λh=>hd (h ag))]
  .rw [if_neg G]at hn;subst hn;rw [if_pos ag,if_neg ag,if_pos ag];rw [if_neg ag]at hq;rw [hq];rfl
 have hr:u7 (c::t)=if t.length<m+n then ah else if gV K C=c::t.take (m+n)then aa (1+m+n,K,C)else ah:=by
  unfold u7;rw [if_neg hb,<-U,<-V,<-O,<-I];have e:aB (1+m+n) (c::t)=c::t.take (m+n):=by rw [show 1+m+n=(m+n)+1 from by omega,List.take_succ_cons]
  rw [e];simp only [jM];by_cases hl:t.length<m+n
  .rw [if_pos ag,if_pos hl]
  .rw [if_neg ag,if_neg hl]
 have ht:fg (c::t)=match gW (c::t) (cz (c::t) 0) 1 with
   |none=>ah
   |some (v,a2)=>match gW (c::t) (cz (c::t) 1) a2 with
    |none=>ah
    |some (u,a3)=>aa (a3,v,u):=by
  unfold fg;rw [if_neg hb];simp only [qI];cases gW (c::t) (cz (c::t) 0) 1 with
  |none=>rfl
  |some p=>obtain⟨v,a2⟩:=p;simp only;cases gW (c::t) (cz (c::t) 1) a2<;>simp
 rw [ht,hr,s1];by_cases Z:t.length<m
 .rw [if_pos Z,if_pos ag]
 .rw [if_neg Z];have s2:=s2 Z;by_cases l2:t.length<m+n
  .rw [if_pos l2]at s2|-;split
   .rfl
   .rename_i h;split at h
    .cases h;rw [s2]
    .cases h
  .rw [if_neg l2]at s2|-;have hp:=ag0 x m n c t K C hc r ag hm2 hn hk hq;by_cases a1:0<m->(hD K).length=m
   .rw [if_pos a1];simp only [s2];by_cases a2:0<n->(hD C).length=n
    .rw [if_pos a2,if_pos (hp.2 ⟨a1,a2⟩)]
    .rw [if_neg a2,if_neg (λh=>a2 (hp.1 h).2)]
   .rw [if_neg a1,if_neg (λh=>a1 (hp.1 h).1)]
theorem Qw(b:List UInt8):fg b=u7 b:=by
 by_cases h:b= []
 .subst h;rfl
 .exact ajI b h _ rfl
theorem akd:∀n,oU (mD n)=n:=by
 intro n
 induction n using Nat.strongRecOn with
 |_ n ih=>
  by_cases h:n=0
  .subst h;rw [uG];rfl
  .rw [Ab h,HY,ih (n/256) ag];simp only [nN];omega
theorem Ov(h:¬k<8):iY (hD k)=k:=by apply dJ.1;rw [Ox _ (BI k),Qv h,akd]
theorem Gb(h:k<8):hD k= []:=by unfold hD;rw [if_pos h]
theorem ag9(k c:UInt64)(l:List UInt8):u7 (gV k c++l)=aa ((gV k c).length,k,c):=by
 have hk:=BY k;have hc:=BY c;have lk:=BI k;have lc:=BI c;rw [DM];obtain⟨b,hb⟩:=ax ((cX (16*nb k+nb c)::(hD k++hD c))++l);have hx:(b.getD 0 0).toNat=16*nb k+nb c:=by
  subst hb;show(cX _).toNat=_
  simp only [nN];omega
 have d1:b.drop 1=hD k++(hD c++l):=by subst hb;simp
 have e1:bK b=(hD k).length:=by
  unfold bK;rw [hx];by_cases h:k<8
  .have:=n8 h;have h2:nb k=k.toNat:=by unfold nb;rw [if_pos h]
   rw [Gb h,if_neg ag];rfl
  .have h2:nb k=7+(hD k).length:=by unfold nb;rw [if_neg h]
   have:=Gc h;rw [if_pos ag];omega
 have e2:bX b=(hD c).length:=by
  unfold bX;rw [hx];by_cases h:c<8
  .have:=n8 h;have h2:nb c=c.toNat:=by unfold nb;rw [if_pos h]
   rw [Gb h,if_neg ag];rfl
  .have h2:nb c=7+(hD c).length:=by unfold nb;rw [if_neg h]
   have:=Gc h;rw [if_pos ag];omega
 have e3:rk b=k:=by
  unfold rk;rw [e1,d1,vz]
  .by_cases h:k<8
   .rw [Gb h,if_neg aq];have:=n8 h;have h2:nb k=k.toNat:=by unfold nb;rw [if_pos h]
    apply dJ.1;rw [qU,UInt8.toNat_div,hx];show(16*nb k+nb c)/16=_
    omega
   .rw [if_pos (Gc h),Ov h]
  .rfl
 have r:b.drop (1+bK b)=hD c++l:=by rw [<-ng,d1,e1,List.drop_left'];rfl
 have u:rc b=c:=by
  unfold rc;rw [r,e2,vz]
  .by_cases h:c<8
   .rw [Gb h,if_neg aq];have:=n8 h;have h2:nb c=c.toNat:=by unfold nb;rw [if_pos h]
    apply dJ.1;rw [qU,UInt8.toNat_mod,hx];show(16*nb k+nb c)%16=_
    omega
   .rw [if_pos (Gc h),Ov h]
  .rfl
 have hl:(cX (16*nb k+nb c)::(hD k++hD c)).length=1+bK b+bX b:=by rw [e1,e2];simp;omega
 rw [<-hb];unfold u7;rw [if_neg (by subst hb;simp),if_neg (by subst hb;rw [e1,e2];simp;omega),e3,u,DM,if_pos (by rw [hb,<-hb,<-hl,hb,sZ]),hl]
theorem ahi(k c:UInt64):(gV k c).length<=17/\0<(gV k c).length:=by rw [DM];have lk:=BI k;have lc:=BI c;simp;omega
theorem sC(k c:UInt64):(bF k c).length<=17/\0<(bF k c).length:=by rw [Kw];exact ahi k c
theorem BJ(k c:UInt64)(l:List UInt8):fg (bF k c++l)=aa ((bF k c).length,k,c):=by rw [Qw,Kw];exact ag9 k c l
theorem Lx(k c:UInt64):aQ 17 [.agg [.u64 k,.u64 c]] [] (.sl 0 0 (bF k c).length 1 af) [aC 5 (bF k c)]:=by obtain⟨fl,q⟩:=Z5 k c;exact q.loose
theorem YG{X Y:List UInt8}{n m:Nat}(hx:X.length=n)(hy:Y.length=m):(X++Y).map SV.u8=aB (n*1) (aG 0 (X.map SV.u8))++aB (m*1) (aG 0 (Y.map SV.u8)):=by rw [cq,cq,fS,fS,bW aA,bW aA,dU]
theorem ahb{sel:List Nat}{i j:Nat}(h:sel[i]?=aa j)(s:UInt16)(kid:UInt64)(z:Nat)(S:List UInt8):cZ sel (.box (kC s kid i z S))=al (kC s kid j z S):=by have h2:=jc sel (cY S);simp only [cZ,bu,bG,h,h2]
theorem ahA{sel:List Nat}{i j:Nat}(h:sel[i]?=aa j)(s:UInt16)(kid:UInt64)(z:Nat)(S:List UInt8):bu sel (kC s kid i z S)=aa (kC s kid j z S):=by have h2:=jc sel (cY S);simp only [bu,bG,h,h2]
theorem aiB(s:UInt16)(F:UInt8)(l:Nat)(t:Nat)(q0:aQ 39 [.u16 s] [] (.tup [iB F 16 16 t l,.i 0]) [])(kid c:UInt64)(K S M P:List UInt8)(hk:K.length=16)(hS:S.length=12)(hM:M.length<=1024)(hP:P.length<=65536)(r u:Bool):aM 6 [.agg (kC s kid 0 16 S),.u64 c,.sl 1 0 M.length 1 r,.sl 2 0 P.length 1 u] [ak K,ak M,ak P] (.tup [.sl 3 0 ((bF kid c).length+(P.length+16)) 1 af,.i 0]) [aC 5 (bF kid c++gA (aO K 4 44) 10 (bf S c) (bF kid c++M) P)]:=by have e1:decide ((P.length:Int)>65536)=af:=ox;have hl:=sC kid c;have qh:=Lx kid c;have q16:=uM q0 kid S M K hS hM r;have q18:=BF s F 16 t l kid K S hS;obtain⟨H,hH⟩:=ax (bF kid c);rw [<-hH]at qh hl|-;have qc:=uT H M H M ag ag ag aq aq ag ag ab af r;have qs:=abA s kid c K S (H++M) P hk hS qL ag af u;have lX:=AH (aO K 4 44) 10 (bf S c) (H++M) P;obtain⟨X,hX⟩:=ax (gA (aO K 4 44) 10 (bf S c) (H++M) P);rw [<-hX]at qs lX|-;rw [aW]at qs;refine zP ?_;refine ND ?_;exact Wn
theorem aiC(s:UInt16)(F:UInt8)(l:Nat)(t:Nat)(q0:aQ 39 [.u16 s] [] (.tup [iB F 32 32 t l,.i 0]) [])(kid c:UInt64)(K S M P:List UInt8)(hk:K.length=32)(hS:S.length=12)(hM:M.length<=1024)(hP:P.length<=65536)(r u:Bool):aM 6 [.agg (kC s kid 0 32 S),.u64 c,.sl 1 0 M.length 1 r,.sl 2 0 P.length 1 u] [ak K,ak M,ak P] (.tup [.sl 3 0 ((bF kid c).length+(P.length+16)) 1 af,.i 0]) [aC 5 (bF kid c++gA (aO K 8 60) 14 (bf S c) (bF kid c++M) P)]:=by have e1:decide ((P.length:Int)>65536)=af:=ox;have hl:=sC kid c;have qh:=Lx kid c;have q16:=uM q0 kid S M K hS hM r;have q18:=BF s F 32 t l kid K S hS;obtain⟨H,hH⟩:=ax (bF kid c);rw [<-hH]at qh hl|-;have qc:=uT H M H M ag ag ag aq aq ag ag ab af r;have qs:=abB s kid c K S (H++M) P hk hS qL ag af u;have lX:=AH (aO K 8 60) 14 (bf S c) (H++M) P;obtain⟨X,hX⟩:=ax (gA (aO K 8 60) 14 (bf S c) (H++M) P);rw [<-hX]at qs lX|-;rw [aW]at qs;refine zP ?_;refine NF ?_;exact Wn
def mm(t:Nat)(K N A P:List UInt8):List UInt8:=jf K N P++sR t K N A (jf K N P)
theorem Cj(t:Nat)(K N A P:List UInt8)(ht:t<32):(mm t K N A P).length=P.length+t:=by unfold mm;rw [aW,Cs,TK _ _ _ _ _ (by omega)]
theorem L5(s:UInt16)(t:Nat)(u:0<t)(ht:t<32)(q0:aQ 39 [.u16 s] [] (.tup [iB 1 48 16 t 32,.i 0]) [])(kid c:UInt64)(K S M P:List UInt8)(hk:K.length=48)(hS:S.length=12)(hM:M.length<=1024)(hP:P.length<=65536)(r F:Bool):aM 6 [.agg (kC s kid 0 48 S),.u64 c,.sl 1 0 M.length 1 r,.sl 2 0 P.length 1 F] [ak K,ak M,ak P] (.tup [.sl 3 0 ((bF kid c).length+(P.length+t)) 1 af,.i 0]) [aC 5 (bF kid c++mm t K (bf S c) (bF kid c++M) P)]:=by have e1:decide ((P.length:Int)>65536)=af:=ox;have hl:=sC kid c;have qh:=Lx kid c;have q16:=uM q0 kid S M K hS hM r;have q18:=Kk s t kid K S hk hS;obtain⟨H,hH⟩:=ax (bF kid c);rw [<-hH]at qh hl|-;have qc:=uT H M H M ag ag ag aq aq ag ag ab af r;have qs:=abG s kid c K S (H++M) P t u ht hk hS qL ag af F;have lX:=Cj t K (bf S c) (H++M) P ht;obtain⟨X,hX⟩:=ax (mm t K (bf S c) (H++M) P);rw [show jf K (bf S c) P++sR t K (bf S c) (H++M) (jf K (bf S c) P)=X by rw [hX];rfl]at qs;rw [<-hX]at lX|-;obtain⟨w,hw⟩:=ax (aO (K.take 16) 4 44);rw [<-hw]at q18 qs;rw [aW]at qs;refine zP ?_;refine zW (dY [0] [ak K,al (kC s kid 0 48 S),al (iC 1 48 16 t 32),al [.fn 50 [.p 6 0,.p 10 0]],al [.fn 52 [.p 6 0,.p 7 0]],al [.p 11 0],al (zd 12),aC 179 w] (.agg [.fn 54 [.p 8 0,.p 9 0],.fn 55 [.p 7 0,.p 9 0,.p 8 0]]) q18) ?_;refine zc ?_;refine zW (aE [13,5,1] [af,ab,ab,ab] af qc) ?_;refine zW (aE [6,14,2,8,9,7,10,0,11,12] [af,ab,ab,af,af,ab,af,ab,af,ab,ab] af qs) ?_;refine zl ?_;exact bE [0,1,2,16]
theorem af8(s:UInt16)(K S M F:List UInt8)(u:Nat)(I:UInt8)(l t:Nat)(ht:t<=32)(q0:aQ 39 [.u16 s] [] (.tup [iB I 16 16 t l,.i 0]) [])(kid c:UInt64)(hT:fg F=aa (u,kid,c))(hu:u<=F.length)(U:0<u)(V:u<100000)(hF:F.length-u<=65536)(hk:K.length=16)(hS:S.length=12)(hM:M.length<=1024)(r:Bool)(G:jD (aO K 4 44) 10 (bf S c) (F.take u++M) (F.drop u)=ab):aM 10 [.agg (kC s kid 0 16 S),.sl 1 0 M.length 1 r,.sl 2 0 F.length 1 af] [ak K,ak M,ak F] (.tup [.sl 3 0 (gr (F.drop u)) 1 af,.u64 c,.i 0]) [aC 5 (mN (aO K 4 44) 10 (bf S c) (F.drop u))]:=by
 have e1:decide (au (((F.length:Nat):Int)-((u:Nat):Int))>au (65536+((t:Nat):Int)))=af:=ub;have e2:(kid !=kid)=af:=aq;have e3:0+((u:Nat):Int).toNat*1=u:=aq;have q16:=uM q0 kid S M K hS hM r;have q18:=BF s I 16 t l kid K S hS;have qt:=f17 F ag;rw [hT]at qt;have lt:(F.take u).length=u:=lu;have W:(F.take u++M).length=u+M.length:=CI;have Z:(F.drop u).length=F.length-u:=fQ;have qc:=λO=>uT (F.take u) M F M ag ag ag CJ aq ag ag ab O r
 rw [lt]at qc;have q47:=λf1 f2=>abE s kid c K S (F.take u++M) (F.drop u) F u hk hS ag ag ly f1 f2 G
 simp only [W,Z]at q47;obtain⟨A,hA⟩:=ax (F.take u++M);simp only [<-hA]at q47 qc;obtain⟨cn,hcn⟩:=ax (gr (F.drop u));try simp only [<-hcn]at q47
 refine zB ?_;refine ND ?_;refine ye ?_;exact bE [0,1,2,9]
theorem af7(s:UInt16)(K S M F:List UInt8)(u:Nat)(I:UInt8)(l t:Nat)(ht:t<=32)(q0:aQ 39 [.u16 s] [] (.tup [iB I 16 16 t l,.i 0]) [])(kid c:UInt64)(hT:fg F=aa (u,kid,c))(hu:u<=F.length)(U:0<u)(V:u<100000)(hF:F.length-u<=65536)(hk:K.length=16)(hS:S.length=12)(hM:M.length<=1024)(r:Bool)(G:jD (aO K 4 44) 10 (bf S c) (F.take u++M) (F.drop u)=af):aM 10 [.agg (kC s kid 0 16 S),.sl 1 0 M.length 1 r,.sl 2 0 F.length 1 af] [ak K,ak M,ak F] (.tup [.slnil,.u64 0,.i 140]) []:=by
 have e1:decide (au (((F.length:Nat):Int)-((u:Nat):Int))>au (65536+((t:Nat):Int)))=af:=ub;have e2:(kid !=kid)=af:=aq;have e3:0+((u:Nat):Int).toNat*1=u:=aq;have q16:=uM q0 kid S M K hS hM r;have q18:=BF s I 16 t l kid K S hS;have qt:=f17 F ag;rw [hT]at qt;have lt:(F.take u).length=u:=lu;have W:(F.take u++M).length=u+M.length:=CI;have Z:(F.drop u).length=F.length-u:=fQ;have qc:=λO=>uT (F.take u) M F M ag ag ag CJ aq ag ag ab O r
 rw [lt]at qc;have q47:=λf1 f2=>abC s kid c K S (F.take u++M) (F.drop u) F u hk hS ag ag ly f1 f2 G
 simp only [W,Z]at q47;obtain⟨A,hA⟩:=ax (F.take u++M);simp only [<-hA]at q47 qc;obtain⟨cn,hcn⟩:=ax (gr (F.drop u));try simp only [<-hcn]at q47
 refine zB ?_;refine ND ?_;refine ye ?_;exact kU
theorem aga(s:UInt16)(K S M F:List UInt8)(u:Nat)(I:UInt8)(l t:Nat)(ht:t<=32)(q0:aQ 39 [.u16 s] [] (.tup [iB I 32 32 t l,.i 0]) [])(kid c:UInt64)(hT:fg F=aa (u,kid,c))(hu:u<=F.length)(U:0<u)(V:u<100000)(hF:F.length-u<=65536)(hk:K.length=32)(hS:S.length=12)(hM:M.length<=1024)(r:Bool)(G:jD (aO K 8 60) 14 (bf S c) (F.take u++M) (F.drop u)=ab):aM 10 [.agg (kC s kid 0 32 S),.sl 1 0 M.length 1 r,.sl 2 0 F.length 1 af] [ak K,ak M,ak F] (.tup [.sl 3 0 (gr (F.drop u)) 1 af,.u64 c,.i 0]) [aC 5 (mN (aO K 8 60) 14 (bf S c) (F.drop u))]:=by
 have e1:decide (au (((F.length:Nat):Int)-((u:Nat):Int))>au (65536+((t:Nat):Int)))=af:=ub;have e2:(kid !=kid)=af:=aq;have e3:0+((u:Nat):Int).toNat*1=u:=aq;have q16:=uM q0 kid S M K hS hM r;have q18:=BF s I 32 t l kid K S hS;have qt:=f17 F ag;rw [hT]at qt;have lt:(F.take u).length=u:=lu;have W:(F.take u++M).length=u+M.length:=CI;have Z:(F.drop u).length=F.length-u:=fQ;have qc:=λO=>uT (F.take u) M F M ag ag ag CJ aq ag ag ab O r
 rw [lt]at qc;have q47:=λf1 f2=>abF s kid c K S (F.take u++M) (F.drop u) F u hk hS ag ag ly f1 f2 G
 simp only [W,Z]at q47;obtain⟨A,hA⟩:=ax (F.take u++M);simp only [<-hA]at q47 qc;obtain⟨cn,hcn⟩:=ax (gr (F.drop u));try simp only [<-hcn]at q47
 refine zB ?_;refine NF ?_;refine ye ?_;exact bE [0,1,2,9]
theorem af9(s:UInt16)(K S M F:List UInt8)(u:Nat)(I:UInt8)(l t:Nat)(ht:t<=32)(q0:aQ 39 [.u16 s] [] (.tup [iB I 32 32 t l,.i 0]) [])(kid c:UInt64)(hT:fg F=aa (u,kid,c))(hu:u<=F.length)(U:0<u)(V:u<100000)(hF:F.length-u<=65536)(hk:K.length=32)(hS:S.length=12)(hM:M.length<=1024)(r:Bool)(G:jD (aO K 8 60) 14 (bf S c) (F.take u++M) (F.drop u)=af):aM 10 [.agg (kC s kid 0 32 S),.sl 1 0 M.length 1 r,.sl 2 0 F.length 1 af] [ak K,ak M,ak F] (.tup [.slnil,.u64 0,.i 140]) []:=by
 have e1:decide (au (((F.length:Nat):Int)-((u:Nat):Int))>au (65536+((t:Nat):Int)))=af:=ub;have e2:(kid !=kid)=af:=aq;have e3:0+((u:Nat):Int).toNat*1=u:=aq;have q16:=uM q0 kid S M K hS hM r;have q18:=BF s I 32 t l kid K S hS;have qt:=f17 F ag;rw [hT]at qt;have lt:(F.take u).length=u:=lu;have W:(F.take u++M).length=u+M.length:=CI;have Z:(F.drop u).length=F.length-u:=fQ;have qc:=λO=>uT (F.take u) M F M ag ag ag CJ aq ag ag ab O r
 rw [lt]at qc;have q47:=λf1 f2=>abD s kid c K S (F.take u++M) (F.drop u) F u hk hS ag ag ly f1 f2 G
 simp only [W,Z]at q47;obtain⟨A,hA⟩:=ax (F.take u++M);simp only [<-hA]at q47 qc;obtain⟨cn,hcn⟩:=ax (gr (F.drop u));try simp only [<-hcn]at q47
 refine zB ?_;refine NF ?_;refine ye ?_;exact kU
theorem Lk(s:UInt16)(K S M F:List UInt8)(u:Nat)(t:Nat)(I:0<t)(ht:t<32)(U:t<=F.length-u)(q0:aQ 39 [.u16 s] [] (.tup [iB 1 48 16 t 32,.i 0]) [])(kid c:UInt64)(hT:fg F=aa (u,kid,c))(hu:u<=F.length)(V:0<u)(W:u<100000)(hF:F.length-u<=65536)(hk:K.length=48)(hS:S.length=12)(hM:M.length<=1024)(r:Bool)(G:rQ t K (bf S c) (F.take u++M) (F.drop u)=ab):aM 10 [.agg (kC s kid 0 48 S),.sl 1 0 M.length 1 r,.sl 2 0 F.length 1 af] [ak K,ak M,ak F] (.tup [.sl 3 0 (jj t (F.drop u)) 1 af,.u64 c,.i 0]) [aC 5 (jf K (bf S c) ((F.drop u).take (jj t (F.drop u))))]:=by
 have e1:decide (au (((F.length:Nat):Int)-((u:Nat):Int))>au (65536+((t:Nat):Int)))=af:=ub;have e2:(kid !=kid)=af:=aq;have e3:0+((u:Nat):Int).toNat*1=u:=aq;have q16:=uM q0 kid S M K hS hM r;have q18:=Kk s t kid K S hk hS;have qt:=f17 F ag;rw [hT]at qt;have lt:(F.take u).length=u:=lu;have Z:(F.take u++M).length=u+M.length:=CI;have lP:(F.drop u).length=F.length-u:=fQ;have qc:=λO=>uT (F.take u) M F M ag ag ag CJ aq ag ag ab O r
 rw [lt]at qc;have q47:=λf1 f2=>abI s kid c K S (F.take u++M) (F.drop u) F u ly ag t I ht hk hS ag ag ag f1 f2 G
 simp only [Z,lP]at q47;obtain⟨A,hA⟩:=ax (F.take u++M);simp only [<-hA]at q47 qc;obtain⟨cn,hcn⟩:=ax (jj t (F.drop u));try simp only [<-hcn]at q47
 refine zB ?_;refine yy ?_;refine zc ?_;refine⟨[0,1,2,15],?_,rfl,rfl,?_,rfl⟩
 .exact bU
 ·(repeat'(first|exact trivial|refine aJ ?_ ?_|fail))<;>first|rfl|exact aY bY (by first|rfl|(simp [hcn];done)|fail)|fail
theorem Lj(s:UInt16)(K S M F:List UInt8)(u:Nat)(t:Nat)(I:0<t)(ht:t<32)(U:t<=F.length-u)(q0:aQ 39 [.u16 s] [] (.tup [iB 1 48 16 t 32,.i 0]) [])(kid c:UInt64)(hT:fg F=aa (u,kid,c))(hu:u<=F.length)(V:0<u)(W:u<100000)(hF:F.length-u<=65536)(hk:K.length=48)(hS:S.length=12)(hM:M.length<=1024)(r:Bool)(G:rQ t K (bf S c) (F.take u++M) (F.drop u)=af):aM 10 [.agg (kC s kid 0 48 S),.sl 1 0 M.length 1 r,.sl 2 0 F.length 1 af] [ak K,ak M,ak F] (.tup [.slnil,.u64 0,.i 140]) []:=by
 have e1:decide (au (((F.length:Nat):Int)-((u:Nat):Int))>au (65536+((t:Nat):Int)))=af:=ub;have e2:(kid !=kid)=af:=aq;have e3:0+((u:Nat):Int).toNat*1=u:=aq;have q16:=uM q0 kid S M K hS hM r;have q18:=Kk s t kid K S hk hS;have qt:=f17 F ag;rw [hT]at qt;have lt:(F.take u).length=u:=lu;have Z:(F.take u++M).length=u+M.length:=CI;have lP:(F.drop u).length=F.length-u:=fQ;have qc:=λO=>uT (F.take u) M F M ag ag ag CJ aq ag ag ab O r
 rw [lt]at qc;have q47:=λf1 f2=>abH s kid c K S (F.take u++M) (F.drop u) F u ly ag t I ht hk hS ag ag ag f1 f2 G
 simp only [Z,lP]at q47;obtain⟨A,hA⟩:=ax (F.take u++M);simp only [<-hA]at q47 qc;obtain⟨cn,hcn⟩:=ax (jj t (F.drop u));try simp only [<-hcn]at q47
 refine zB ?_;refine yy ?_;refine zc ?_;exact kU
theorem agQ{a b A B:List UInt8}(hA:(A.drop 0).take a.length=a)(hB:(B.drop 0).take b.length=b):aB (a.length*1) (aG 0 (aB (a.length*1) (aG 0 (A.map SV.u8))))++aB (b.length*1) (aG 0 (B.map SV.u8))=(a++b).map .u8:=by
 have h1:aB (a.length*1) (aG 0 (A.map SV.u8))=a.map .u8:=by rw [fS,<-o0,<-iU,hA]
 have h2:aB (b.length*1) (aG 0 (B.map SV.u8))=b.map .u8:=by rw [fS,<-o0,<-iU,hB]
 rw [h1,h2,cq,fS,bW aq,dU]
theorem rW{X:List SV}{k:Nat}(h:X.length<=k):aB (k*1) (aG 0 X)=X:=by rw [cq,fS,bW h]
theorem agR{r nb u n a b:List UInt8}(F:r.length=8)(G:nb.length=8)(I:u.length=8)(hn:n.length=12):aB ((8+8+8+12+a.length)*1) (aG 0 (aB ((8+8+8+12)*1) (aG 0 (aB ((8+8+8)*1) (aG 0 (aB ((8+8)*1) (aG 0 (aB (8*1) (aG 0 (aB (8*1) (aG 0 (r.map SV.u8))))++aB (8*1) (aG 0 (nb.map SV.u8))))++aB (8*1) (aG 0 (u.map SV.u8))))++aB (12*1) (aG 0 (n.map SV.u8))))++aB (a.length*1) (aG 0 (a.map SV.u8))))++aB (b.length*1) (aG 0 (b.map SV.u8))=(r++nb++u++n++a++b).map .u8:=by rw [rW (X:=r.map SV.u8) aA,rW (X:=nb.map SV.u8) aA,rW (X:=u.map SV.u8) aA,rW (X:=n.map SV.u8) aA,rW (X:=a.map SV.u8) aq,rW (X:=b.map SV.u8) aq,rW (X:=r.map SV.u8) aA,rW (k:=8+8) aA,rW (k:=8+8+8) aA,rW (k:=8+8+8+12) aA,rW aA];simp only [dU]
theorem BS(a b A B:List UInt8)(G:a.length<10000000)(hb:b.length<10000000)(hA:(A.drop 0).take a.length=a)(hB:(B.drop 0).take b.length=b)(u:0+a.length<=A.length)(F:0+b.length<=B.length)(f r fb:Bool):aM 22 [.sl 0 0 2 1 f] [an [.sl 1 0 a.length 1 r,.sl 2 0 b.length 1 fb],ak A,ak B] (.sl 3 0 (a.length+b.length) 1 af) [aC 5 (a++b)]:=by
 refine aL (fn:=Tryz.f22) ?_;refine zp ?_;refine xe ?_;refine zl ?_;refine⟨[0,1,2,4],?_,rfl,rfl,?_,rfl⟩
 .exact zo
 ·(repeat'(first|exact trivial|exact aY (cY _) (agQ hA hB).symm|refine aJ ?_ ?_|(refine dM ?_ ?_)))<;>first|rfl|exact aY bY az|fail
theorem ae6(a b G nb I n:List UInt8)(r:G.length=8)(u:nb.length=8)(F:I.length=8)(hn:n.length=12)(W:a.length<10000000)(hb:b.length<10000000)(f O f1 f2 U V fb:Bool):aM 22 [.sl 0 0 6 1 f] [an [.sl 1 0 8 1 O,.sl 2 0 8 1 f1,.sl 3 0 8 1 f2,.sl 4 0 12 1 U,.sl 5 0 a.length 1 V,.sl 6 0 b.length 1 fb],ak G,ak nb,ak I,ak n,ak a,ak b] (.sl 7 0 (36+a.length+b.length) 1 af) [aC 5 (G++nb++I++n++a++b)]:=by
 refine aL (fn:=Tryz.f22) ?_;refine zp ?_;refine zW (pC dw fq bD 7) ?_;refine zl ?_;refine⟨[0,1,2,3,4,5,6,12],?_,rfl,rfl,?_,rfl⟩
 .exact zo
 ·(repeat'(first|exact trivial|exact aY (cY _) (agR r u F hn).symm|refine aJ ?_ ?_|(refine dM ?_ ?_)))<;>first|rfl|exact aY bY az|fail
theorem vL{n m:Nat}(j:Nat)(h:m=n/2^j):dg (((m:Nat):Int).tmod 256)=dg ((n:Int).fdiv (2^j)):=by
 have h1:(n:Int).fdiv (2^j)=((n/2^j:Nat):Int):=by
  rw [Int.fdiv_eq_ediv_of_nonneg _ (by exact_mod_cast kD _)]
  norm_cast
 rw [h1,<-h];unfold dg;rw [sk ag];congr 2;omega
theorem HK{n:Nat}(hn:n<1000000000):au ((n:Int).tdiv 256)=((n/256:Nat):Int):=by rw [Int.tdiv_eq_ediv_of_nonneg ag,eI];omega
theorem KY(n:Nat)(hn:n<1000000000):aQ 92 [.i (n:Int)] [] (.sl 0 0 8 1 ab) [aC 5 (iy n)]:=by
 obtain⟨a,O⟩:=ax (n/256);obtain⟨b,hb⟩:=ax (a/256);obtain⟨c,hc⟩:=ax (b/256);obtain⟨d,hd⟩:=ax (c/256);have hd0:d=0:=ag;have F:=HK hn;have eb:=HK (n:=a) ag;have G:=HK (n:=b) ag;have I:=HK (n:=c) ag;have r:au (((0:Nat):Int).tdiv 256)=((0:Nat):Int):=rfl;rw [<-O]at F;rw [<-hb]at eb;rw [<-hc]at G;rw [<-hd,hd0]at I;refine aL (fn:=Tryz.f92) ?_;refine zp ?_;refine vu ?_;refine zW (pC dw fq bD 9) ?_;refine zl ?_;rw [F,eb,G,I,r,r,r,vL (n:=n) 0 ag,vL (n:=n) (m:=a) 8 ag,vL (n:=n) (m:=b) 16 ag,vL (n:=n) (m:=c) 24 ag];have u:iy n= [dg (((0:Nat):Int).tmod 256),dg (((0:Nat):Int).tmod 256),dg (((0:Nat):Int).tmod 256),dg (((0:Nat):Int).tmod 256),dg ((n:Int).fdiv (2^24)),dg ((n:Int).fdiv (2^16)),dg ((n:Int).fdiv (2^8)),dg ((n:Int).fdiv (2^0))]:=by have h1:=vL (n:=n) (m:=0) 32 ag;have h2:=vL (n:=n) (m:=0) 40 ag;have h3:=vL (n:=n) (m:=0) 48 ag;have h4:=vL (n:=n) (m:=0) 56 ag;exact congr (congrArg List.cons h4.symm) (congr (congrArg List.cons h3.symm) (congr (congrArg List.cons h2.symm) (congr (congrArg List.cons h1.symm) rfl)))
 rw [u];exact gH
def bO(x:UInt32):UInt64:=x.toUInt64
def bS(x:UInt64):UInt64:=x
def pX(x:UInt64):UInt64:=x%4294967296
def tv(x:UInt64):UInt64:=x
theorem Jw(x:UInt64):pX x=bO x.toUInt32:=by apply dJ.1;unfold pX bO;rw [nM,UInt32.toNat_toUInt64,UInt64.toNat_toUInt32];rfl
theorem mc(x:UInt32):(bO x).toNat=x.toNat:=by unfold bO;rw [UInt32.toNat_toUInt64]
theorem GL{a b k:Nat}(h:a<2^k):b*2^k+a=(b*2^k)|||a:=by rw [<-nk];exact Nat.shiftLeft_add_eq_or_of_lt h b
theorem AA{n:Nat}(h:n<64):(aF (2^n)).toNat=2^n:=by rw [j5,gq];exact Nat.pow_lt_pow_right aw h
theorem ajV(x:UInt32)(n:Nat)(h1:1<=n)(h2:n<=31):bO x/aF (2^n)+pX (bO x*aF (2^(32-n)))=bO (oo x n):=by
 apply dJ.1;have hx:=UInt32.toNat_lt x;have hp:2^n*2^(32-n)=4294967296:=by rw [<-Nat.pow_add,show n+(32-n)=32 by omega]
 have r:0<2^n:=Nat.two_pow_pos n;have G:0<2^(32-n):=Nat.two_pow_pos _;have e1:(bO x/aF (2^n)).toNat=x.toNat/2^n:=by rw [nL,mc,AA (by omega)]
 have hm:x.toNat*2^(32-n)<18446744073709551616:=by
  have:2^(32-n)<=2^32:=uo aw ag
  calc x.toNat*2^(32-n)<4294967296*2^(32-n):=Nat.mul_lt_mul_of_pos_right hx G
   _<=4294967296*2^32:=Nat.mul_le_mul_left _ this
   _=18446744073709551616:=aw
 have e2:(pX (bO x*aF (2^(32-n)))).toNat=x.toNat*2^(32-n)%4294967296:=by unfold pX;have hr:x.toNat*2^(32-n)%2^64=x.toNat*2^(32-n):=gq hm;rw [nM,uu,mc,AA ag,hr];rfl
 have e3:(kf x n).toNat=x.toNat/2^n:=by unfold kf;rw [if_pos ag,UInt32.toNat_shiftRight,Bd,show n%2^32%32=n by omega,np]
 have U:(mU x (32-n)).toNat=x.toNat*2^(32-n)%4294967296:=by unfold mU;rw [if_pos ag,UInt32.toNat_shiftLeft,Bd,show(32-n)%2^32%32=32-n by omega,nk]
 have I:x.toNat*2^(32-n)%4294967296=(x.toNat%2^n)*2^(32-n):=by rw [<-hp,Nat.mul_mod_mul_right]
 have u:x.toNat/2^n<2^(32-n):=by rw [Nat.div_lt_iff_lt_mul r,Nat.mul_comm,hp];exact hx
 have F:x.toNat%2^n<2^n:=Nat.mod_lt _ r;have O:x.toNat/2^n+(x.toNat%2^n)*2^(32-n)<4294967296:=by
  have:(x.toNat%2^n)*2^(32-n)+2^(32-n)<=2^n*2^(32-n):=by rw [<-Nat.succ_mul];exact iV _ F
  omega
 have V:(oo x n).toNat=x.toNat/2^n|||(x.toNat%2^n)*2^(32-n):=by unfold oo;rw [UInt32.toNat_or,e3,U,I]
 rw [lY,e1,e2,I,mc,V,gq ag,vC,GL u,Nat.or_comm]
theorem ajW(x:UInt64)(n:Nat)(h1:1<=n)(h2:n<=63):bS x/aF (2^n)+tv (bS x*aF (2^(64-n)))=bS (oq x n):=by
 apply dJ.1;have hx:=l6 x;have hp:2^n*2^(64-n)=18446744073709551616:=by rw [<-Nat.pow_add,show n+(64-n)=64 by omega]
 have r:0<2^n:=Nat.two_pow_pos n;have V:0<2^(64-n):=Nat.two_pow_pos _;have e1:(x/aF (2^n)).toNat=x.toNat/2^n:=by rw [nL,AA (by omega)]
 have e2:(x*aF (2^(64-n))).toNat=x.toNat*2^(64-n)%18446744073709551616:=by rw [uu,AA ag]
 have e3:(bh x n).toNat=x.toNat/2^n:=by unfold bh;rw [if_pos ag,sr,j5,show n%2^64%64=n by omega,np]
 have O:(dr x (64-n)).toNat=x.toNat*2^(64-n)%18446744073709551616:=by unfold dr;rw [if_pos ag,uv,j5,show(64-n)%2^64%64=64-n by omega,nk]
 have G:x.toNat*2^(64-n)%18446744073709551616=(x.toNat%2^n)*2^(64-n):=by rw [<-hp,Nat.mul_mod_mul_right]
 have u:x.toNat/2^n<2^(64-n):=by rw [Nat.div_lt_iff_lt_mul r,Nat.mul_comm,hp];exact hx
 have F:x.toNat%2^n<2^n:=Nat.mod_lt _ r;have I:x.toNat/2^n+(x.toNat%2^n)*2^(64-n)<18446744073709551616:=by
  have:(x.toNat%2^n)*2^(64-n)+2^(64-n)<=2^n*2^(64-n):=by rw [<-Nat.succ_mul];exact iV _ F
  omega
 have U:(oq x n).toNat=x.toNat/2^n|||(x.toNat%2^n)*2^(64-n):=by unfold oq;rw [Bg,e3,O,G]
 unfold bS tv;rw [lY,e1,e2,G,U,gq ag,vC,GL u,Nat.or_comm]
theorem Tn(x:UInt32)(n:Nat)(h2:n<=31):bO x/aF (2^n)=bO (kf x n):=by apply dJ.1;rw [nL,mc,mc,AA ag];unfold kf;rw [if_pos ag,UInt32.toNat_shiftRight,Bd,show n%2^32%32=n by omega,np]
theorem To(x:UInt64)(n:Nat)(h2:n<=63):bS x/aF (2^n)=bS (bh x n):=by apply dJ.1;unfold bS;rw [nL,AA ag];unfold bh;rw [if_pos ag,sr,j5,show n%2^64%64=n by omega,np]
theorem Ad(x y:UInt32):bO x^^^bO y=bO (x^^^y):=by apply dJ.1;rw [UInt64.toNat_xor,mc,mc,mc,UInt32.toNat_xor]
theorem C5(x y:UInt32):bO x&&&bO y=bO (x&&&y):=by apply dJ.1;rw [wW,mc,mc,mc,UInt32.toNat_and]
theorem Ae(x y:UInt64):bS x^^^bS y=bS (x^^^y):=rfl
theorem C6(x y:UInt64):bS x&&&bS y=bS (x&&&y):=rfl
theorem Fv(x:UInt32):(bO x).toUInt32=x:=by apply UInt32.toNat_inj.1;rw [UInt64.toNat_toUInt32,mc];exact gq (UInt32.toNat_lt x)
end Go.Sh
