/- Merged for a claim: R2, R3, R4, R5, R6. -/
import Derived.Test.YtkahaemiigimcaaGreatFm11
set_option linter.unusedSimpArgs false
set_option linter.unusedVariables false
set_option maxHeartbeats 4000000
set_option maxRecDepth 100000
open Option renaming some->aa
open Bool renaming true->ab,false->af
open List renaming take->aB,drop->aG,replicate->aK,length_append->aW,take_of_length_le->bW,drop_zero->cq,getD_eq_getElem?_getD->dk,length_map->dm,getElem?_eq_getElem->dy,map_append->dU,map->fR,getElem?_take_of_lt->ic,append_nil->jz,getElem?_map->ky,map_drop->o0,map_congr_left->qQ,getElem?_set_self->uk,take_succ_eq_append_getElem->Bc
open UInt64 renaming ofNat->aF,toNat_inj->dJ,toNat_ofNat'->j5,toNat_add->lY,toNat_lt->l6,toNat_div->nL,toNat_mod->nM,le_iff_toNat_le->oA,toNat_toUInt8->oB,toNat_shiftRight->sr,toNat_mul->uu,toNat_shiftLeft->uv,toNat_sub_of_le->wX,toNat->Be,toNat_or->Bg
open And renaming intro->aJ
open Int renaming toNat->aU,tdiv->lV
open Nat renaming le_refl->bH,le_of_ble_eq_true->cr,mul_one->fS,mod_eq_of_lt->gq,zero_add->ig,mul_le_mul_right->iV,shiftLeft_eq->nk,shiftRight_eq_div_pow->np,pow_le_pow_right->uo,div_eq_of_lt->vD,lt_of_lt_of_le->wU
open UInt8 renaming ofNat->cX,toNat_lt->eQ,toNat_inj->my,toNat_toUInt64->qU
open Exists renaming intro->fW
namespace Go.Sh
open Go.Proofs
theorem agX(i:Nat):aF (aU 2)*aF (2^i)=aF (2^(i+1)):=by rw [show aF (aU 2)=aF 2 from rfl,<-UInt64.ofNat_mul,Nat.pow_succ,Nat.mul_comm]
theorem f147(n:Nat)(hn:n<64):aQ 161 [.i (n:Int)] [] (.u64 (aF (2^n))) []:=by
 refine aL (fn:=Tryz.f161) ?_;refine zp ?_;refine bT n (λi=> [(0,.i n),(3,.u64 (aF (2^i.1))),(4,.i (i.1:Int))]) (λi=> []) 0 ?_ ?_
 .exact bL []
 .rintro⟨i,hi⟩;dsimp only;have hs:=agX i;obtain⟨X,hX⟩:=ax (aF (2^i));rw [<-hX]at hs|-;by_cases r:i<n
  .have hlt:decide ((i:Int)<(n:Int))=ab:=aA;have hp:au ((i:Int)+1)=((i+1:Nat):Int):=cp;refine zt ?_;refine xI ?_;rw [<-hs];exact bL []
  .obtain rfl:i=n:=ag;have hlt:decide ((i:Int)<(i:Int))=af:=aq;rw [<-hX];refine yF ?_;conv=>whnf
   exact gI
theorem vM(x:UInt64):aQ 163 [.u64 x,.i 32] [] (.u64 (pX x)) []:=by have q:=f147 32 aw;have e:aF (2^32)=4294967296:=rfl;rw [e]at q;refine aL (fn:=Tryz.f163) ?_;refine zM ?_;refine zW (aE [] [] ab q) ?_;refine zc ?_;exact gI
theorem vN(x:UInt64):aQ 163 [.u64 x,.i 64] [] (.u64 (tv x)) []:=by refine aL (fn:=Tryz.f163) ?_;exact AW
theorem Tf{a c:UInt64}(h:c≠0):gG .quo (.u64 a) (.u64 c)=aa (.u64 (a/c)):=by simp [gG,h]
theorem wb{n:Nat}(h:n<64):aF (2^n)≠0:=by intro e;have:=congrArg Be e;rw [AA h]at this;have h2:=Nat.two_pow_pos n;simp at this
theorem Da(x:UInt32)(n:Nat)(h1:1<=n)(h2:n<=31):aQ 198 [.u64 (bO x),.i (n:Int),.i 32] [] (.u64 (bO (oo x n))) []:=by have q1:=f147 n ag;have q2:=f147 (32-n) ag;have hn:au (32-(n:Int))=((32-n:Nat):Int):=cp;have q3:=vM (bO x*aF (2^(32-n)));have hnz:=wb (n:=n) ag;rw [<-ajV x n h1 h2];rw [<-hn]at q2;obtain⟨X,hX⟩:=ax (bO x);obtain⟨F,u⟩:=ax (aF (2^n));obtain⟨G,r⟩:=ax (aF (2^(32-n)));rw [<-hX,<-r]at q3;rw [<-u]at q1 hnz;rw [<-r]at q2;rw [<-hX,<-u,<-r];refine Wx ?_;refine zc ?_;exact gI
theorem PJ(x:UInt32)(a b c:Nat)(F:1<=a)(r:a<=31)(hb:1<=b)(hb2:b<=31)(hc:1<=c)(u:c<=31):aQ 187 [.u64 (bO x),.i (a:Int),.i (b:Int),.i (c:Int),.i 32,.b af] [] (.u64 (bO (re x a b c))) []:=by
 have q0:=f147 c ag;have q1:=Da x c hc u;have q2:=Da x a F r;have q3:=Da x b hb hb2;have hnz:=wb (n:=c) ag;have e:bO (re x a b c)=bO (oo x a)^^^bO (oo x b)^^^bO (oo x c):=by rw [Ad,Ad];rfl
 refine yq ?_;refine zW (aE [] [] ab q1) ?_;exact Ij
theorem PK(x:UInt32)(a b c:Nat)(F:1<=a)(r:a<=31)(hb:1<=b)(hb2:b<=31)(hc:1<=c)(u:c<=31):aQ 187 [.u64 (bO x),.i (a:Int),.i (b:Int),.i (c:Int),.i 32,.b ab] [] (.u64 (bO (oS x a b c))) []:=by
 have q0:=f147 c ag;have q2:=Da x a F r;have q3:=Da x b hb hb2;have hnz:=wb (n:=c) ag;have hs:=Tn x c u;have e:bO (oS x a b c)=bO (oo x a)^^^bO (oo x b)^^^(bO x/aF (2^c)):=by rw [Ad,hs,Ad];rfl
 refine yq ?_;exact Ij
theorem Db(x:UInt64)(n:Nat)(h1:1<=n)(h2:n<=63):aQ 198 [.u64 (bS x),.i (n:Int),.i 64] [] (.u64 (bS (oq x n))) []:=by have q1:=f147 n ag;have q2:=f147 (64-n) ag;have hn:au (64-(n:Int))=((64-n:Nat):Int):=cp;have q3:=vN (bS x*aF (2^(64-n)));have hnz:=wb (n:=n) ag;rw [<-ajW x n h1 h2];rw [<-hn]at q2;obtain⟨X,hX⟩:=ax (bS x);obtain⟨F,u⟩:=ax (aF (2^n));obtain⟨G,r⟩:=ax (aF (2^(64-n)));rw [<-hX,<-r]at q3;rw [<-u]at q1 hnz;rw [<-r]at q2;rw [<-hX,<-u,<-r];refine Wx ?_;refine zc ?_;exact gI
theorem PL(x:UInt64)(a b c:Nat)(F:1<=a)(r:a<=63)(hb:1<=b)(hb2:b<=63)(hc:1<=c)(u:c<=63):aQ 187 [.u64 (bS x),.i (a:Int),.i (b:Int),.i (c:Int),.i 64,.b af] [] (.u64 (bS (rh x a b c))) []:=by
 have q0:=f147 c ag;have q1:=Db x c hc u;have q2:=Db x a F r;have q3:=Db x b hb hb2;have hnz:=wb (n:=c) ag;have e:bS (rh x a b c)=bS (oq x a)^^^bS (oq x b)^^^bS (oq x c):=by rw [Ae,Ae];rfl
 refine yq ?_;refine zW (aE [] [] ab q1) ?_;exact Ij
theorem PM(x:UInt64)(a b c:Nat)(F:1<=a)(r:a<=63)(hb:1<=b)(hb2:b<=63)(hc:1<=c)(u:c<=63):aQ 187 [.u64 (bS x),.i (a:Int),.i (b:Int),.i (c:Int),.i 64,.b ab] [] (.u64 (bS (oT x a b c))) []:=by
 have q0:=f147 c ag;have q2:=Db x a F r;have q3:=Db x b hb hb2;have hnz:=wb (n:=c) ag;have hs:=To x c u;have e:bS (oT x a b c)=bS (oq x a)^^^bS (oq x b)^^^(bS x/aF (2^c)):=by rw [Ae,hs,Ae];rfl
 refine yq ?_;exact Ij
theorem ZN(x:UInt32):aQ 164 [.i 0,.u64 (bO x),.i 32] [] (.u64 (bO (re x 2 13 22))) []:=by have q:=PJ x 2 13 22 aw aw aw aw aw aw;exact zG
theorem ZO(x:UInt32):aQ 164 [.i 1,.u64 (bO x),.i 32] [] (.u64 (bO (re x 6 11 25))) []:=by have q:=PJ x 6 11 25 aw aw aw aw aw aw;exact zG
theorem ZP(x:UInt32):aQ 164 [.i 2,.u64 (bO x),.i 32] [] (.u64 (bO (oS x 7 18 3))) []:=by have q:=PK x 7 18 3 aw aw aw aw aw aw;exact zG
theorem ZQ(x:UInt32):aQ 164 [.i 3,.u64 (bO x),.i 32] [] (.u64 (bO (oS x 17 19 10))) []:=by have q:=PK x 17 19 10 aw aw aw aw aw aw;exact zG
theorem ZR(x:UInt64):aQ 164 [.i 0,.u64 (bS x),.i 64] [] (.u64 (bS (rh x 28 34 39))) []:=by have q:=PL x 28 34 39 aw aw aw aw aw aw;exact zG
theorem ZS(x:UInt64):aQ 164 [.i 1,.u64 (bS x),.i 64] [] (.u64 (bS (rh x 14 18 41))) []:=by have q:=PL x 14 18 41 aw aw aw aw aw aw;exact zG
theorem ZT(x:UInt64):aQ 164 [.i 2,.u64 (bS x),.i 64] [] (.u64 (bS (oT x 1 8 7))) []:=by have q:=PM x 1 8 7 aw aw aw aw aw aw;exact zG
theorem ZU(x:UInt64):aQ 164 [.i 3,.u64 (bS x),.i 64] [] (.u64 (bS (oT x 19 61 6))) []:=by have q:=PM x 19 61 6 aw aw aw aw aw aw;exact zG
theorem acj(x:UInt32):pX (aF (aU 18446744073709551615))-bO x=bO (~~~x):=by
 apply dJ.1;have e:pX (aF (aU 18446744073709551615))=4294967295:=aw;have hx:=UInt32.toNat_lt x;rw [e,wX _ _ (by rw [oA,mc];show x.toNat<=4294967295;omega),mc,mc,UInt32.toNat_not];show 4294967295-x.toNat=4294967296-1-x.toNat
 omega
theorem ack(x:UInt64):tv (aF (aU 18446744073709551615))-bS x=bS (~~~x):=by
 apply dJ.1;have e:tv (aF (aU 18446744073709551615))=18446744073709551615:=aw;have hx:=l6 x;unfold bS;rw [e,wX _ _ (by rw [oA];show x.toNat<=18446744073709551615;omega),UInt64.toNat_not];show 18446744073709551615-x.toNat=18446744073709551616-1-x.toNat
 omega
theorem HH(a b:UInt32):pX (bO a+bO b)=bO (a+b):=by rw [Jw,UInt64.toUInt32_add,Fv,Fv]
theorem ajv(a b c d e:UInt32):pX (bO a+bO b+bO c+bO d+bO e)=bO (a+b+c+d+e):=by rw [Jw];simp only [UInt64.toUInt32_add,Fv]
theorem ajt(a b c d:UInt32):pX (bO a+bO b+bO c+bO d)=bO (a+b+c+d):=by rw [Jw];simp only [UInt64.toUInt32_add,Fv]
theorem HI(a b:UInt64):tv (bS a+bS b)=bS (a+b):=rfl
theorem ajw(a b c d e:UInt64):tv (bS a+bS b+bS c+bS d+bS e)=bS (a+b+c+d+e):=rfl
theorem aju(a b c d:UInt64):tv (bS a+bS b+bS c+bS d)=bS (a+b+c+d):=rfl
def gZ(x:List UInt32):List UInt64:=x.map bO
theorem Bt(x:List UInt32):(gZ x).length=x.length:=dm ..
section
attribute [local irreducible] bO pX re
theorem ZV(x:List UInt32)(hx:x.length=8)(k w:UInt32)(f:Bool):aM 165 [.sl 0 0 8 1 f,.u64 (bO k),.u64 (bO w),.i 32] [eJ (gZ x)] (.sl 1 0 8 1 ab) [dC 24 (gZ (Ho x k w))]:=by
 obtain⟨r,x1,x2,x3,x4,G,I,W,rfl⟩:=Bx hx;have qf:=vM (aF (aU 18446744073709551615));have u:=acj x4;obtain⟨F,hF⟩:=ax (pX (aF (aU 18446744073709551615)));rw [<-hF]at qf u;have q1:=ZO x4;have q0:=ZN r;obtain⟨Z,U⟩:=ax (re x4 6 11 25);obtain⟨B0,O⟩:=ax (re r 2 13 22);rw [<-U]at q1;rw [<-O]at q0;have r1:=vM (bO W+bO Z+bO ((x4&&&G)^^^(~~~x4&&&I))+bO k+bO w);rw [ajv]at r1;have r2:=vM (bO B0+bO ((r&&&x1)^^^(r&&&x2)^^^(x1&&&x2)));rw [HH]at r2;have V:Ho [r,x1,x2,x3,x4,G,I,W] k w= [W+Z+((x4&&&G)^^^(~~~x4&&&I))+k+w+(B0+((r&&&x1)^^^(r&&&x2)^^^(x1&&&x2))),r,x1,x2,x3+(W+Z+((x4&&&G)^^^(~~~x4&&&I))+k+w),x4,G,I]:=by rw [U,O];rfl
 rw [V];obtain⟨p,hp⟩:=ax (W+Z+((x4&&&G)^^^(~~~x4&&&I))+k+w);obtain⟨q,hq⟩:=ax (B0+((r&&&x1)^^^(r&&&x2)^^^(x1&&&x2)));rw [<-hp,<-hq];rw [<-hp]at r1;rw [<-hq]at r2;have r3:=vM (bO p+bO q);rw [HH]at r3;have r4:=vM (bO x3+bO p);rw [HH]at r4;clear U O hp hq V hF;refine Wv ?_;rw [u,C5 x4 G,C5 (~~~x4) I,Ad (x4&&&G) (~~~x4&&&I)];refine zW (aE [] [] ab r1) ?_;refine zl ?_;refine zW (aE [] [] ab q0) ?_;refine zl ?_;rw [C5 r x1,C5 r x2,Ad (r&&&x1) (r&&&x2),C5 x1 x2,Ad ((r&&&x1)^^^(r&&&x2)) (x1&&&x2)];exact Wr
end
def hQ(x:List UInt64):List UInt64:=x.map bS
theorem Bu(x:List UInt64):(hQ x).length=x.length:=dm ..
section
attribute [local irreducible] bS tv rh
theorem ZW(x:List UInt64)(hx:x.length=8)(k w:UInt64)(f:Bool):aM 165 [.sl 0 0 8 1 f,.u64 (bS k),.u64 (bS w),.i 64] [eJ (hQ x)] (.sl 1 0 8 1 ab) [dC 24 (hQ (Hp x k w))]:=by
 obtain⟨r,x1,x2,x3,x4,G,I,W,rfl⟩:=Bx hx;have qf:=vN (aF (aU 18446744073709551615));have u:=ack x4;obtain⟨F,hF⟩:=ax (tv (aF (aU 18446744073709551615)));rw [<-hF]at qf u;have q1:=ZS x4;have q0:=ZR r;obtain⟨Z,U⟩:=ax (rh x4 14 18 41);obtain⟨B0,O⟩:=ax (rh r 28 34 39);rw [<-U]at q1;rw [<-O]at q0;have r1:=vN (bS W+bS Z+bS ((x4&&&G)^^^(~~~x4&&&I))+bS k+bS w);rw [ajw]at r1;have r2:=vN (bS B0+bS ((r&&&x1)^^^(r&&&x2)^^^(x1&&&x2)));rw [HI]at r2;have V:Hp [r,x1,x2,x3,x4,G,I,W] k w= [W+Z+((x4&&&G)^^^(~~~x4&&&I))+k+w+(B0+((r&&&x1)^^^(r&&&x2)^^^(x1&&&x2))),r,x1,x2,x3+(W+Z+((x4&&&G)^^^(~~~x4&&&I))+k+w),x4,G,I]:=by rw [U,O];rfl
 rw [V];obtain⟨p,hp⟩:=ax (W+Z+((x4&&&G)^^^(~~~x4&&&I))+k+w);obtain⟨q,hq⟩:=ax (B0+((r&&&x1)^^^(r&&&x2)^^^(x1&&&x2)));rw [<-hp,<-hq];rw [<-hp]at r1;rw [<-hq]at r2;have r3:=vN (bS p+bS q);rw [HI]at r3;have r4:=vN (bS x3+bS p);rw [HI]at r4;clear U O hp hq V hF;refine Wv ?_;rw [u,C6 x4 G,C6 (~~~x4) I,Ae (x4&&&G) (~~~x4&&&I)];refine zW (aE [] [] ab r1) ?_;refine zl ?_;refine zW (aE [] [] ab q0) ?_;refine zl ?_;rw [C6 r x1,C6 r x2,Ae (r&&&x1) (r&&&x2),C6 x1 x2,Ae ((r&&&x1)^^^(r&&&x2)) (x1&&&x2)];exact Wr
end
theorem adL(N:Nat):i9 N 16=i9 N 8:=by
 have h:∀(a b c d e f g h:UInt8),True:=λ_ _ _ _ _ _ _ _=>trivial
 rfl
theorem Rg(N:Nat):aF (aU 8)*aF N=dr (aF N) 3:=by
 apply dJ.1;unfold dr;rw [if_pos aw,uv,uu];show 8*(aF N).toNat%2^64=((aF N).toNat<<<3)%2^64
 rw [nk];congr 1;omega
theorem Mc(y:UInt64)(j:Nat):bh y (8*j)/aF (aU 256)=bh y (8*(j+1)):=by
 apply dJ.1;have hy:=l6 y;have r:∀n,n<64->(bh y n).toNat=y.toNat/2^n:=λn hn=>by unfold bh;rw [if_pos hn,sr,j5,show n%2^64%64=n by omega,np]
 have sz:∀n,64<=n->bh y n=0:=λn hn=>by unfold bh;rw [if_neg (by omega)]
 rw [nL];show(bh y (8*j)).toNat/256=_
 by_cases h1:8*(j+1)<64
 .rw [r _ ag,r _ h1,Nat.div_div_eq_div_mul,show 8*(j+1)=8*j+8 by omega,Nat.pow_add]
 .rw [sz (8*(j+1)) ag];by_cases h2:8*j<64
  .have hj:j=7:=ag;subst hj;rw [r _ h2,Nat.div_div_eq_div_mul];show y.toNat/18446744073709551616=0
   exact vD hy
  .rw [sz (8*j) ag];rfl
theorem GA(x:UInt64):(x%aF (aU 256)).toUInt8=x.toUInt8:=by
 apply my.1;rw [oB,oB,nM];show x.toNat%256%256=x.toNat%256
 omega
theorem LZ{a c:UInt64}(h:c≠0):gG .quo (.u64 a) (.u64 c)=aa (.u64 (a/c)):=by simp [gG,h]
theorem Cd{E b:List UInt8}{o n m:Nat}(hn:n=E.length-o)(hm:m=b.length):aB (n*1) (aG o (E.map SV.u8))++aB (m*1) (aG 0 (b.map SV.u8))=(E.drop o++b).map SV.u8:=by subst hn;subst hm;rw [fS,fS,cq,bW (l:=b.map SV.u8) A5,bW NT,dU,o0]
theorem ah2{r j:Nat}(h:j<d9 r):(r+1+j)%64≠56:=by unfold d9 at h;omega
theorem ah4(r:Nat):(r+1+d9 r)%64=56:=by unfold d9;omega
theorem ahB(N:Nat):jv N 8=vT N:=rfl
theorem ahF(N:Nat):jv N 0=aK 8 0:=rfl
theorem ahD(N i:Nat):jv N (i+1)=(jv N i).set (8-1-i) (bh (dr (aF N) 3) (8*i)).toUInt8:=rfl
section
attribute [local irreducible] d9 jv
theorem ZL(T:List UInt8)(hT:T.length<100000000000000)(f:Bool):aM 162 [.sl 0 0 T.length 1 f,.i 32] [ak T] (.sl 1 0 (mP T).length 1 af) [aC 5 (mP T)]:=by
 have hz0:0+T.length=T.length:=ig _;have hu:fO (T.length:Int)=aF T.length:=by unfold fO;congr 1;omega
 have V:=Rg T.length;have h8:d9 T.length<64:=NU;have hbk:aB ((0+T.length)*cM.sz) (aG 0 (aB (0*cM.sz) (aG 0 (dK 0 (SV.u8 0).cells))++aB (T.length*cM.sz) (aG 0 (SB.ro (fR SV.u8 T)).cells)))++aB (1*cM.sz) (aG 0 (SB.row 5 (bN (dK 1 (SV.u8 0).cells) (0*cM.sz) (SV.u8 (cX (aU 128))))).cells)=(T++ [128]).map SV.u8:=by
  show aB ((0+T.length)*1) (([]:List SV)++aB (T.length*1) (T.map SV.u8))++ [SV.u8 128]=_
  simp
 refine Xz ?_;refine bT (d9 T.length) (λj=> [(0,.sl 0 0 T.length 1 f),(1,.i 32),(5,.sl 1 0 (T.length+1+j.1) 1 af)]) (λj=> [ak T,aC 5 (T++ [128]++aK j.1 0)]) 2 ?_ ?_
 .have hz:T++ [128]++aK 0 0=T++ [128]:=jz _;refine yL ?_;exact bL [0,4]
 .rintro⟨j,hj⟩;dsimp only;obtain⟨Y,hY⟩:=ax (T++ [128]++aK j 0);have O:Y.length=T.length+1+j:=XT;have hYs:T++ [128]++aK (j+1) 0=Y++ [0]:=IE;have hap:(Y++ [0]).map SV.u8=aB ((T.length+1+j)*1) (aG 0 (Y.map SV.u8))++aB (1*1) (aG 0 [SV.u8 0]):=(Cd (o:=0) (n:=T.length+1+j) (E:=Y) (b:= [0]) ag rfl).symm;have r:(((T.length+1+j:Nat):Int)).tmod 64=(((T.length+1+j)%64:Nat):Int):=rfl;by_cases U:j<d9 T.length
  .have hno:=ah2 U;have hcd:((((T.length+1+j:Nat):Int)).tmod (au (2*32)) !=au (au (2*32)-au (lV 32 4)))=ab:=by rw [show au (2*32)=64 from by decide,show au (64-au (lV 32 4))=56 from by decide,r];simp;omega
   refine Ip ?_;exact yr
  .obtain rfl:j=d9 T.length:=ag;have I:=ah4 T.length;have hcd:((((T.length+1+d9 T.length:Nat):Int)).tmod (au (2*32)) !=au (au (2*32)-au (lV 32 4)))=af:=by rw [show au (2*32)=64 from by decide,show au (64-au (lV 32 4))=56 from by decide,r,I];rfl
   refine Ie ?_;obtain⟨y,hy⟩:=ax (dr (aF T.length) 3);have W:aF (aU 8)*fO (T.length:Int)=bh y (8*0):=by rw [hu,V,<-hy];unfold bh;simp
   refine bT 8 (λi=> [(5,.sl 1 0 (T.length+1+d9 T.length) 1 af),(6,.sl 2 0 8 1 ab),(7,.u64 (bh y (8*i.1))),(8,.i (8-1-(i.1:Int)))]) (λi=> [ak T,aC 5 Y,aC 5 (jv T.length i.1)]) 3 ?_ ?_
   .have hz:=ahF T.length;dsimp only;rw [hz,<-W];exact xA
   .rintro⟨i,hi⟩;dsimp only;have F:=BQ T.length i;by_cases Z:i<8
    .have hlt:decide ((8-1-(i:Int))>=0)=ab:=aA;have hid:8-1-(i:Int)=((8-1-i:Nat):Int):=ag;have hp:au (8-1-(i:Int)-1)=8-1-((i+1:Nat):Int):=cp;have hs:=ahD T.length i;rw [<-hy]at hs;have hst:=Mc y i;have hm:=GA (bh y (8*i));have h6:8-1-i<8:=ag;refine zt ?_;repeat(first|refine zH (nC (i:=8-1-i) aT) ?_|refine zH (bg (m:=8-1-i) aT) ?_|refine aS ?_)
     rw [hm,hst];refine xI ?_;rw [hs];exact xA
    .obtain rfl:i=8:=ag;have u:(Y++jv T.length 8).map SV.u8=aB ((T.length+1+d9 T.length)*1) (aG 0 (Y.map SV.u8))++aB (8*1) (aG 0 ((jv T.length 8).map SV.u8)):=(Cd (o:=0) (n:=T.length+1+d9 T.length) (E:=Y) (b:=jv T.length 8) ag F.symm).symm;have hpw:mP T=Y++jv T.length 8:=by rw [hY,ahB];rfl
     have G:(mP T).length=T.length+1+d9 T.length+8:=by rw [hpw,aW,O,F]
     rw [G,hpw];refine zy ?_;refine zl ?_;refine⟨[0,3],?_,rfl,rfl,?_,rfl⟩
     .exact zo
     ·(repeat'(first|exact trivial|exact aY (cY _) u|refine aJ ?_ ?_|fail))<;>first|rfl|exact aY bY az|fail
end
theorem ah3{r j:Nat}(h:j<eC r):(r+1+j)%128≠112:=by unfold eC at h;omega
theorem ah5(r:Nat):(r+1+eC r)%128=112:=by unfold eC;omega
theorem ahC(N:Nat):i9 N 16=vU N:=adL _
theorem ahG(N:Nat):i9 N 0=aK 16 0:=rfl
theorem ahE(N i:Nat):i9 N (i+1)=(i9 N i).set (16-1-i) (bh (dr (aF N) 3) (8*i)).toUInt8:=rfl
section
attribute [local irreducible] eC i9
theorem ZM(T:List UInt8)(hT:T.length<100000000000000)(f:Bool):aM 162 [.sl 0 0 T.length 1 f,.i 64] [ak T] (.sl 1 0 (mQ T).length 1 af) [aC 5 (mQ T)]:=by
 have hz0:0+T.length=T.length:=ig _;have hu:fO (T.length:Int)=aF T.length:=by unfold fO;congr 1;omega
 have V:=Rg T.length;have h8:eC T.length<128:=NV;have hbk:aB ((0+T.length)*cM.sz) (aG 0 (aB (0*cM.sz) (aG 0 (dK 0 (SV.u8 0).cells))++aB (T.length*cM.sz) (aG 0 (SB.ro (fR SV.u8 T)).cells)))++aB (1*cM.sz) (aG 0 (SB.row 5 (bN (dK 1 (SV.u8 0).cells) (0*cM.sz) (SV.u8 (cX (aU 128))))).cells)=(T++ [128]).map SV.u8:=by
  show aB ((0+T.length)*1) (([]:List SV)++aB (T.length*1) (T.map SV.u8))++ [SV.u8 128]=_
  simp
 refine Xz ?_;refine bT (eC T.length) (λj=> [(0,.sl 0 0 T.length 1 f),(1,.i 64),(5,.sl 1 0 (T.length+1+j.1) 1 af)]) (λj=> [ak T,aC 5 (T++ [128]++aK j.1 0)]) 2 ?_ ?_
 .have hz:T++ [128]++aK 0 0=T++ [128]:=jz _;refine yL ?_;exact bL [0,4]
 .rintro⟨j,hj⟩;dsimp only;obtain⟨Y,hY⟩:=ax (T++ [128]++aK j 0);have O:Y.length=T.length+1+j:=XT;have hYs:T++ [128]++aK (j+1) 0=Y++ [0]:=IE;have hap:(Y++ [0]).map SV.u8=aB ((T.length+1+j)*1) (aG 0 (Y.map SV.u8))++aB (1*1) (aG 0 [SV.u8 0]):=(Cd (o:=0) (n:=T.length+1+j) (E:=Y) (b:= [0]) ag rfl).symm;have r:(((T.length+1+j:Nat):Int)).tmod 128=(((T.length+1+j)%128:Nat):Int):=rfl;by_cases U:j<eC T.length
  .have hno:=ah3 U;have hcd:((((T.length+1+j:Nat):Int)).tmod (au (2*64)) !=au (au (2*64)-au (lV 64 4)))=ab:=by rw [show au (2*64)=128 from by decide,show au (128-au (lV 64 4))=112 from by decide,r];simp;omega
   refine Ip ?_;exact yr
  .obtain rfl:j=eC T.length:=ag;have I:=ah5 T.length;have hcd:((((T.length+1+eC T.length:Nat):Int)).tmod (au (2*64)) !=au (au (2*64)-au (lV 64 4)))=af:=by rw [show au (2*64)=128 from by decide,show au (128-au (lV 64 4))=112 from by decide,r,I];rfl
   refine Ie ?_;obtain⟨y,hy⟩:=ax (dr (aF T.length) 3);have W:aF (aU 8)*fO (T.length:Int)=bh y (8*0):=by rw [hu,V,<-hy];unfold bh;simp
   refine bT 16 (λi=> [(5,.sl 1 0 (T.length+1+eC T.length) 1 af),(6,.sl 2 0 16 1 ab),(7,.u64 (bh y (8*i.1))),(8,.i (16-1-(i.1:Int)))]) (λi=> [ak T,aC 5 Y,aC 5 (i9 T.length i.1)]) 3 ?_ ?_
   .have hz:=ahG T.length;dsimp only;rw [hz,<-W];exact xA
   .rintro⟨i,hi⟩;dsimp only;have F:=BR T.length i;by_cases Z:i<16
    .have hlt:decide ((16-1-(i:Int))>=0)=ab:=aA;have hid:16-1-(i:Int)=((16-1-i:Nat):Int):=ag;have hp:au (16-1-(i:Int)-1)=16-1-((i+1:Nat):Int):=cp;have hs:=ahE T.length i;rw [<-hy]at hs;have hst:=Mc y i;have hm:=GA (bh y (8*i));have h6:16-1-i<16:=ag;refine zt ?_;repeat(first|refine zH (nC (i:=16-1-i) aT) ?_|refine zH (bg (m:=16-1-i) aT) ?_|refine aS ?_)
     rw [hm,hst];refine xI ?_;rw [hs];exact xA
    .obtain rfl:i=16:=ag;have u:(Y++i9 T.length 16).map SV.u8=aB ((T.length+1+eC T.length)*1) (aG 0 (Y.map SV.u8))++aB (16*1) (aG 0 ((i9 T.length 16).map SV.u8)):=(Cd (o:=0) (n:=T.length+1+eC T.length) (E:=Y) (b:=i9 T.length 16) ag F.symm).symm;have hpw:mQ T=Y++i9 T.length 16:=by rw [hY,ahC];rfl
     have G:(mQ T).length=T.length+1+eC T.length+16:=by rw [hpw,aW,O,F]
     rw [G,hpw];refine zy ?_;refine zl ?_;refine⟨[0,3],?_,rfl,rfl,?_,rfl⟩
     .exact zo
     ·(repeat'(first|exact trivial|exact aY (cY _) u|refine aJ ?_ ?_|fail))<;>first|rfl|exact aY bY az|fail
end
def jn(b:List UInt8)(t:Nat):Nat->UInt32
 |0=>0
 |m+1=>mU (jn b t m) 8|||(b.getD (4*t+m) 0).toUInt32
theorem Ni(b:List UInt8)(t m:Nat):jn b t (m+1)=mU (jn b t m) 8|||(b.getD (4*t+m) 0).toUInt32:=rfl
theorem V3(b:List UInt8)(t:Nat)(ht:t<16):∀i,i<=64->(mW b i).getD t 0=jn b t (min 4 (i-4*t))
 |0,_=>by
  have e:min 4 (0-4*t)=0:=ag;rw [e];show(aK 64 (0:UInt32)).getD t 0=0
  rw [dk,List.getElem?_replicate_of_lt ag];rfl
 |i+1,hi=>by
  have ih:=V3 b t ht i ag;have hl:=Er b i;show((mW b i).set (i/4) (mU ((mW b i).getD (i/4) 0) 8|||(b.getD i 0).toUInt32)).getD t 0=_
  by_cases h:i/4=t
  .have r:i/4<(mW b i).length:=by rw [hl];omega
   rw [dk,<-h,uk r];show mU ((mW b i).getD (i/4) 0) 8|||(b.getD i 0).toUInt32=_
   rw [h,ih,show min 4 (i-4*t)=i-4*t by omega,show min 4 (i+1-4*t)=(i-4*t)+1 by omega,Ni,show 4*t+(i-4*t)=i by omega]
  .rw [dk,List.getElem?_set_ne h,<-dk,ih];congr 1;omega
theorem akG(b:List UInt8)(t:Nat)(ht:t<16):(mW b 64).getD t 0=jn b t 4:=by rw [V3 b t ht 64 (bH _)];congr 1;omega
theorem VX(b:List UInt8)(t:Nat):∀m,m<=4->(jn b t m).toNat<2^(8*m)
 |0,_=>by show 0<2^0;decide
 |m+1,hm=>by
  have ih:=VX b t m ag;have hb:(b.getD (4*t+m) 0).toNat<2^8:=eQ _;rw [Ni];have hs:(mU (jn b t m) 8).toNat<2^(8*(m+1)):=by
   unfold mU;rw [if_pos aw,UInt32.toNat_shiftLeft];show((jn b t m).toNat<<<8)%2^32<_
   exact Wc
  rw [UInt32.toNat_or];exact Wo
theorem aky(b:List UInt8)(t m:Nat)(hm:m<4):aF (aU 256)*bO (jn b t m)+(b.getD (4*t+m) 0).toUInt64=bO (jn b t (m+1)):=by
 have hlt:=VX b t m ag;have hb:(b.getD (4*t+m) 0).toNat<2^8:=eQ _;have hp:2^(8*m)<=2^24:=uo aw ag;have hx:(jn b t m).toNat<2^24:=wU hlt hp;apply dJ.1;have G:∀x:UInt32,(bO x).toNat=x.toNat:=λx=>by first|exact mc x|rfl
 have hsh:(mU (jn b t m) 8).toNat=(jn b t m).toNat*2^8:=by
  unfold mU;rw [if_pos aw,UInt32.toNat_shiftLeft];show((jn b t m).toNat<<<8)%2^32=_
  exact WX
 rw [lY,uu,G,G,Ni,UInt32.toNat_or,hsh];have F:((b.getD (4*t+m) 0).toUInt32).toNat=(b.getD (4*t+m) 0).toNat:=by first|exact UInt8.toNat_toUInt32 _|exact qU _
 rw [F];try rw [qU]
 rw [<-GL hb];have r:(aF (aU 256)).toNat=256:=aw;rw [r];have u:(jn b t m).toNat*2^8+2^8<=2^24*2^8:=by rw [<-Nat.succ_mul];exact iV _ hx
 have hc:2^24*2^8<=18446744073709551616:=aw;have I:(2:Nat)^8=256:=rfl;rw [I]at u hc hb|-;rw [gq (a:=256*(jn b t m).toNat) ag,gq ag];omega
theorem aku(b:List UInt8)(t:Nat)(ht:t<64-16):(dS b (t+1)).take (t+1+16)=(dS b t).take (t+16)++ [(dS b (t+1)).getD (t+16) 0]:=by
 have hl:=AR b t;have hl1:=AR b (t+1);rw [show t+1+16=(t+16)+1 by omega,Bc ag];congr 1
 .show((dS b t).set (t+16) _).take (t+16)=_
  rw [List.take_set_of_le (bH _)]
 .rw [dk,dy ag];rfl
theorem akq(b:List UInt8)(t:Nat)(ht:t<64-16):(dS b (t+1)).getD (t+16) 0=oS ((dS b t).getD (t+14) 0) 17 19 10+(dS b t).getD (t+9) 0+oS ((dS b t).getD (t+1) 0) 7 18 3+(dS b t).getD t 0:=by
 have hl:=AR b t;show((dS b t).set (t+16) _).getD (t+16) 0=_
 rw [dk,uk ag];rfl
theorem aks(b:List UInt8)(t i:Nat)(ht:t<=64-16)(hi:i<t+16):((dS b t).take (t+16)).getD i 0=(dS b t).getD i 0:=by rw [dk,dk,ic hi]
def jo(b:List UInt8)(t:Nat):Nat->UInt64
 |0=>0
 |m+1=>dr (jo b t m) 8|||(b.getD (8*t+m) 0).toUInt64
theorem Nj(b:List UInt8)(t m:Nat):jo b t (m+1)=dr (jo b t m) 8|||(b.getD (8*t+m) 0).toUInt64:=rfl
theorem V7(b:List UInt8)(t:Nat)(ht:t<16):∀i,i<=128->(mX b i).getD t 0=jo b t (min 8 (i-8*t))
 |0,_=>by
  have e:min 8 (0-8*t)=0:=ag;rw [e];show(aK 80 (0:UInt64)).getD t 0=0
  rw [dk,List.getElem?_replicate_of_lt ag];rfl
 |i+1,hi=>by
  have ih:=V7 b t ht i ag;have hl:=Es b i;show((mX b i).set (i/8) (dr ((mX b i).getD (i/8) 0) 8|||(b.getD i 0).toUInt64)).getD t 0=_
  by_cases h:i/8=t
  .have r:i/8<(mX b i).length:=by rw [hl];omega
   rw [dk,<-h,uk r];show dr ((mX b i).getD (i/8) 0) 8|||(b.getD i 0).toUInt64=_
   rw [h,ih,show min 8 (i-8*t)=i-8*t by omega,show min 8 (i+1-8*t)=(i-8*t)+1 by omega,Nj,show 8*t+(i-8*t)=i by omega]
  .rw [dk,List.getElem?_set_ne h,<-dk,ih];congr 1;omega
theorem akH(b:List UInt8)(t:Nat)(ht:t<16):(mX b 128).getD t 0=jo b t 8:=by rw [V7 b t ht 128 (bH _)];congr 1;omega
theorem VY(b:List UInt8)(t:Nat):∀m,m<=8->(jo b t m).toNat<2^(8*m)
 |0,_=>by show 0<2^0;decide
 |m+1,hm=>by
  have ih:=VY b t m ag;have hb:(b.getD (8*t+m) 0).toNat<2^8:=eQ _;rw [Nj];have hs:(dr (jo b t m) 8).toNat<2^(8*(m+1)):=by
   unfold dr;rw [if_pos aw,uv];show((jo b t m).toNat<<<8)%2^64<_
   exact Wc
  rw [Bg];exact Wo
theorem akz(b:List UInt8)(t m:Nat)(hm:m<8):aF (aU 256)*bS (jo b t m)+(b.getD (8*t+m) 0).toUInt64=bS (jo b t (m+1)):=by
 have hlt:=VY b t m ag;have hb:(b.getD (8*t+m) 0).toNat<2^8:=eQ _;have hp:2^(8*m)<=2^56:=uo aw ag;have hx:(jo b t m).toNat<2^56:=wU hlt hp;apply dJ.1;have G:∀x:UInt64,(bS x).toNat=x.toNat:=λx=>by first|exact mc x|rfl
 have hsh:(dr (jo b t m) 8).toNat=(jo b t m).toNat*2^8:=by
  unfold dr;rw [if_pos aw,uv];show((jo b t m).toNat<<<8)%2^64=_
  exact WX
 rw [lY,uu,G,G,Nj,Bg,hsh];have F:((b.getD (8*t+m) 0).toUInt64).toNat=(b.getD (8*t+m) 0).toNat:=by first|exact UInt8.toNat_toUInt32 _|exact qU _
 rw [F];try rw [qU]
 rw [<-GL hb];have r:(aF (aU 256)).toNat=256:=aw;rw [r];have u:(jo b t m).toNat*2^8+2^8<=2^56*2^8:=by rw [<-Nat.succ_mul];exact iV _ hx
 have hc:2^56*2^8<=18446744073709551616:=aw;have I:(2:Nat)^8=256:=rfl;rw [I]at u hc hb|-;rw [gq (a:=256*(jo b t m).toNat) ag,gq ag];omega
theorem akv(b:List UInt8)(t:Nat)(ht:t<80-16):(dT b (t+1)).take (t+1+16)=(dT b t).take (t+16)++ [(dT b (t+1)).getD (t+16) 0]:=by
 have hl:=AS b t;have hl1:=AS b (t+1);rw [show t+1+16=(t+16)+1 by omega,Bc ag];congr 1
 .show((dT b t).set (t+16) _).take (t+16)=_
  rw [List.take_set_of_le (bH _)]
 .rw [dk,dy ag];rfl
theorem akr(b:List UInt8)(t:Nat)(ht:t<80-16):(dT b (t+1)).getD (t+16) 0=oT ((dT b t).getD (t+14) 0) 19 61 6+(dT b t).getD (t+9) 0+oT ((dT b t).getD (t+1) 0) 1 8 7+(dT b t).getD t 0:=by
 have hl:=AS b t;show((dT b t).set (t+16) _).getD (t+16) 0=_
 rw [dk,uk ag];rfl
theorem akt(b:List UInt8)(t i:Nat)(ht:t<=80-16)(hi:i<t+16):((dT b t).take (t+16)).getD i 0=(dT b t).getD i 0:=by rw [dk,dk,ic hi]
theorem f145:aQ 159 [] [] (.sl 0 0 8 1 ab) [dC 24 fL]:=by
 refine aL (fn:=Tryz.f159) ?_;refine zp ?_;repeat(first|(refine fW _ (aJ Fl ?_);conv=>whnf)|refine zH (Fm rfl) ?_|refine zH (cK rfl IZ) ?_|refine zH (df rfl IZ) ?_|refine zW (iN rfl) ?_|refine zW (cO rfl) ?_|refine zW (bl bY) ?_|refine zW (bC bY) ?_|refine zW (du bY) ?_|refine zW (eV bY) ?_|refine zW (iN bY) ?_|refine zW (cO bY) ?_|refine zN ⟨cr rfl,cr rfl⟩ ?_|refine zN ⟨cr rfl,cr rfl,cr rfl,cr rfl⟩ ?_|refine zN ⟨m9,m9⟩ ?_|refine zN ⟨m9,m9,m9⟩ ?_|refine zN ⟨m9,m9,m9,m9⟩ ?_|refine aS ?_)
 refine⟨[0],?_,rfl,rfl,?_,rfl⟩
 ·(repeat'(first|exact trivial|exact sM|exact rS|exact tU|exact tV|refine aJ ?_ ?_|(refine wA ?_)|(refine pJ ?_)|(refine dM ?_ ?_)))<;>first|exact sM|exact rS|exact tU|exact tV|rfl|exact dh eP|exact iQ rfl eP eP|exact aY kW eP|exact ke kW kW rfl|exact lr eP|exact nG eP|exact Ia eP|exact AT eP|exact gw eP|exact DO eP|exact DP eP|exact Cf eP|skip
 ·(repeat'(first|exact trivial|exact sM|exact rS|exact tU|exact tV|refine aJ ?_ ?_|(refine wA ?_)|(refine pJ ?_)|(refine dM ?_ ?_)))<;>first|exact sM|exact rS|exact tU|exact tV|rfl|exact dh eP|exact iQ rfl eP eP|exact aY kW eP|exact ke kW kW rfl|exact lr eP|exact nG eP|exact Ia eP|exact AT eP|exact gw eP|exact DO eP|exact DP eP|exact Cf eP|skip
theorem f146:aQ 160 [] [] (.sl 0 0 80 1 ab) [dC 24 gQ]:=by
 refine aL (fn:=Tryz.f160) ?_;refine zp ?_;repeat(first|(refine fW _ (aJ Fl ?_);conv=>whnf)|refine zH (Fm rfl) ?_|refine zH (cK rfl IZ) ?_|refine zH (df rfl IZ) ?_|refine zW (iN rfl) ?_|refine zW (cO rfl) ?_|refine zW (bl bY) ?_|refine zW (bC bY) ?_|refine zW (du bY) ?_|refine zW (eV bY) ?_|refine zW (iN bY) ?_|refine zW (cO bY) ?_|refine zN ⟨cr rfl,cr rfl⟩ ?_|refine zN ⟨cr rfl,cr rfl,cr rfl,cr rfl⟩ ?_|refine zN ⟨m9,m9⟩ ?_|refine zN ⟨m9,m9,m9⟩ ?_|refine zN ⟨m9,m9,m9,m9⟩ ?_|refine aS ?_)
 refine⟨[0],?_,rfl,rfl,?_,rfl⟩
 ·(repeat'(first|exact trivial|exact sM|exact rS|exact tU|exact tV|refine aJ ?_ ?_|(refine wA ?_)|(refine pJ ?_)|(refine dM ?_ ?_)))<;>first|exact sM|exact rS|exact tU|exact tV|rfl|exact dh eP|exact iQ rfl eP eP|exact aY kW eP|exact ke kW kW rfl|exact lr eP|exact nG eP|exact Ia eP|exact AT eP|exact gw eP|exact DO eP|exact DP eP|exact Cf eP|skip
 ·(repeat'(first|exact trivial|exact sM|exact rS|exact tU|exact tV|refine aJ ?_ ?_|(refine wA ?_)|(refine pJ ?_)|(refine dM ?_ ?_)))<;>first|exact sM|exact rS|exact tU|exact tV|rfl|exact dh eP|exact iQ rfl eP eP|exact aY kW eP|exact ke kW kW rfl|exact lr eP|exact nG eP|exact Ia eP|exact AT eP|exact gw eP|exact DO eP|exact DP eP|exact Cf eP|skip
def jB:UInt64:=4294967296
def iL:UInt64:=1
theorem Pn(x:UInt64):x/jB=bO (up x):=by
 have h:=Mc x 0;apply dJ.1;have hx:=l6 x;rw [nL,mc];unfold up bh;rw [if_pos aw,UInt64.toNat_toUInt32,sr];show x.toNat/4294967296=(x.toNat>>>32)%2^32
 rw [np];show x.toNat/4294967296=x.toNat/4294967296%4294967296
 omega
theorem Pp(x:UInt64):x/iL=bS x:=by apply dJ.1;rw [nL];exact Nat.div_one _
theorem aco:gZ j9=fL.map (λx=>x/jB):=by unfold gZ j9;rw [List.map_map];apply qQ;intro x _;exact(Pn x).symm
theorem acp:hQ kH=fL.map (λx=>x/iL):=by unfold hQ kH;apply qQ;intro x _;exact(Pp x).symm
theorem ac9(t:Nat)(ht:t<64):gQ.getD t 0/jB=bO (iD.getD t 0):=by
 rw [Pn];congr 1;unfold iD;have hl:t<gQ.length:=by show t<80;omega
 rw [dk,dk,ky,ic ht,dy hl];rfl
theorem ada(t:Nat)(ht:t<80):gQ.getD t 0/iL=bS (i7.getD t 0):=Pp _
end Go.Sh
