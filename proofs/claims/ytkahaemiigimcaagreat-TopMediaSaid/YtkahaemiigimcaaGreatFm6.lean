/- Merged for a claim: V5, W3, W4, G3, G1, F1a, T1, E1, E2, E3, E4a, E6, E9a, E9, F2, F3, G4, G5, G6, G7, G8a, G8. -/
import Derived.Test.YtkahaemiigimcaaGreatFm5
set_option linter.unusedSimpArgs false
set_option linter.unusedVariables false
set_option maxHeartbeats 8000000
set_option maxRecDepth 100000
open Option renaming some->aa,none->ah,map_some->nq
open Bool renaming true->ab,false->af,false_eq_true->gE,eq_iff_iff->jq,or_eq_true->oy,not_false->wP
open List renaming take->aB,drop->aG,replicate->aK,length_append->aW,take_of_length_le->bW,drop_zero->cq,range->cQ,getD_eq_getElem?_getD->dk,length_map->dm,getElem?_eq_getElem->dy,getElem?_eq_none->dI,length_set->fJ,getElem?_drop->iS,map_cons->iT,map_take->iU,all_eq_true->jg,nil_append->jA,length_cons->jM,ext_getElem?->ku,getElem?_map->ky,length_replicate->kz,take_take->nK,cons_append->oz,getElem?_set->pQ,map_congr_left->qQ,map_nil->qR,getElem?_range->wR
open UInt64 renaming ofNat->aF,toNat_ofNat'->j5,toNat_add->lY,toNat_lt->l6,toNat_div->nL,toNat_mod->nM,toNat_toUInt8->oB,toNat_shiftRight->sr,toNat_mul->uu,toNat_shiftLeft->uv,toNat_and->wW,toNat->Be,toNat_or->Bg
open And renaming intro->aJ
open Int renaming toNat->aU,tmod_eq_emod_of_nonneg->sk
open Nat renaming le_refl->bH,zero_add->ig,le_trans->jP,sub_self->pR,add_zero->qT,pow_le_pow_right->uo,add_comm->vC,div_eq_of_lt->vD,lt_of_lt_of_le->wU
open UInt8 renaming ofNat->cX,toNat_lt->eQ
namespace Go.Sh
open Go.Proofs
theorem Tz{a b c:SV}{Y:List UInt8}(h:Y.length=12):bN [a,b,c,.u8 0,.u8 0,.u8 0,.u8 0,.u8 0,.u8 0,.u8 0,.u8 0,.u8 0,.u8 0,.u8 0,.u8 0] 3 (.agg (Y.map .u8))=a::b::c::Y.map .u8:=by
 have hl:(Y.map SV.u8).length=12:=by rw [dm,h]
 simp [bN,hl]
attribute [local irreducible] cS dF fD fZ
theorem FQ(K:UInt16)(A B C:Nat)(q66:aQ 39 [.u16 K] [] (.tup [iB 1 A B C 32,.i 0]) [])(hA:1<=A)(I:A<=48)(b:List UInt8)(h0:0<b.length)(h1:b.length<=1024)(f:Bool)(kid:UInt64):aM 5 [.u16 K,.sl 0 0 b.length 1 f,.u64 kid] [ak b] (.tup [.agg (.u16 K:: .u64 kid:: .sl 1 0 A 1 ab::((fD (cS [] b) (dL ia kid K) 1).take 12).map .u8),.i 0]) [aC 5 (fD (cS [] b) (dL iE kid K) ((A+(32-1))/32))]:=by
 have q:=PF K A B C q66 b h0 h1 f;have l:=tI [] b;have p1:=f116 iE aw kid K;have p2:=f116 ia aw kid K;have i1:=vQ iE kid K;have i2:=vQ ia kid K;have q2:=J0 (cS [] b) (dL iE kid K) ag CF A hA ag ab af;have q3:=J0 (cS [] b) (dL ia kid K) ag (by rw [i2];decide) 12 aw aw ab af;rw [l,i1]at q2;rw [show fD (cS [] b) (dL ia kid K) ((12+(32-1))/32)=fD (cS [] b) (dL ia kid K) 1 from rfl,l,i2]at q3;have l2:=pY (cS [] b) (dL iE kid K) ((A+(32-1))/32);have l3:=pY (cS [] b) (dL ia kid K) 1;obtain⟨X,hX⟩:=ax (cS [] b);rw [<-hX]at q q2 q3 l l2 l3|-;obtain⟨F,r⟩:=ax (dL iE kid K);obtain⟨G,u⟩:=ax (dL ia kid K);rw [<-r]at p1 q2 l2 i1|-;rw [<-u]at p2 q3 l3 i2|-;obtain⟨Y,hY⟩:=ax (fD X F ((A+(32-1))/32));obtain⟨W,hW⟩:=ax (fD X G 1);rw [<-hY]at q2 l2|-;rw [<-hW]at q3 l3|-;have l4:(W.take 12).length=12:=lu;have ht:aB (min 12 (12-0)*1) (aB (12*1) (aG 0 (W.map SV.u8)))=(W.take 12).map .u8:=by
  show aB 12 (aB 12 (W.map SV.u8))=_
  rw [nK,iU];rfl
 have hld:dz ab 15 (bN [.u16 K,.u64 kid,.sl 6 0 A 1 ab,.u8 0,.u8 0,.u8 0,.u8 0,.u8 0,.u8 0,.u8 0,.u8 0,.u8 0,.u8 0,.u8 0,.u8 0] 3 (.agg (aB (min 12 (12-0)*1) (aB (12*1) (aG 0 (W.map SV.u8)))))) 0=aa (.agg (.u16 K:: .u64 kid:: .sl 6 0 A 1 ab::(W.take 12).map .u8)):=by
  rw [ht,Tz l4];have hl2:(SV.u16 K:: .u64 kid:: .sl 6 0 A 1 ab::(W.take 12).map SV.u8).length=15:=by simp [l4];omega
  simp only [dz,if_true,cq];rw [if_pos ag,bW ag]
 clear hX r u hY hW;exact Wy
theorem aaB(K:UInt16)(A B C:Nat)(q66:aQ 39 [.u16 K] [] (.tup [iB 2 A B C 64,.i 0]) [])(hA:1<=A)(I:A<=48)(b:List UInt8)(h0:0<b.length)(h1:b.length<=1024)(f:Bool)(kid:UInt64):aM 5 [.u16 K,.sl 0 0 b.length 1 f,.u64 kid] [ak b] (.tup [.agg (.u16 K:: .u64 kid:: .sl 1 0 A 1 ab::((fZ (dF [] b) (dL ia kid K) 1).take 12).map .u8),.i 0]) [aC 5 (fZ (dF [] b) (dL iE kid K) ((A+(64-1))/64))]:=by
 have q:=PG K A B C q66 b h0 h1 f;have l:=BT [] b;have p1:=f116 iE aw kid K;have p2:=f116 ia aw kid K;have i1:=vQ iE kid K;have i2:=vQ ia kid K;have q2:=J1 (dF [] b) (dL iE kid K) ag CF A hA ag ab af;have q3:=J1 (dF [] b) (dL ia kid K) ag (by rw [i2];decide) 12 aw aw ab af;rw [l,i1]at q2;rw [show fZ (dF [] b) (dL ia kid K) ((12+(64-1))/64)=fZ (dF [] b) (dL ia kid K) 1 from rfl,l,i2]at q3;have l2:=tz (dF [] b) (dL iE kid K) ((A+(64-1))/64);have l3:=tz (dF [] b) (dL ia kid K) 1;obtain⟨X,hX⟩:=ax (dF [] b);rw [<-hX]at q q2 q3 l l2 l3|-;obtain⟨F,r⟩:=ax (dL iE kid K);obtain⟨G,u⟩:=ax (dL ia kid K);rw [<-r]at p1 q2 l2 i1|-;rw [<-u]at p2 q3 l3 i2|-;obtain⟨Y,hY⟩:=ax (fZ X F ((A+(64-1))/64));obtain⟨W,hW⟩:=ax (fZ X G 1);rw [<-hY]at q2 l2|-;rw [<-hW]at q3 l3|-;have l4:(W.take 12).length=12:=lu;have ht:aB (min 12 (12-0)*1) (aB (12*1) (aG 0 (W.map SV.u8)))=(W.take 12).map .u8:=by
  show aB 12 (aB 12 (W.map SV.u8))=_
  rw [nK,iU];rfl
 have hld:dz ab 15 (bN [.u16 K,.u64 kid,.sl 6 0 A 1 ab,.u8 0,.u8 0,.u8 0,.u8 0,.u8 0,.u8 0,.u8 0,.u8 0,.u8 0,.u8 0,.u8 0,.u8 0] 3 (.agg (aB (min 12 (12-0)*1) (aB (12*1) (aG 0 (W.map SV.u8)))))) 0=aa (.agg (.u16 K:: .u64 kid:: .sl 6 0 A 1 ab::(W.take 12).map .u8)):=by
  rw [ht,Tz l4];have hl2:(SV.u16 K:: .u64 kid:: .sl 6 0 A 1 ab::(W.take 12).map SV.u8).length=15:=by simp [l4];omega
  simp only [dz,if_true,cq];rw [if_pos ag,bW ag]
 clear hX r u hY hW;exact Wy
end Go.Sh
namespace Go.Sh
open Go.Proofs
variable{s:UInt16}
def gT(s:UInt16):Nat:=match s.toNat with|4=>16|5=>32|_=>48
def Zx(s:UInt16):Nat:=match s.toNat with|5=>32|_=>16
def dH(s:UInt16):Nat:=match s.toNat with|1=>10|2=>8|3=>4|_=>16
def uO(s:UInt16):Nat:=match s.toNat with|5=>64|_=>32
def hId(s:UInt16):UInt8:=match s.toNat with|5=>2|_=>1
def ra(s:UInt16)(b:List UInt8):List UInt8:=match s.toNat with|5=>fZ (dF [] b) pE 1|_=>fD (cS [] b) pE 1
def Dt(s:UInt16)(kid:UInt64)(b:List UInt8):List UInt8:=match s.toNat with|5=>fZ (dF [] b) (dL iE kid s) 1|4=>fD (cS [] b) (dL iE kid s) 1|_=>fD (cS [] b) (dL iE kid s) 2
def dP(s:UInt16)(kid:UInt64)(b:List UInt8):List UInt8:=match s.toNat with|5=>(fZ (dF [] b) (dL ia kid s) 1).take 12|_=>(fD (cS [] b) (dL ia kid s) 1).take 12
theorem qG(h:1<=s.toNat)(h2:s.toNat<=5):s=1\/s=2\/s=3\/s=4\/s=5:=by
 have e:∀n:UInt16,s.toNat=n.toNat->s=n:=λn h=>UInt16.toNat_inj.1 h
 rcases(by omega:s.toNat=1\/s.toNat=2\/s.toNat=3\/s.toNat=4\/s.toNat=5)with h|h|h|h|h
 .exact .inl (e 1 h)
 .exact .inr (.inl (e 2 h))
 .exact .inr (.inr (.inl (e 3 h)))
 .exact .inr (.inr (.inr (.inl (e 4 h))))
 .exact .inr (.inr (.inr (.inr (e 5 h))))
theorem DS(s:UInt16)(kid:UInt64)(b:List UInt8):(dP s kid b).length=12:=by unfold dP;split<;>simp [pY,tz]
theorem Fi(s:UInt16)(b:List UInt8):(ra s b).length=uO s:=by unfold ra uO;split<;>simp [pY,tz]
theorem afq(h:1<=s.toNat)(h2:s.toNat<=5):aQ 39 [.u16 s] [] (.tup [iB (hId s) (gT s) (Zx s) (dH s) (uO s),.i 0]) []:=by
 rcases qG h h2 with rfl|rfl|rfl|rfl|rfl
 .exact By
 .exact Bz
 .exact BA
 .exact BB
 .exact BC
theorem Yl(h:1<=s.toNat)(h2:s.toNat<=5)(b:List UInt8)(h0:0<b.length)(h1:b.length<=1024)(f:Bool):aM 144 [.u16 s,.sl 0 0 b.length 1 f] [ak b] (.tup [.sl 1 0 (uO s) 1 ab,.i 0]) [aC 5 (ra s b)]:=by
 rcases qG h h2 with rfl|rfl|rfl|rfl|rfl
 .exact FR 1 48 16 10 By b h0 h1 f
 .exact FR 2 48 16 8 Bz b h0 h1 f
 .exact FR 3 48 16 4 BA b h0 h1 f
 .exact FR 4 16 16 16 BB b h0 h1 f
 .exact aaC 5 32 32 16 BC b h0 h1 f
theorem Jy(h:1<=s.toNat)(h2:s.toNat<=5)(b:List UInt8)(h0:0<b.length)(h1:b.length<=1024)(f:Bool)(kid:UInt64):aM 5 [.u16 s,.sl 0 0 b.length 1 f,.u64 kid] [ak b] (.tup [.agg (.u16 s:: .u64 kid:: .sl 1 0 (gT s) 1 ab::(dP s kid b).map .u8),.i 0]) [aC 5 (Dt s kid b)]:=by
 rcases qG h h2 with rfl|rfl|rfl|rfl|rfl
 .exact FQ 1 48 16 10 By ag ag b h0 h1 f kid
 .exact FQ 2 48 16 8 Bz ag ag b h0 h1 f kid
 .exact FQ 3 48 16 4 BA ag ag b h0 h1 f kid
 .exact FQ 4 16 16 16 BB ag ag b h0 h1 f kid
 .exact aaB 5 32 32 16 BC ag ag b h0 h1 f kid
abbrev g1(g:UInt64):UInt64:=g+aF (aU 1)
theorem KV(h:1<=s.toNat)(h2:s.toNat<=5)(p:UInt64)(b:Nat)(g:UInt64)(D:List UInt8)(h0:0<D.length)(h1:D.length<=1024)(f:Bool):aM 111 [.agg (nZ s p b g 0 D.length f)] [ak D] (.agg (nZ s p b (g1 g) 1 (uO s) ab)) [aC 5 (ra s D)]:=by have q:=Yl h h2 D h0 h1 f;refine aL (fn:=Tryz.f111) ?_;refine zM ?_;refine zW (aE [0] [ab,ab] af q) ?_;refine NK ?_;exact bE [0,3]
theorem aeV(h:1<=s.toNat)(h2:s.toNat<=5)(p:UInt64)(b:Nat)(g:UInt64)(D:List UInt8)(h0:0<D.length)(h1:D.length<=1024)(f:Bool):aM 106 [.agg (nZ s p b g 0 D.length f)] [ak D] (.agg (.u16 s:: .u64 (aV p b g):: .sl 1 0 (gT s) 1 ab::(dP s (aV p b g) D).map .u8)) [aC 5 (Dt s (aV p b g) D)]:=by
 have q:=Jy h h2 D h0 h1 f (aV p b g);obtain⟨X,hX⟩:=ax (dP s (aV p b g) D);obtain⟨Y,hY⟩:=ax (Dt s (aV p b g) D);obtain⟨k,hk⟩:=ax (gT s);have lX:X.length=12:=EL;rw [<-hX,<-hY,<-hk]at q|-;refine aL (fn:=Tryz.f106) ?_;refine zp ?_;refine yj ?_;refine zW (aE [0] [ab] af ((aeY s p b g D f))) ?_;refine oN [0] [ak D,aC 5 Y] (.tup [.agg (.u16 s:: .u64 (aV p b g):: .sl 3 0 k 1 ab::X.map .u8),.i 0]) (q) rfl rfl ⟨⟨rfl,az⟩,bU,bU,EF,?_⟩;conv=>whnf
 repeat(first|refine zH (cK rfl NW) ?_|refine zH (df rfl NW) ?_|refine aS ?_)
 exact bE [0,3]
end Go.Sh
namespace Go.Sh
variable{l:List UInt8}
def cN(x:UInt64)(i:Nat):Bool:=x.toNat.testBit i
theorem Fe(x y:UInt64)(i:Nat):cN (x|||y) i=(cN x i||cN y i):=by unfold cN;rw [Bg,Nat.testBit_or]
theorem Fb(x y:UInt64)(i:Nat):cN (x&&&y) i=(cN x i&&cN y i):=by unfold cN;rw [wW,Nat.testBit_and]
theorem Ji(x y:UInt64)(i:Nat):cN (x^^^y) i=(cN x i^^cN y i):=by unfold cN;rw [UInt64.toNat_xor,Nat.testBit_xor]
theorem CR(x:UInt64)(i:Nat)(h:64<=i):cN x i=af:=by unfold cN;apply Nat.testBit_lt_two_pow;exact wU (l6 x) (uo aw h)
theorem w6(x:UInt64)(n i:Nat)(h:n<64):cN (bh x n) i=cN x (n+i):=by unfold cN bh;rw [if_pos h,sr,j5,Nat.testBit_shiftRight];congr 2;omega
theorem CS(x:UInt64)(n i:Nat)(h:n<64):cN (dr x n) i=(decide (i<64)&&decide (n<=i)&&cN x (i-n)):=by unfold cN dr;rw [if_pos h,uv,j5,show n%2^64%64=n by omega,Nat.testBit_mod_two_pow,Nat.testBit_shiftLeft,Bool.and_assoc]
theorem Fc{x y:UInt64}(h:∀i,i<64->cN x i=cN y i):x=y:=by
 apply UInt64.toNat_inj.mp;apply Nat.eq_of_testBit_eq;intro i;by_cases hi:i<64
 .exact h i hi
 .have h1:=CR x i ag;have h2:=CR y i ag;unfold cN at h1 h2;rw [h1,h2]
theorem CU(i:Nat):cN 0 i=af:=by unfold cN;exact Nat.zero_testBit i
def nE(s:Nat)(m:UInt64)(x:UInt64):UInt64:=(bh x s&&&m)|||dr (x&&&m) s
theorem CT(s:Nat)(m x:UInt64)(hs:s<64)(hm:∀i,i<64->cN m i=decide (i/s%2=0))(i:Nat)(hi:i<64)(h0:0<s):cN (nE s m x) i=cN x (if i/s%2=0 then i+s else i-s):=by
 unfold nE;rw [Fe,Fb,w6 _ _ _ hs,CS _ _ _ hs,Fb,hm i hi];by_cases h:i/s%2=0
 .have e:(decide (i<64)&&decide (s<=i)&&(cN x (i-s)&&cN m (i-s)))=af:=by
   by_cases r:s<=i
   .rw [hm (i-s) ag];have:¬(i-s)/s%2=0:=by
     have e1:(i-s)/s=i/s-1:=by have:=Nat.sub_mul_div i s 1;exact pK
     have:1<=i/s:=(Nat.one_le_div_iff h0).2 r;omega
    simp [this]
   .simp [r]
  rw [e,if_pos h];simp [h,vC]
 .rw [if_neg h];have r:s<=i:=by apply Decidable.byContradiction;intro hn;exact h (by rw [vD (by omega)])
  rw [hm (i-s) ag];have e1:(i-s)/s=i/s-1:=by have:=Nat.sub_mul_div i s 1;exact pK
  have h3:(i-s)/s%2=0:=by have:1<=i/s:=(Nat.one_le_div_iff h0).2 r;omega
  simp [h,h3,r,hi]
def LX(x:UInt64):UInt64:=bh (nE 16 281470681808895 (nE 8 71777214294589695 x)) 32|||dr (nE 16 281470681808895 (nE 8 71777214294589695 x)) 32
def mS(x:UInt64):UInt64:=LX (nE 4 1085102592571150095 (nE 2 3689348814741910323 (nE 1 6148914691236517205 x)))
theorem m1:∀i,i<64->cN 6148914691236517205 i=decide (i/1%2=0):=by decide+kernel
theorem m2:∀i,i<64->cN 3689348814741910323 i=decide (i/2%2=0):=by decide+kernel
theorem m4:∀i,i<64->cN 1085102592571150095 i=decide (i/4%2=0):=by decide+kernel
theorem m8:∀i,i<64->cN 71777214294589695 i=decide (i/8%2=0):=by decide+kernel
theorem m16:∀i,i<64->cN 281470681808895 i=decide (i/16%2=0):=by decide+kernel
def sx(s i:Nat):Nat:=if i/s%2=0 then i+s else i-s
theorem HJ:∀i,i<64->sx 1 i<64/\sx 2 i<64/\sx 4 i<64/\sx 8 i<64/\sx 16 i<64:=by decide+kernel
theorem ajF:∀i,i<64->sx 1 (sx 2 (sx 4 (sx 8 (sx 16 (if i<32 then i+32 else i-32)))))=63-i:=by decide+kernel
theorem Ff(x:UInt64)(i:Nat)(hi:i<64):cN (mS x) i=cN x (63-i):=by
 unfold mS LX;obtain⟨y,hy⟩:=ax (nE 16 281470681808895 (nE 8 71777214294589695 (nE 4 1085102592571150095 (nE 2 3689348814741910323 (nE 1 6148914691236517205 x)))));have h16:∀j,j<64->cN y j=cN x (sx 1 (sx 2 (sx 4 (sx 8 (sx 16 j))))):=by
  intro j hj;have r:=(HJ j hj).2.2.2.2;have F:=(HJ _ r).2.2.2.1;have u:=(HJ _ F).2.2.1;have a2:=(HJ _ u).2.1;rw [hy,CT 16 _ _ aw m16 j hj aw];show cN _ (sx 16 j)=_
  rw [CT 8 _ _ aw m8 _ r aw];show cN _ (sx 8 (sx 16 j))=_
  rw [CT 4 _ _ aw m4 _ F aw];show cN _ (sx 4 (sx 8 (sx 16 j)))=_
  rw [CT 2 _ _ aw m2 _ u aw];show cN _ (sx 2 (sx 4 (sx 8 (sx 16 j))))=_
  rw [CT 1 _ _ aw m1 _ a2 aw];rfl
 rw [<-hy,<-ajF i hi];rw [Fe,w6 _ _ _ aw,CS _ _ _ aw];by_cases h:i<32
 .rw [if_pos h,<-h16 _ ag];have:decide (32<=i)=af:=aA;rw [this];simp [vC]
 .rw [if_neg h,<-h16 _ ag];have h1:=CR y (32+i) ag;have:decide (32<=i)=ab:=aA;rw [h1,this];simp [hi]
open Go.Proofs
theorem f107(x:UInt64):aQ 197 [.u64 x] [] (.u64 (LX x)) []:=by refine aL (fn:=Tryz.f197) ?_;refine zu ?_;exact gI
theorem ER(x:UInt64):aQ 184 [.u64 x] [] (.u64 (mS x)) []:=by refine aL (fn:=Tryz.f184) ?_;refine zu ?_;refine zW (cP [] (f107 (nE 4 1085102592571150095 (nE 2 3689348814741910323 (nE 1 6148914691236517205 x))))) ?_;exact gI
theorem f91(a b c d:UInt64):aQ 152 [.agg [.u64 a,.u64 b],.agg [.u64 c,.u64 d]] [] (.agg [.u64 (a^^^c),.u64 (b^^^d)]) []:=by refine aL (fn:=Tryz.f152) ?_;refine zu ?_;exact xU
def oL(a b c d:UInt8):List UInt8:=
 if d+1≠0 then [a,b,c,d+1]else if c+1≠0 then [a,b,c+1,d+1]else if b+1≠0 then [a,b+1,c+1,d+1]else [a+1,b+1,c+1,d+1]
def rK(l:List UInt8):List UInt8:=l.take 12++oL (l.getD 12 0) (l.getD 13 0) (l.getD 14 0) (l.getD 15 0)
theorem acP(a b c d:UInt8):(oL a b c d).length=4:=by unfold oL;split<;>(try split)<;>(try split)<;>rfl
theorem Rn(h:l.length=16):(rK l).length=16:=by unfold rK;rw [aW,acP];simp;omega
def zg(a b c d:UInt8):Nat:=((a.toNat*256+b.toNat)*256+c.toNat)*256+d.toNat
def Jt(n:Nat):List UInt8:= [cX (n/16777216),cX (n/65536%256),cX (n/256%256),cX (n%256)]
theorem Ct(x:UInt8):(x+1).toNat=(x.toNat+1)%256:=by rw [UInt8.toNat_add];rfl
theorem aj6(x:UInt8):x+1≠0↔x.toNat≠255:=by
 have hx:x.toNat<256:=eQ _;constructor
 .intro h e;apply h;apply UInt8.toNat_inj.mp;rw [Ct,e];rfl
 .intro h e;have:=congrArg UInt8.toNat e;rw [Ct]at this;simp at this;omega
theorem acQ(a b c d:UInt8):oL a b c d=Jt ((zg a b c d+1)%4294967296):=by
 have r:a.toNat<256:=eQ _;have hb:b.toNat<256:=eQ _;have hc:c.toNat<256:=eQ _;have hd:d.toNat<256:=eQ _;have e:∀(x:UInt8) (n:Nat),x.toNat=n%256->x=cX n:=λx n h=>by apply UInt8.toNat_inj.mp;rw [h];simp
 unfold oL Jt zg;simp only [aj6];split
 .simp only [List.cons.injEq,and_true];refine⟨e _ _ ?_,e _ _ ?_,e _ _ ?_,e _ _ ?_⟩<;>(try rw [Ct])<;>omega
 .split
  .simp only [List.cons.injEq,and_true];refine⟨e _ _ ?_,e _ _ ?_,e _ _ ?_,e _ _ ?_⟩<;>(try rw [Ct])<;>omega
  .split
   .simp only [List.cons.injEq,and_true];refine⟨e _ _ ?_,e _ _ ?_,e _ _ ?_,e _ _ ?_⟩<;>(try rw [Ct])<;>omega
   .simp only [List.cons.injEq,and_true];refine⟨e _ _ ?_,e _ _ ?_,e _ _ ?_,e _ _ ?_⟩<;>(try rw [Ct])<;>omega
theorem f85(x:UInt8):aQ 84 [.u8 x] [] (.u8 (oe x 1^^^(wk x 7*27))) []:=by refine aL (fn:=Tryz.f84) ?_;refine zW (mV dw fq rfl) ?_;exact gI
def iz(x:UInt8):UInt8:=oe x 1^^^(wk x 7*27)
def iu:Nat->UInt8×List UInt8×List Int
 |0=>(1,aK 255 0,aK 256 0)
 |i+1=>((iu i).1^^^iz (iu i).1,(iu i).2.1.set i (iu i).1,(iu i).2.2.set (iu i).1.toNat (i:Int))
theorem QY:∀i,(iu i).2.1.length=255/\(iu i).2.2.length=256
 |0=>⟨kz,kz⟩
 |i+1=>by
  have h:=QY i;exact⟨(fJ ..).trans h.1,(fJ ..).trans h.2⟩
theorem QX(i:Nat):(iu (i+1)).1=(iu i).1^^^iz (iu i).1:=rfl
theorem lg2(i:Nat):(iu (i+1)).2.1=(iu i).2.1.set i (iu i).1:=rfl
theorem lg3(i:Nat):(iu (i+1)).2.2=(iu i).2.2.set (iu i).1.toNat (i:Int):=rfl
theorem KQ:iu 0=(1,aK 255 0,aK 256 0):=rfl
attribute [irreducible] iu
theorem f100:aQ 119 [] [] (.tup [.agg ((iu 255).2.1.map .u8),.agg ((iu 255).2.2.map .i)]) []:=by
 refine aL (fn:=Tryz.f119) ?_;refine zu ?_;refine bT 255 (λi=> [(0,.p 0 0),(1,.p 1 0),(2,.u8 (iu i.1).1),(4,.i (i.1:Int))]) (λi=> [al ((iu i.1).2.1.map .u8),al ((iu i.1).2.2.map .i)]) 2 ?_ ?_
 .refine cl.sel [0,1] rfl rfl ⟨rfl,rfl,?_,rfl,trivial⟩ ⟨?_,?_,trivial⟩ rfl rfl
  .show bG _ (.u8 (iu 0).1)=_
   rw [KQ];rfl
  .show bu _ ((iu 0).2.1.map .u8)=aa (aK 255 (.u8 0))
   rw [KQ];exact sM
  .show bu _ ((iu 0).2.2.map .i)=aa (aK 256 (.i 0))
   rw [KQ];exact rS
 .rintro⟨i,hi⟩;obtain⟨u,l2⟩:=QY i;refine nH ?_;refine⟨λhc=>?_,λhc=>?_⟩
  .have r:i<255:=ov;have hx:(iu i).1.toNat<256:=eQ _;have hw:au ((i:Int)+1)=((i+1:Nat):Int):=cp;have g2:=lg2 i;have g3:=lg3 i;conv=>whnf
   refine Ny ?_;refine zW (cP [] (f85 (iu i).1)) ?_;refine zC ?_;refine bP [0,1] ?_ ?_
   ·(repeat'(first|exact trivial|refine aJ ?_ ?_))<;>first|rfl|exact dh (by first|rfl|exact hw.symm)|exact nG (by first|(simp [hw,QX,iz,g2,g3];done))
   ·(repeat'(first|exact trivial|refine aJ ?_ ?_))<;>first|exact aY CG (by first|(simp [hw,QX,iz,g2,g3];done))
  .have r:i=255:=ov;subst r;conv=>whnf
   repeat(first|refine zH (cK rfl (by first|rfl|(simp [u,l2];done))) ?_|refine zH (df rfl (by first|rfl)) ?_|refine aS ?_)
   refine⟨[],?_,rfl,rfl,?_,rfl⟩
   ·(repeat'(first|(refine wA ?_)|(refine pJ ?_)|(refine dM ?_ ?_)))<;>first|rfl|exact aY CG (by first|rfl)
   .exact zo
def Az:List UInt8:= [1,3,5,15,17,51,85,255,26,46,114,150,161,248,19,53,95,225,56,72,216,115,149,164,247,2,6,10,30,34,102,170,229,52,92,228,55,89,235,38,106,190,217,112,144,171,230,49,83,245,4,12,20,60,68,204,79,209,104,184,211,110,178,205,76,212,103,169,224,59,77,215,98,166,241,8,24,40,120,136,131,158,185,208,107,189,220,127,129,152,179,206,73,219,118,154,181,196,87,249,16,48,80,240,11,29,39,105,187,214,97,163,254,25,43,125,135,146,173,236,47,113,147,174,233,32,96,160,251,22,58,78,210,109,183,194,93,231,50,86,250,21,63,65,195,94,226,61,71,201,64,192,91,237,44,116,156,191,218,117,159,186,213,100,172,239,42,126,130,157,188,223,122,142,137,128,155,182,193,88,232,35,101,175,234,37,111,177,200,67,197,84,252,31,33,99,165,244,7,9,27,45,119,153,176,203,70,202,69,207,74,222,121,139,134,145,168,227,62,66,198,81,243,14,18,54,90,238,41,123,141,140,143,138,133,148,167,242,13,23,57,75,221,124,132,151,162,253,28,36,108,180,199,82,246]
def tH:List Int:= [0,0,25,1,50,2,26,198,75,199,27,104,51,238,223,3,100,4,224,14,52,141,129,239,76,113,8,200,248,105,28,193,125,194,29,181,249,185,39,106,77,228,166,114,154,201,9,120,101,47,138,5,33,15,225,36,18,240,130,69,53,147,218,142,150,143,219,189,54,208,206,148,19,92,210,241,64,70,131,56,102,221,253,48,191,6,139,98,179,37,226,152,34,136,145,16,126,110,72,195,163,182,30,66,58,107,40,84,250,133,61,186,43,121,10,21,155,159,94,202,78,212,172,229,243,115,167,87,175,88,168,80,244,234,214,116,79,174,233,213,231,230,173,232,44,215,117,122,235,22,11,245,89,203,95,176,156,169,81,160,127,12,246,111,23,196,73,236,216,67,31,45,164,118,123,183,204,187,62,90,251,96,177,134,59,82,161,108,170,85,41,157,151,178,135,144,97,190,220,252,188,149,207,205,55,63,91,209,83,57,132,60,65,162,109,71,20,42,158,93,86,242,211,171,68,17,146,217,35,32,46,137,180,124,184,38,119,153,227,165,103,74,237,222,197,49,254,24,13,99,140,128,192,247,112,7]
def cD:List UInt8:= [99,124,119,123,242,107,111,197,48,1,103,43,254,215,171,118,202,130,201,125,250,89,71,240,173,212,162,175,156,164,114,192,183,253,147,38,54,63,247,204,52,165,229,241,113,216,49,21,4,199,35,195,24,150,5,154,7,18,128,226,235,39,178,117,9,131,44,26,27,110,90,160,82,59,214,179,41,227,47,132,83,209,0,237,32,252,177,91,106,203,190,57,74,76,88,207,208,239,170,251,67,77,51,133,69,249,2,127,80,60,159,168,81,163,64,143,146,157,56,245,188,182,218,33,16,255,243,210,205,12,19,236,95,151,68,23,196,167,126,61,100,93,25,115,96,129,79,220,34,42,144,136,70,238,184,20,222,94,11,219,224,50,58,10,73,6,36,92,194,211,172,98,145,149,228,121,231,200,55,109,141,213,78,169,108,86,244,234,101,122,174,8,186,120,37,46,28,166,180,198,232,221,116,31,75,189,139,138,112,62,181,102,72,3,246,14,97,53,87,185,134,193,29,158,225,248,152,17,105,217,142,148,155,30,135,233,206,85,40,223,140,161,137,13,191,230,66,104,65,153,45,15,176,84,187,22]
theorem ag2:(iu 255).2.1=Az:=by kernel_rfl
theorem adH:(iu 255).2.2=tH:=by kernel_rfl
theorem adG:tH.all (λn=>decide (0<=n/\n<=254))=ab:=by kernel_rfl
theorem Sz:Az.length=255:=by kernel_rfl
theorem KR:tH.length=256:=by kernel_rfl
theorem tY:cD.length=256:=by kernel_rfl
def rT(y:UInt8):UInt8:=oe y 1|||wk y 7
def EW(y:UInt8):UInt8:=99^^^y^^^rT y^^^rT (rT y)^^^rT (rT (rT y))^^^rT (rT (rT (rT y)))
def Bm(i:Nat):UInt8:=if 0<i then Az.getD ((255-(tH.getD i 0).toNat)%255) 0 else 0
def vI:Nat->List UInt8
 |0=>aK 256 0
 |i+1=>(vI i).set i (EW (Bm i))
theorem Yz:vI 256=cD:=by kernel_rfl
theorem OJ:∀i,(vI i).length=256
 |0=>kz
 |i+1=>(fJ ..).trans (OJ i)
theorem Yy(i:Nat):vI (i+1)=(vI i).set i (EW (Bm i)):=rfl
theorem Yx:vI 0=aK 256 0:=rfl
attribute [irreducible] vI Az tH cD
theorem adI(i:Nat)(h:i<256):∃v:Nat,tH.getD i 0=(v:Int)/\v<=254:=by
 have hm:=jg.1 adG (tH.getD i 0) (by
  rw [dk,dy (by rw [KR];exact h)];exact List.getElem_mem _)
 simp only [decide_eq_true_eq]at hm;exact⟨(tH.getD i 0).toNat,ag,ag⟩
theorem f80:aQ 82 [] [] (.agg (cD.map .u8)) []:=by
 have r:=f100;rw [ag2,adH]at r;have O:=Sz;have I:=KR;refine aL (fn:=Tryz.f82) ?_;refine zu ?_;refine zW (aE [] [ab,ab,ab,ab,ab,ab,ab,ab,ab,ab,ab,ab] ab r) ?_;repeat(first|refine zH (df rfl qM) ?_|refine aS ?_)
 refine bT 256 (λi=> [(0,.p 0 0),(1,.p 1 0),(2,.p 2 0),(3,.p 3 0),(11,.i (i.1:Int))]) (λi=> [al (aK 256 (.u8 0)),dn Az,al (tH.map .i),dn (vI i.1)]) 4 ?_ ?_
 .refine bP [0,1,2,3] ?_ ?_
  .exact zo
  ·(repeat'(first|exact trivial|refine aJ ?_ ?_|(refine dM ?_ ?_)))<;>first|rfl|exact aY CG (by first|rfl|(simp [Yx,Sz,KR];done))
 .rintro⟨i,hi⟩;have l3:=OJ i;refine nH ?_;refine⟨λhc=>?_,λhc=>?_⟩
  .have F:i<256:=ov;have hw:au ((i:Int)+1)=((i+1:Nat):Int):=cp;obtain⟨v,hv,G⟩:=adI i F;have hw2:(au (255-tH.getD i 0)).tmod 255=(((255-v)%255:Nat):Int):=by rw [hv,AQ ag ag];rw [sk ag];omega
   have hb:=Yy i;by_cases h0:0<i
   .have u:Bm i=Az.getD ((255-v)%255) 0:=by unfold Bm;first|(rw [if_pos h0,hv];rfl)
    rw [u]at hb;conv=>whnf
    refine zW (du aA) ?_;repeat(first|refine zH (bg (m:=i) (by first|rfl)) ?_|refine zH (vo (i:=i) (by first|rfl|(simp;done)) (by first|omega)) ?_|refine zH (cU (i:=(255-v)%255) (by first|rfl|(simp;done)) (by first|omega)) ?_|refine zH (bg (m:=(255-v)%255) (by first|rfl|omega)) ?_|refine aS ?_)
    obtain⟨y,hy⟩:=ax (Az.getD ((255-v)%255) 0);refine zW (pC dw fq bD 6) ?_;refine Ny ?_;refine zC ?_;refine bP [0,1,2,3] ?_ ?_
    ·(repeat'(first|exact trivial|refine aJ ?_ ?_))<;>first|rfl|exact dh (by first|exact hw.symm)
    ·(repeat'(first|exact trivial|refine aJ ?_ ?_|(refine dM ?_ ?_)))<;>first|rfl|exact aY CG (by first|rfl|(simp [hw,hb,EW,rT];done))
   .have u:Bm i=0:=by unfold Bm;first|rw [if_neg h0]
    rw [u]at hb;conv=>whnf
    refine zW (eV aA) ?_;obtain⟨y,hy⟩:=ax (0);refine zW (pC dw fq bD 6) ?_;refine Ny ?_;refine zC ?_;refine bP [0,1,2,3] ?_ ?_
    ·(repeat'(first|exact trivial|refine aJ ?_ ?_))<;>first|rfl|exact dh (by first|exact hw.symm)
    ·(repeat'(first|exact trivial|refine aJ ?_ ?_|(refine dM ?_ ?_)))<;>first|rfl|exact aY CG (by first|rfl|(simp [hw,hb,EW,rT];done))
  .have F:i=256:=ov;subst F;conv=>whnf
   repeat(first|refine zH (cK rfl (by first|rfl|(simp [l3];done))) ?_|refine zH (df rfl (by first|rfl|(simp [l3];done))) ?_|refine aS ?_)
   rw [Yz];refine⟨[],?_,rfl,rfl,?_,rfl⟩
   ·(repeat'(first|(refine pJ ?_)))<;>first|exact aY CG (by first|rfl)
   .exact zo
def sb(x:UInt8):UInt8:=cD.getD x.toNat 0
def pV(n:Nat)(fl:Bool):SB:= .ro (cD.map .u8++ [.sl 1 0 n 4 fl])
def pW(w:List UInt8):SB:= .ro (w.map .u8)
theorem f84(a b c d:UInt8)(n:Nat)(fl:Bool)(w:List UInt8):aM 83 [.p 0 0,.agg [.u8 a,.u8 b,.u8 c,.u8 d]] [aa (pV n fl),aa (pW w)] (.agg [.u8 (sb a),.u8 (sb b),.u8 (sb c),.u8 (sb d)]) []:=by
 have hl:=tY;have r:a.toNat<256:=eQ _;have hb:b.toNat<256:=eQ _;have hc:c.toNat<256:=eQ _;have hd:d.toNat<256:=eQ _;unfold pV pW;refine aL (fn:=Tryz.f83) ?_;refine zu ?_;refine yl ?_;refine wD ?_;repeat(first|refine zH (cK rfl az) ?_|refine zH (df rfl az) ?_|refine zH (HA (i:=a.toNat) kW ag) ?_|refine zH (HA (i:=b.toNat) kW ag) ?_|refine zH (HA (i:=c.toNat) kW ag) ?_|refine zH (HA (i:=d.toNat) kW ag) ?_|refine aS ?_)
 exact jy
theorem f86(a b c d a2 r u F:UInt8):aQ 85 [.agg [.u8 a,.u8 b,.u8 c,.u8 d],.agg [.u8 a2,.u8 r,.u8 u,.u8 F]] [] (.agg [.u8 (a^^^a2),.u8 (b^^^r),.u8 (c^^^u),.u8 (d^^^F)]) []:=by refine aL (fn:=Tryz.f85) ?_;refine zu ?_;refine yl ?_;refine wD ?_;exact xU
def mx(a b c d:UInt8):UInt8:=a^^^(a^^^b^^^c^^^d)^^^iz (a^^^b)
theorem f88(a b c d:UInt8):aQ 157 [.agg [.u8 a,.u8 b,.u8 c,.u8 d]] [] (.agg [.u8 (a^^^(a^^^b^^^c^^^d)^^^iz (a^^^b)),.u8 (b^^^(a^^^b^^^c^^^d)^^^iz (b^^^c)),.u8 (c^^^(a^^^b^^^c^^^d)^^^iz (c^^^d)),.u8 (d^^^(a^^^b^^^c^^^d)^^^iz (d^^^a))]) []:=by refine aL (fn:=Tryz.f157) ?_;refine zu ?_;refine Ex ?_;refine wD ?_;refine zl ?_;refine zW (cP [] (f85 (a^^^b))) ?_;refine zl ?_;refine zW (cP [] (f85 (b^^^c))) ?_;refine zc ?_;refine zW (cP [] (f85 (c^^^d))) ?_;refine zc ?_;refine zW (cP [] (f85 (d^^^a))) ?_;exact xU
theorem f48(n:Nat)(hn:n<1000000000)(fl:Bool)(w:List UInt8):aM 155 [.p 0 0] [aa (pV n fl),aa (pW w)] (.i ((n/4:Nat)-1:Int)) []:=by
 have hl:=tY;have he:au (au ((n:Int).tdiv 4)-1)=((n/4:Nat):Int)-1:=by rw [Int.tdiv_eq_ediv_of_nonneg ag];exact t8
 unfold pV pW;refine aL (fn:=Tryz.f155) ?_;refine zu ?_;repeat(first|refine zH (lR m0) ?_|refine zf ?_)
 refine⟨[0,1],?_,rfl,rfl,?_,rfl⟩
 ·(repeat'(fail))<;>first|exact dh (by exact he.symm)|fail
 .exact zo
theorem f87(n:Nat)(fl:Bool)(w:List UInt8)(l:List UInt8):aM 156 [.p 0 0,.agg (l.map .u8)] [aa (pV n fl),aa (pW w)] (.fn 185 [.p 3 0,.p 2 0]) [al [.p 0 0],dn l]:=by unfold pV pW;refine aL (fn:=Tryz.f156) ?_;refine zu ?_;exact bE [0,1,2,3]
def Rf:List UInt8->List UInt8
 | [a,b,c,d]=> [a^^^(a^^^b^^^c^^^d)^^^iz (a^^^b),b^^^(a^^^b^^^c^^^d)^^^iz (b^^^c),c^^^(a^^^b^^^c^^^d)^^^iz (c^^^d),d^^^(a^^^b^^^c^^^d)^^^iz (d^^^a)]
 |l=>l
def AV:List UInt8->List UInt8->List UInt8
 |a::l,b::m=>(a^^^b)::AV l m
 |_,_=> []
def rI(s:List UInt8)(i:Nat):List UInt8:= [sb (s.getD (4*i) 0),sb (s.getD (4*((i+1)%4)+1) 0),sb (s.getD (4*((i+2)%4)+2) 0),sb (s.getD (4*((i+3)%4)+3) 0)]
def wz(w:List UInt8)(i:Nat):List UInt8:= [w.getD (4*i) 0,w.getD (4*i+1) 0,w.getD (4*i+2) 0,w.getD (4*i+3) 0]
def eO(r:Bool)(w:List UInt8)(n:Nat)(s:List UInt8)(i:Nat):List UInt8:=AV (if r then rI s i else Rf (rI s i)) (wz w (4*n+i))
def sO(r:Bool)(w:List UInt8)(n:Nat)(s:List UInt8):List UInt8:=eO r w n s 0++eO r w n s 1++eO r w n s 2++eO r w n s 3
def iH(w:List UInt8)(R:Nat)(b:List UInt8):Nat->List UInt8
 |0=>AV b (wz w 0++wz w 1++wz w 2++wz w 3)
 |n+1=>sO (decide (n+1=R)) w (n+1) (iH w R b n)
theorem Nl:∀{a b:List UInt8},a.length=b.length->(AV a b).length=a.length
 | [],[],_=>rfl
 |x::a,y::b,h=>by simp only [AV,jM];rw [Nl (by simpa using h)]
 | [],_::_,h=>pM
 |_::_,[],h=>pM
theorem ahH(r:Bool)(w:List UInt8)(n:Nat)(s:List UInt8)(i:Nat):(eO r w n s i).length=4:=by
 unfold eO;rw [Nl]
 .cases r<;>rfl
 .cases r<;>rfl
theorem ahI(r:Bool)(w:List UInt8)(n:Nat)(s:List UInt8):(sO r w n s).length=16:=by unfold sO;simp [ahH]
theorem DU(w:List UInt8)(R:Nat)(b:List UInt8)(hb:b.length=16):∀n,(iH w R b n).length=16
 |0=>by unfold iH;rw [Nl]<;>simp [hb,wz]
 |n+1=>by unfold iH;exact ahI ..
theorem ZB{α:Type}{l:List α}(h:l.length=4):∃a b c d,l= [a,b,c,d]:=by
 match l,h with
 | [a,b,c,d],_=>exact⟨a,b,c,d,rfl⟩
theorem Bw{α:Type}{l:List α}(h:l.length=16):∃U s1 s2 V W Z s6 s7 s8 s9 r u F G I O,l= [U,s1,s2,V,W,Z,s6,s7,s8,s9,r,u,F,G,I,O]:=by
 match l,h with
 | [a,b,c,d,e,f,g,h,i,j,k,l,m,n,o,p],_=>exact⟨a,b,c,d,e,f,g,h,i,j,k,l,m,n,o,p,rfl⟩
theorem lQ{k i:Nat}(hk:k=i)(h:i+4<=l.length):dz ab 4 (l.map .u8) k=aa (.agg [.u8 (l.getD i 0),.u8 (l.getD (i+1) 0),.u8 (l.getD (i+2) 0),.u8 (l.getD (i+3) 0)]):=by
 subst hk;simp only [dz,if_true];rw [if_pos kV];have e:∀j,k+j<l.length->(l.map SV.u8)[k+j]?=aa (.u8 (l.getD (k+j) 0)):=λj hj=>by rw [ky,dk,dy hj];rfl
 have r:=e 0 ag;have e1:=e 1 ag;have e2:=e 2 ag;have e3:=e 3 ag;congr 2;apply ku;intro j;rw [List.getElem?_take];by_cases hj:j<4
 .rw [if_pos hj,iS];have:j=0\/j=1\/j=2\/j=3:=ag;rcases this with rfl|rfl|rfl|rfl
  .exact r
  .exact e1
  .exact e2
  .exact e3
 .rw [if_neg hj,dI];simp;omega
theorem H5(n q:Nat)(h:n<=1000)(hq:q<=3):au (au (4*(n:Int))+(q:Int))=((4*n+q:Nat):Int):=by exact t8
theorem VP(n:Nat)(h:n<=1000):au ((n:Int)+1)=((n+1:Nat):Int):=by simp only [eI];omega
theorem jY(n:Nat)(h:n<=1000):au ((n:Int)+1)=((n+1:Nat):Int):=by simp only [eI];omega
def lI:Nat->UInt8
 |0=>1
 |k+1=>2*lI k
theorem f83(n:Nat)(h:n<=1000):aQ 123 [.i n] [] (.u8 (lI n)) []:=by
 refine aL (fn:=Tryz.f123) ?_;refine zu ?_;refine bT n (λi=> [(0,.i n),(3,.u8 (lI i.1)),(4,.i (i.1:Int))]) (λ_=> []) 0 ?_ ?_
 .exact bL []
 .rintro⟨i,hi⟩;refine nH ?_;refine⟨λhc=>?_,λhc=>?_⟩
  .have r:i<n:=ov;have hp1:=jY i ag;conv=>whnf
   refine zC ?_;refine bP [] ?_ ?_
   ·(repeat'(first|exact trivial|refine aJ ?_ ?_))<;>first|rfl|exact dh (by first|exact hp1.symm)
   .exact zo
  .obtain rfl:i=n:=ov;conv=>whnf
   exact gI
theorem ag6{a c:UInt8}(h:c≠0):gG .quo (.u8 a) (.u8 c)=aa (.u8 (a/c)):=by simp [gG,h]
theorem agW(n:Nat)(h:n<=7):lI n≠0:=by have:n=0\/n=1\/n=2\/n=3\/n=4\/n=5\/n=6\/n=7:=ag;rcases this with rfl|rfl|rfl|rfl|rfl|rfl|rfl|rfl<;>decide
theorem f82(b:UInt8)(n:Nat)(h:n<=7):aQ 122 [.u8 b,.i n] [] (.i ((b/lI n%2).toNat:Int)) []:=by refine aL (fn:=Tryz.f122) ?_;refine zu ?_;refine zW (cP [] (f83 n ag)) ?_;refine⟨_,ag6 (agW n h),?_⟩;refine zL ?_;exact gI
def iJ:Nat->UInt8->UInt8->UInt8->UInt8
 |0,out,_,_=>out
 |k+1,out,a,b=>iJ k (if b%2=1 then out^^^a else out) (if a>=128 then 2*a^^^27 else 2*a) (b/2)
theorem Vs:∀(k:Nat) (o a:UInt8),iJ k o a 0=o
 |0,_,_=>rfl
 |k+1,o,a=>by
  show iJ k (if(0:UInt8)%2=1 then o^^^a else o) _ (0/2)=o
  rw [if_neg aw];exact Vs k o _
theorem acw(k:Nat)(b:UInt8)(h:b.toNat<2^(k+1)):(b/2).toNat<2^k:=by
 rw [UInt8.toNat_div];show b.toNat/2<2^k
 rw [Nat.pow_succ]at h;omega
structure X3(a b:UInt8) where
 k:Nat
 o:UInt8
 x:UInt8
 y:UInt8
 lt:y.toNat<2^k
 eq:iJ k o x y=iJ 8 0 a b
theorem f81(a b:UInt8):aQ 121 [.u8 a,.u8 b] [] (.u8 (iJ 8 0 a b)) []:=by
 refine aL (fn:=Tryz.f121) ?_;refine zu ?_;refine fH (ι:=X3 a b) (λt=> [(0,.u8 t.x),(1,.u8 t.y),(5,.u8 t.o)]) (λ_=> []) (λ_=>0) (λt=>t.k) ⟨8,0,a,b,eQ _,rfl⟩ ?_ ?_
 .exact bL []
 .rintro⟨k,o,x,y,hlt,u⟩;refine nH ?_;refine⟨λhc=>?_,λhc=>?_⟩
  .obtain⟨k,rfl⟩:∃j,k=j+1:=by
    rcases k with _|k
    .exfalso;have:y.toNat=0:=by simpa using hlt
     have:y=0:=UInt8.toNat_inj.mp this;subst this;revert hc;decide
    .exact⟨k,rfl⟩
   have hl2:=acw k y hlt;have r:iJ k (if y%2=1 then o^^^x else o) (if x>=128 then 2*x^^^27 else 2*x) (y/2)=iJ 8 0 a b:=u;refine zL ?_;by_cases h1:y%2=1
   .rw [if_pos h1]at r;have hb:(y%2==1)=ab:=by simp [h1]
    by_cases h2:x>=128
    .rw [if_pos h2]at r;have hx:decide (x>=128)=ab:=by simp [h2]
     conv=>whnf
     repeat(first|refine zW (bl hb) ?_|refine zW (bl hx) ?_|refine zf ?_)
     refine⟨⟨k,o^^^x,2*x^^^27,y/2,hl2,r⟩,aq,?_⟩;exact bL []
    .rw [if_neg h2]at r;have hx:decide (x>=128)=af:=by simp only [decide_eq_false_iff_not];exact h2
     conv=>whnf
     repeat(first|refine zW (bl hb) ?_|refine zW (bC hx) ?_|refine zf ?_)
     refine⟨⟨k,o^^^x,2*x,y/2,hl2,r⟩,aq,?_⟩;exact bL []
   .rw [if_neg h1]at r;have hb:(y%2==1)=af:=by simp [h1]
    by_cases h2:x>=128
    .rw [if_pos h2]at r;have hx:decide (x>=128)=ab:=by simp [h2]
     conv=>whnf
     repeat(first|refine zW (bC hb) ?_|refine zW (bl hx) ?_|refine zf ?_)
     refine⟨⟨k,o,2*x^^^27,y/2,hl2,r⟩,aq,?_⟩;exact bL []
    .rw [if_neg h2]at r;have hx:decide (x>=128)=af:=by simp only [decide_eq_false_iff_not];exact h2
     conv=>whnf
     repeat(first|refine zW (bC hb) ?_|refine zW (bC hx) ?_|refine zf ?_)
     refine⟨⟨k,o,2*x,y/2,hl2,r⟩,aq,?_⟩;exact bL []
  .have:y=0:=by apply UInt8.toNat_inj.mp;simp at hc;rw [hc]
   subst this;rw [Vs]at u;subst u;conv=>whnf
   exact gI
theorem Nf:∀i:Nat,i<16->∀q:Nat,q<4->au (au (au ((i:Int).tdiv 4)*4)+(au ((i:Int)+(q:Int))).tmod 4)=((i/4*4+(i+q)%4:Nat):Int):=by decide
theorem akk:∀i:Nat,i<16->(au ((i:Int)+au (4*(i:Int).tmod 4))).tmod 16=(((i+4*(i%4))%16:Nat):Int):=by decide
theorem aki(n i:Nat)(h:n<=1000)(hi:i<=16):au (au (16*(n:Int))+(i:Int))=((16*n+i:Nat):Int):=by simp only [eI];omega
theorem akj(R:Nat)(h:R<=1000):au (((16*(R+1):Nat):Int).tdiv 16)=((R+1:Nat):Int):=by rw [Int.tdiv_eq_ediv_of_nonneg ag];simp only [eI];omega
theorem akl(R:Nat)(h:R<=1000):au (((R+1:Nat):Int)-1)=(R:Int):=by simp only [eI];omega
def tB(s:List UInt8)(j:Nat):UInt8:=sb (s.getD ((j+4*(j%4))%16) 0)
def rB(r:Bool)(w:List UInt8)(n:Nat)(s:List UInt8)(j:Nat):UInt8:=
 (if r then tB s j else iJ 8 0 (tB s j) 2^^^iJ 8 0 (tB s (j/4*4+(j+1)%4)) 3^^^tB s (j/4*4+(j+2)%4)^^^tB s (j/4*4+(j+3)%4))^^^w.getD (16*n+j) 0
theorem MM:∀x:UInt8,iJ 8 0 x 2=iz x:=by
 have h:∀n:Nat,n<256->iJ 8 0 (cX n) 2=iz (cX n):=by decide+kernel
 intro x;have:=h x.toNat (eQ _);exact pK
theorem ajP:∀x:UInt8,iJ 8 0 x 3=iz x^^^x:=by
 have h:∀n:Nat,n<256->iJ 8 0 (cX n) 3=iz (cX n)^^^cX n:=by decide+kernel
 intro x;have:=h x.toNat (eQ _);exact pK
theorem Zc:∀x y:UInt8,iz (x^^^y)=iz x^^^iz y:=by
 have h:∀n:Nat,n<256->∀m:Nat,m<256->iz (cX n^^^cX m)=iz (cX n)^^^iz (cX m):=by decide+kernel
 intro x y;have:=h x.toNat (eQ _) y.toNat (eQ _);exact pK
theorem xx(x y:UInt8):x^^^(x^^^y)=y:=by rw [<-UInt8.xor_assoc,UInt8.xor_self,UInt8.zero_xor]
theorem Gy(a b c d:UInt8):a^^^(a^^^b^^^c^^^d)^^^iz (a^^^b)=iJ 8 0 a 2^^^iJ 8 0 b 3^^^c^^^d:=by
 simp only [MM,ajP,Zc,UInt8.xor_assoc,xx]
 ac_rfl
theorem VW(w:List UInt8)(n i:Nat):wz w (4*n+i)= [w.getD (16*n+4*i) 0,w.getD (16*n+(4*i+1)) 0,w.getD (16*n+(4*i+2)) 0,w.getD (16*n+(4*i+3)) 0]:=by unfold wz;rw [show 4*(4*n+i)=16*n+4*i by omega];rfl
theorem ag7(r:Bool)(w:List UInt8)(n:Nat)(s:List UInt8)(hs:s.length=16):(cQ 16).map (rB r w n s)=sO r w n s:=by
 obtain⟨V,s1,s2,W,Z,s5,s6,s7,s8,s9,u,F,G,I,O,U,rfl⟩:=Bw hs;have hr:cQ 16= [0,1,2,3,4,5,6,7,8,9,10,11,12,13,14,15]:=aw;rw [hr];cases r with
 |true=>
  simp only [iT,qR,rB,if_true,tB,sO,eO,rI,VW,AV,oz,jA];try rfl
 |false=>
  simp only [sO,eO,rI,Rf,gE,if_false,VW,AV,Gy];have e1:∀c d a b:UInt8,c^^^(a^^^b^^^c^^^d)^^^iz (c^^^d)=iJ 8 0 c 2^^^iJ 8 0 d 3^^^a^^^b:=λc d a b=>by rw [show a^^^b^^^c^^^d=c^^^d^^^a^^^b by ac_rfl];exact Gy c d a b
  have e2:∀b c d a:UInt8,b^^^(a^^^b^^^c^^^d)^^^iz (b^^^c)=iJ 8 0 b 2^^^iJ 8 0 c 3^^^d^^^a:=λb c d a=>by rw [show a^^^b^^^c^^^d=b^^^c^^^d^^^a by ac_rfl];exact Gy b c d a
  have e3:∀d a b c:UInt8,d^^^(a^^^b^^^c^^^d)^^^iz (d^^^a)=iJ 8 0 d 2^^^iJ 8 0 a 3^^^b^^^c:=λd a b c=>by rw [show a^^^b^^^c^^^d=d^^^a^^^b^^^c by ac_rfl];exact Gy d a b c
  simp only [e1,e2,e3,iT,qR,rB,gE,if_false,tB,oz,jA];try rfl
theorem aiA(w:List UInt8)(R:Nat)(b:List UInt8)(hb:b.length=16):(cQ 16).map (λj=>b.getD j 0^^^w.getD j 0)=iH w R b 0:=by obtain⟨U,s1,s2,V,W,Z,s6,s7,s8,s9,r,u,F,G,I,O,rfl⟩:=Bw hb;rfl
theorem f49(fb U fk:Bool)(w r:List UInt8)(R:Nat)(hw:w.length=16*(R+1))(ha:1<=R)(x0:R<=20)(hb:r.length=16):aM 126 [.sl 0 0 256 1 fb,.sl 1 0 (16*(R+1)) 1 U,.sl 2 0 16 1 fk] [ak cD,ak w,ak r] (.sl 3 0 16 1 ab) [aC 5 (iH w R r R)]:=by
 have hl:=tY;obtain⟨nw,W⟩:=ax (16*(R+1));have hd:=akj R ag;have h9:=akl R ag;rw [<-W]at hd hw;rw [<-W];have h8:au (au ((nw:Int).tdiv 16)-1)=(R:Int):=by rw [hd];exact h9
 refine aL (fn:=Tryz.f126) ?_;refine zu ?_;repeat(first|refine zN ⟨ag,aw⟩ ?_|refine zf ?_)
 refine bT 16 (λi=> [(0,.sl 0 0 256 1 fb),(1,.sl 1 0 nw 1 U),(2,.sl 2 0 16 1 fk),(7,.i (R:Int)),(8,.sl 3 0 16 1 ab),(9,.i (i.1:Int))]) (λi=> [ak cD,ak w,ak r,aC 5 (bR 16 i.1 (λj=>r.getD j 0^^^w.getD j 0) (λ_=>0))]) 4 ?_ ?_
 .have hz:bR 16 0 (λj=>r.getD j 0^^^w.getD j 0) (λ_=>(0:UInt8))=aK 16 0:=BE ..;refine bP [0,1,2,3] ?_ ?_
  ·(repeat'(first|exact trivial|refine aJ ?_ ?_|fail))<;>first|rfl|exact dh (by exact h8.symm)|fail
  .exact zo
 .rintro⟨i,hi⟩;have hf:=kG 16 i (λj=>r.getD j 0^^^w.getD j 0) (λ_=>(0:UInt8));dsimp only;by_cases u:i<16
  .have hlt:decide ((i:Int)<16)=ab:=aA;have hp1:=jY i ag;have hs:=Dg (f:=λj=>r.getD j 0^^^w.getD j 0) (g:=λ_=>(0:UInt8)) u;refine zt ?_;refine zA ?_;exact sf
  .obtain rfl:i=16:=ag;refine zy ?_;refine fH (ι:={n:Nat//1<=n/\n<=R+1}) (λn=> [(0,.sl 0 0 256 1 fb),(1,.sl 1 0 nw 1 U),(7,.i (R:Int)),(8,.sl 3 0 16 1 ab),(10,.i (n.1:Int))]) (λn=> [ak cD,ak w,ak r,aC 5 (iH w R r (n.1-1))]) (λ_=>4) (λn=>R+1-n.1) ⟨1,ag⟩ ?_ ?_
   .have h0:bR 16 16 (λj=>r.getD j 0^^^w.getD j 0) (λ_=>(0:UInt8))=iH w R r (1-1):=by rw [p9];exact aiA w R r hb
    refine bP [0,1,2,3] ?_ ?_
    .exact zo
    ·(repeat'(first|exact trivial|refine aJ ?_ ?_|fail))<;>first|exact gw (by first|exact h0|exact h0.symm|fail)|rfl|exact aY bY az|fail
   .rintro⟨n,hn1,hn2⟩;have I:=DU w R r hb (n-1);have Z:n<=R->sO (decide (n=R)) w n (iH w R r (n-1))=iH w R r (n+1-1):=λh=>by obtain⟨m,rfl⟩:∃m,n=m+1:=⟨n-1,ag⟩;rfl
    obtain⟨s,hs⟩:=ax (iH w R r (n-1));dsimp only;rw [<-hs]at I Z|-;by_cases hn:n<=R
    .have hle:decide ((n:Int)<=(R:Int))=ab:=aA;conv=>whnf
     first|refine du (by exact hle) ?_|fail
     conv=>whnf
     refine vu ?_;refine bT 16 (λi=> [(0,.sl 0 0 256 1 fb),(1,.sl 1 0 nw 1 U),(7,.i (R:Int)),(8,.sl 3 0 16 1 ab),(10,.i (n:Int)),(11,.sl 4 0 16 1 ab),(12,.i (i.1:Int))]) (λi=> [ak cD,ak w,ak r,aC 5 s,aC 5 (bR 16 i.1 (tB s) (λ_=>0))]) 5 ?_ ?_
     .have hz:bR 16 0 (tB s) (λ_=>(0:UInt8))=aK 16 0:=BE ..;exact yH
     .rintro⟨i,hi⟩;have hf:=kG 16 i (tB s) (λ_=>(0:UInt8));dsimp only;by_cases u:i<16
      .have hlt:decide ((i:Int)<16)=ab:=aA;have hp1:=jY i ag;have hsh:=akk i u;have hst:=Dg (f:=tB s) (g:=λ_=>(0:UInt8)) u;have hx:(s.getD ((i+4*(i%4))%16) 0).toNat<256:=eQ _;refine zt ?_;repeat(first|refine zH (cU (i:=(i+4*(i%4))%16) aT ag) ?_|refine zH (bg (m:=(i+4*(i%4))%16) aT) ?_|refine zH (cU (i:=(s.getD ((i+4*(i%4))%16) 0).toNat) aT ag) ?_|refine zH (nC (i:=i) aT) ?_|refine zH (bg (m:=i) az) ?_|refine aS ?_)
       refine zC ?_;exact yH
      .obtain rfl:i=16:=ag;refine zy ?_;have ht:bR 16 16 (tB s) (λ_=>(0:UInt8))=(cQ 16).map (tB s):=p9 ..;obtain⟨t,O⟩:=ax (bR 16 16 (tB s) (λ_=>(0:UInt8)));have htl:t.length=16:=by rw [O];exact kG ..
       have F:∀j,j<16->t.getD j 0=tB s j:=λj hj=>by rw [O,ht];exact tW hj
       rw [<-O];have hR:decide (n=R)= !decide (n<R):=by by_cases h:n<R<;>simp [h]<;>omega
       refine bT 16 (λi=> [(0,.sl 0 0 256 1 fb),(1,.sl 1 0 nw 1 U),(7,.i (R:Int)),(8,.sl 3 0 16 1 ab),(10,.i (n:Int)),(11,.sl 4 0 16 1 ab),(13,.i (i.1:Int))]) (λi=> [ak cD,ak w,ak r,aC 5 (bR 16 i.1 (rB (decide (n=R)) w n s) (λj=>s.getD j 0)),aC 5 t]) 5 ?_ ?_
       .have hz:bR 16 0 (rB (decide (n=R)) w n s) (λj=>s.getD j 0)=s:=Aj I;exact yH
       .rintro⟨i,hi⟩;have hf:=kG 16 i (rB (decide (n=R)) w n s) (λj=>s.getD j 0);dsimp only;by_cases u:i<16
        .have hlt:decide ((i:Int)<16)=ab:=aA;have hp1:=jY i ag;have x5:=Nf i u 1 ag;have x6:=Nf i u 2 ag;have x7:=Nf i u 3 ag;have h16:=aki n i ag ag;by_cases h7:n<R
         .have V:decide ((n:Int)<(R:Int))=ab:=aA;have G:(iJ 8 0 (t.getD i 0) 2^^^iJ 8 0 (t.getD (i/4*4+(i+1)%4) 0) 3^^^t.getD (i/4*4+(i+2)%4) 0^^^t.getD (i/4*4+(i+3)%4) 0)^^^w.getD (16*n+i) 0=rB (decide (n=R)) w n s i:=by unfold rB;rw [hR,show decide (n<R)=ab by simp;omega];simp only [Bool.not_true,wP,gE,if_false,if_true];first|rw [F i u,F _ ag,F _ ag,F _ ag]|fail
          have hst:=nx (f:=rB (decide (n=R)) w n s) (g:=λj=>s.getD j 0) u G;refine ya ?_;first|refine du (by exact V) ?_|fail
          conv=>whnf
          refine zW (cP [] (f81 (t.getD i 0) 2)) ?_;refine zW (cP [] (f81 (t.getD (i/4*4+(i+1)%4) 0) 3)) ?_;exact yT
         .have V:decide ((n:Int)<(R:Int))=af:=aA;have G:(t.getD i 0)^^^w.getD (16*n+i) 0=rB (decide (n=R)) w n s i:=by unfold rB;rw [hR,show decide (n<R)=af by simp;omega];simp only [Bool.not_true,wP,gE,if_false,if_true];first|rw [F i u]
          have hst:=nx (f:=rB (decide (n=R)) w n s) (g:=λj=>s.getD j 0) u G;refine ya ?_;first|intro _
          conv=>whnf
          exact yT
        .obtain rfl:i=16:=ag;have hfin:bR 16 16 (rB (decide (n=R)) w n s) (λj=>s.getD j 0)=iH w R r (n+1-1):=by rw [p9,ag7 _ _ _ _ I];exact Z hn
         have hp1:=jY n ag;refine zy ?_;refine⟨⟨n+1,ag,ag⟩,dt,?_⟩;exact sf
    .obtain rfl:n=R+1:=ag;have hle:decide (((R+1:Nat):Int)<=(R:Int))=af:=aA;have h6:s=iH w R r R:=hs;conv=>whnf
     first|refine eV (by exact hle) ?_|fail
     conv=>whnf
     refine⟨[0,1,2,3],?_,rfl,rfl,?_,rfl⟩
     .exact zo
     ·(repeat'(first|exact trivial|refine aJ ?_ ?_|fail))<;>first|exact gw (by first|exact h6|exact h6.symm|fail)|rfl|exact aY bY az|fail
def C2(c:List UInt8):Nat->UInt64
 |0=>0
 |i+1=>256*C2 c i+(c.getD (12+i) 0).toUInt64
theorem aj5(x:UInt8):x.toUInt64.toNat=x.toNat:=by simp
theorem YV(c:List UInt8):(C2 c 4).toNat=zg (c.getD 12 0) (c.getD 13 0) (c.getD 14 0) (c.getD 15 0):=by have r:(c.getD 12 0).toNat<256:=eQ _;have hb:(c.getD 13 0).toNat<256:=eQ _;have hc:(c.getD 14 0).toNat<256:=eQ _;have hd:(c.getD 15 0).toNat<256:=eQ _;unfold zg;simp only [C2,lY,uu,aj5];rw [show Be 256=256 from rfl,show Be 0=0 from rfl];simp only [qT,show 12+1=13 from rfl,show 12+2=14 from rfl,show 12+3=15 from rfl];omega
theorem YW(a b c d:UInt8):zg a b c d<4294967296:=by have r:a.toNat<256:=eQ _;have hb:b.toNat<256:=eQ _;have hc:c.toNat<256:=eQ _;have hd:d.toNat<256:=eQ _;unfold zg;omega
theorem HV(x:UInt64)(n:Nat)(h:x.toNat=n):x.toUInt8=cX n:=by apply UInt8.toNat_inj.mp;subst h;simp
theorem YH(x:UInt64)(a b c d:UInt8)(h:x.toNat=zg a b c d): [((x+1)%4294967296/16777216).toUInt8,((x+1)%4294967296/65536%256).toUInt8,((x+1)%4294967296/256%256).toUInt8,((x+1)%4294967296%256).toUInt8]=oL a b c d:=by
 have hl:=YW a b c d;rw [acQ,<-h];rw [<-h]at hl;unfold Jt;have e:((x+1)%4294967296).toNat=(x.toNat+1)%4294967296:=by rw [nM,lY];rw [show Be 4294967296=4294967296 from rfl,show Be 1=1 from rfl];omega
 simp only [List.cons.injEq,and_true];refine⟨HV _ _ ?_,HV _ _ ?_,HV _ _ ?_,HV _ _ ?_⟩
 .rw [nL,e];rfl
 .rw [nM,nL,e];rfl
 .rw [nM,nL,e];rfl
 .rw [nM,e];rfl
theorem f57(fl:Bool)(c:List UInt8)(hc:c.length=16):aM 128 [.sl 0 0 16 1 fl] [ak c] (.sl 1 0 16 1 af) [aC 5 (rK c)]:=by
 refine aL (fn:=Tryz.f128) ?_;refine zu ?_;refine bT 4 (λi=> [(0,.sl 0 0 16 1 fl),(3,.u64 (C2 c i.1)),(4,.i ((12+i.1:Nat):Int))]) (λi=> [ak c]) 1 ?_ ?_
 .exact bL [0]
 .rintro⟨i,hi⟩;dsimp only;by_cases h6:i<4
  .have hlt:decide (((12+i:Nat):Int)<16)=ab:=aA;have hp1:=jY (12+i) ag;refine zt ?_;repeat(first|refine zH (cU (i:=12+i) aT ag) ?_|refine zH (bg (m:=12+i) az) ?_|refine aS ?_)
   refine zC ?_;exact bL [0]
  .obtain rfl:i=4:=ag;have hlt:decide (((12+4:Nat):Int)<16)=af:=aw;refine yF ?_;refine zI ?_;obtain⟨U,V,W,c3,Z,c5,c6,c7,c8,c9,r,u,F,G,I,O,rfl⟩:=Bw hc;have hcb:=YH _ _ _ _ _ (YV [U,V,W,c3,Z,c5,c6,c7,c8,c9,r,u,F,G,I,O]);obtain⟨x,hx⟩:=ax (C2 [U,V,W,c3,Z,c5,c6,c7,c8,c9,r,u,F,G,I,O] 4);rw [<-hx]at hcb|-;have hfin:(rK [U,V,W,c3,Z,c5,c6,c7,c8,c9,r,u,F,G,I,O]).map SV.u8= [U,V,W,c3,Z,c5,c6,c7,c8,c9,r,u].map SV.u8++([((x+1)%4294967296/16777216).toUInt8,((x+1)%4294967296/65536%256).toUInt8,((x+1)%4294967296/256%256).toUInt8,((x+1)%4294967296%256).toUInt8]).map SV.u8:=by rw [hcb];rfl
   refine⟨[0,4],?_,rfl,rfl,?_,rfl⟩
   .exact zo
   ·(repeat'(first|exact trivial|exact aY (cY _) hfin|refine aJ ?_ ?_|(refine dM ?_ ?_)))<;>first|rfl|fail
theorem AU(n:Nat)(h:n<4611686018427387904):au ((n:Int)+1)=((n+1:Nat):Int):=by simp only [eI];omega
theorem HP(n k:Nat):((n:Int)).tmod (k:Int)=((n%k:Nat):Int):=by rw [sk (by omega)];omega
def j8(c:List UInt8):Nat->List UInt8
 |0=>c
 |k+1=>rK (j8 c k)
theorem Y9(c:List UInt8):j8 c 0=c:=rfl
theorem O3(c:List UInt8)(k:Nat):j8 c (k+1)=rK (j8 c k):=rfl
theorem Aa{c:List UInt8}(h:c.length=16):∀k,(j8 c k).length=16
 |0=>h
 |k+1=>Rn (Aa h k)
def nX(w:List UInt8)(R:Nat)(c:List UInt8)(k:Nat):List UInt8:=iH w R (j8 c k) R
theorem Gp{w:List UInt8}{R:Nat}{c:List UInt8}(h:c.length=16)(k:Nat):(nX w R c k).length=16:=DU w R _ (Aa h k) R
def fB(w:List UInt8)(R:Nat)(c b:List UInt8)(j:Nat):UInt8:=b.getD j 0^^^(nX w R c (j/16)).getD (j%16) 0
def iP(w:List UInt8)(R:Nat)(c b:List UInt8):List UInt8:=(cQ b.length).map (fB w R c b)
def ajh:Nat->SV
 |0=> .slnil
 |_+1=> .sl 6 0 16 1 ab
def aiI(w:List UInt8)(R:Nat)(c:List UInt8):Nat->Option SB
 |0=>ah
 |i+1=>aC 5 (nX w R c (i/16))
theorem KM(w:List UInt8)(R:Nat)(c:List UInt8)(k:Nat):iH w R (j8 c k) R=nX w R c k:=rfl
attribute [local irreducible] j8 nX
theorem f55(fb U ff Z:Bool)(w c b:List UInt8)(R:Nat)(hw:w.length=16*(R+1))(G:1<=R)(I:R<=20)(hc:c.length=16)(h6:b.length<100000000000000):aM 91 [.sl 0 0 256 1 fb,.sl 1 0 (16*(R+1)) 1 U,.sl 2 0 16 1 ff,.sl 3 0 b.length 1 Z] [ak cD,ak w,ak c,ak b] (.sl 4 0 b.length 1 af) [aC 5 (iP w R c b)]:=by
 have h8:=tY;refine aL (fn:=Tryz.f91) ?_;refine r9 ?_;refine bp.weak (cl.virt 10 5 1 rfl) ?_;refine bT b.length (λi=> [(0,.sl 0 0 256 1 fb),(1,.sl 1 0 (16*(R+1)) 1 U),(3,.sl 3 0 b.length 1 Z),(9,.sl 4 0 16 1 af),(10,.sl 5 0 i.1 1 af),(11,ajh i.1),(12,.i (i.1:Int))]) (λi=> [ak cD,ak w,ak c,ak b,aC 5 (j8 c ((i.1+15)/16)),aC 5 ((cQ i.1).map (fB w R c b)),aiI w R c i.1]) 7 ?_ ?_
 .have V:(j8 c ((0+15)/16)).map SV.u8=aB 16 (aG 0 (c.map SV.u8)):=by rw [show(0+15)/16=0 from rfl,Y9,cq,bW (by simp [hc])]
  refine bP [0,1,2,3,5,6,0] ?_ ?_
  .exact zo
  ·(repeat'(first|exact trivial|exact aY (cY _) V|refine aJ ?_ ?_|fail))<;>first|rfl|exact aY bY az|fail
 .rintro⟨i,hi⟩;have hf:((cQ i).map (fB w R c b)).length=i:=od;dsimp only;by_cases h7:i<b.length
  .have hlt:decide ((i:Int)<(b.length:Int))=ab:=aA;have hp1:=AU i ag;have htm:((i:Int)).tmod 16=((i%16:Nat):Int):=HP i 16;by_cases h0:i%16=0
   .have hm:((i:Int).tmod 16==0)=ab:=by rw [htm,h0];rfl
    rcases i with _|i
    .skip
     have F:(0+15)/16=0/16:=ag;have hk2:j8 c ((0+1+15)/16)=rK (j8 c (0/16)):=by rw [show(0+1+15)/16=0/16+1 by omega,O3]
     have r:=f49 fb U af w (j8 c (0/16)) R hw G I (Aa hc _);have u:=f57 af (j8 c (0/16)) (Aa hc _);have hkl:=Gp (w:=w) (R:=R) hc (0/16);rw [KM]at r;rw [F];have hs:(cQ (0+1)).map (fB w R c b)=(cQ 0).map (fB w R c b)++ [fB w R c b 0]:=Ch;have happ:aB (0*1) (aG 0 (((cQ 0).map (fB w R c b)).map SV.u8))++aB (1*1) (aG 0 [SV.u8 (b.getD 0 0^^^(nX w R c (0/16)).getD (0%16) 0)])=((cQ (0+1)).map (fB w R c b)).map SV.u8:=by rw [Bk od,hs];rfl
     refine zt ?_;refine zc ?_;first|skip
     refine zW (cP [0,1,4] r) ?_;refine zW (cP [4] u) ?_;repeat(first|refine zH (cU (i:=0) az ag) ?_|refine zH (bg (m:=0) az) ?_|refine aS ?_)
     refine⟨⟨0+1,ag⟩,dt,?_⟩;refine bP [0,1,2,3,8,10,7] ?_ ?_
     .exact zo
     ·(repeat'(first|exact trivial|exact aY (cY _) happ.symm|refine aJ ?_ ?_|fail))<;>first|exact gw (by exact hk2)|rfl|exact aY bY az|fail
    .skip
     have F:((i+1)+15)/16=(i+1)/16:=ag;have hk2:j8 c (((i+1)+1+15)/16)=rK (j8 c ((i+1)/16)):=by rw [show((i+1)+1+15)/16=(i+1)/16+1 by omega,O3]
     have r:=f49 fb U af w (j8 c ((i+1)/16)) R hw G I (Aa hc _);have u:=f57 af (j8 c ((i+1)/16)) (Aa hc _);have hkl:=Gp (w:=w) (R:=R) hc ((i+1)/16);rw [KM]at r;rw [F];have hs:(cQ ((i+1)+1)).map (fB w R c b)=(cQ (i+1)).map (fB w R c b)++ [fB w R c b (i+1)]:=Ch;have happ:aB ((i+1)*1) (aG 0 (((cQ (i+1)).map (fB w R c b)).map SV.u8))++aB (1*1) (aG 0 [SV.u8 (b.getD (i+1) 0^^^(nX w R c ((i+1)/16)).getD ((i+1)%16) 0)])=((cQ ((i+1)+1)).map (fB w R c b)).map SV.u8:=by rw [Bk od,hs];rfl
     refine zt ?_;refine zc ?_;first|(refine du (by exact hm) ?_;conv=>whnf)|fail
     refine zW (cP [0,1,4] r) ?_;refine zW (cP [4] u) ?_;repeat(first|refine zH (cU (i:=(i+1)) aT ag) ?_|refine zH (bg (m:=(i+1)) az) ?_|refine zH (cU (i:=(i+1)%16) aT ag) ?_|refine zH (bg (m:=(i+1)%16) az) ?_|refine aS ?_)
     refine⟨⟨(i+1)+1,ag⟩,dt,?_⟩;refine bP [0,1,2,3,8,10,7] ?_ ?_
     .exact bU
     ·(repeat'(first|exact trivial|exact aY (cY _) happ.symm|refine aJ ?_ ?_|fail))<;>first|exact gw (by exact hk2)|rfl|exact aY bY az|fail
   .have hm:((i:Int).tmod 16==0)=af:=A6;rcases i with _|i
    .exact absurd rfl h0
    .have W:j8 c ((i+1+1+15)/16)=j8 c ((i+1+15)/16):=by rw [show(i+1+1+15)/16=(i+1+15)/16 by omega]
     have O:nX w R c ((i+1)/16)=nX w R c (i/16):=by rw [show(i+1)/16=i/16 by omega]
     have hkl:=Gp (w:=w) (R:=R) hc (i/16);have hs:(cQ (i+1+1)).map (fB w R c b)=(cQ (i+1)).map (fB w R c b)++ [fB w R c b (i+1)]:=Ch;have happ:aB ((i+1)*1) (aG 0 (((cQ (i+1)).map (fB w R c b)).map SV.u8))++aB (1*1) (aG 0 [SV.u8 (b.getD (i+1) 0^^^(nX w R c (i/16)).getD ((i+1)%16) 0)])=((cQ (i+1+1)).map (fB w R c b)).map SV.u8:=by rw [Bk od,hs,<-O];rfl
     refine zt ?_;refine zc ?_;first|refine eV (by exact hm) ?_|fail
     conv=>whnf
     repeat(first|refine zH (cU (i:=i+1) aT ag) ?_|refine zH (bg (m:=i+1) az) ?_|refine zH (cU (i:=(i+1)%16) aT ag) ?_|refine zH (bg (m:=(i+1)%16) az) ?_|refine aS ?_)
     refine yU ?_;refine bP [0,1,2,3,4,8,6] ?_ ?_
     .exact bU
     ·(repeat'(first|exact trivial|exact aY (cY _) happ.symm|refine aJ ?_ ?_|fail))<;>first|exact gw (by first|exact W|exact O|fail)|rfl|exact aY bY az|fail
  .obtain rfl:i=b.length:=ag;have hlt:decide ((b.length:Int)<(b.length:Int))=af:=aq;refine yF ?_;conv=>whnf
   exact bE [0,1,2,3,5]
end Go.Sh
namespace Go.Sh
open Go.Proofs
def iK(l:List UInt8)(o:Nat):Nat->UInt64
 |0=>0
 |k+1=>dr (iK l o k) 8|||(l.getD (o+k) 0).toUInt64
theorem Jl(l:List UInt8)(o:Nat):iK l o 0=0:=rfl
theorem Jk(l:List UInt8)(o k:Nat):iK l o (k+1)=dr (iK l o k) 8|||(l.getD (o+k) 0).toUInt64:=rfl
attribute [local irreducible] iK
theorem d8:∀i:Nat,i<16->au ((i:Int).tdiv 8)=((i/8:Nat):Int):=by decide
theorem f90(l:List UInt8)(hl:l.length=16):aQ 151 [.agg (l.map .u8)] [] (.agg [.u64 (mS (iK l 0 8)),.u64 (mS (iK l 8 8))]) []:=by
 refine aL (fn:=Tryz.f151) ?_;refine zu ?_;repeat(first|refine zH (cK rfl qM) ?_)
 refine bT 16 (λi=> [(7,.i (i.1:Int)),(6,.agg (l.map .u8)),(3,.p 2 0),(2,.p 1 0)]) (λi=> [ah,al [.u64 0,.u64 0],al [.u64 (iK l 0 (min i.1 8)),.u64 (iK l 8 (i.1-8))]]) 3 ?_ ?_
 .have h0:iK l 0 (min 0 8)=0:=Jl ..;have h1:iK l 8 (0-8)=0:=Jl ..;refine cl.sel [0,1,2] rfl rfl ⟨rfl,?_,rfl,rfl,trivial⟩ ⟨rfl,?_,trivial⟩ rfl rfl
  .exact pJ (gw rfl)
  .exact dM (lr h0) (dM (lr h1) rfl)
 .rintro⟨i,hi⟩;dsimp only;by_cases F:i<16
  .have hlt:decide ((i:Int)<16)=ab:=aA;have hp1:=jY i ag;have hd:=d8 i F;by_cases G:i<8
   .rw [show i/8=0 by omega]at hd;have r:iK l 0 (min (i+1) 8)=dr (iK l 0 (min i 8)) 8|||(l.getD i 0).toUInt64:=by rw [show min (i+1) 8=min i 8+1 by omega,Jk,show 0+min i 8=i by omega]
    have u:iK l 8 (i+1-8)=iK l 8 (i-8):=by rw [show i+1-8=i-8 by omega]
    refine zt ?_;repeat(first|refine zH (cU (i:=i) kW ag) ?_|refine zH (bg (m:=i) az) ?_|refine zH (bg (m:=0) aT) ?_|refine aS ?_)
    refine zC ?_;refine bP [0,1,2] ?_ ?_
    .exact bU
    ·(repeat'(first|exact trivial|refine aJ ?_ ?_|(refine dM ?_ ?_)))<;>first|rfl|exact lr (by first|exact r|exact u|fail)|fail
   .rw [show i/8=1 by omega]at hd;have r:iK l 0 (min (i+1) 8)=iK l 0 (min i 8):=by rw [show min (i+1) 8=min i 8 by omega]
    have u:iK l 8 (i+1-8)=dr (iK l 8 (i-8)) 8|||(l.getD i 0).toUInt64:=by rw [show i+1-8=(i-8)+1 by omega,Jk,show 8+(i-8)=i by omega]
    refine zt ?_;repeat(first|refine zH (cU (i:=i) kW ag) ?_|refine zH (bg (m:=i) az) ?_|refine zH (bg (m:=1) aT) ?_|refine aS ?_)
    refine zC ?_;refine bP [0,1,2] ?_ ?_
    .exact bU
    ·(repeat'(first|exact trivial|refine aJ ?_ ?_|(refine dM ?_ ?_)))<;>first|rfl|exact lr (by first|exact r|exact u|fail)|fail
  .obtain rfl:i=16:=ag;refine zy ?_;refine zl ?_;refine zW (cP [] (ER (iK l 0 8))) ?_;refine zl ?_;refine zW (cP [] (ER (iK l 8 8))) ?_;exact xU
end Go.Sh
namespace Go.Sh
open Go.Proofs
theorem AI{a:UInt64}{n:Int}{m:Nat}(h:n=(m:Int)):iI .shr (.u64 a) (.i n)=aa (.u64 (bh a m)):=by subst h;simp [iI,rp,tZ]
theorem Zb:∀i:Nat,i<16->au (56-au (8*(i:Int).tmod 8))=((56-8*(i%8):Nat):Int):=by decide
def bB(a b:UInt64)(i:Nat):UInt8:=(bh (if i<8 then mS a else mS b) (56-8*(i%8))).toUInt8
theorem f93(a b:UInt64):aQ 154 [.agg [.u64 a,.u64 b]] [] (.agg (((cQ 16).map (bB a b)).map .u8)) []:=by
 refine aL (fn:=Tryz.f154) ?_;refine oY ?_;refine zW (cP [] (ER a)) ?_;refine zc ?_;refine zW (cP [] (ER b)) ?_;refine zJ ?_;refine bT 16 (λi=> [(13,.i (i.1:Int)),(4,.p 3 0),(3,.p 2 0),(2,.p 1 0)]) (λi=> [ah,al (aK 16 (.u8 0)),al [.u64 (mS a),.u64 (mS b)],dn (bR 16 i.1 (bB a b) (λ_=>0))]) 4 ?_ ?_
 .have hz:bR 16 0 (bB a b) (λ_=>(0:UInt8))=aK 16 0:=BE ..;exact sf
 .rintro⟨i,hi⟩;have hf:=kG 16 i (bB a b) (λ_=>(0:UInt8));dsimp only;by_cases r:i<16
  .have hlt:decide ((i:Int)<16)=ab:=aA;have hp1:=jY i ag;have hd:=d8 i r;have G:=Zb i r;by_cases F:i<8
   .rw [show i/8=0 by omega]at hd;have hx:(bh (mS a) (56-8*(i%8))).toUInt8=bB a b i:=by unfold bB;rw [if_pos F]
    have hs:=nx (g:=λ_=>(0:UInt8)) r hx;refine zt ?_;repeat(first|refine zH (nC (i:=i) kW) ?_|refine zH (bg (m:=i) az) ?_|refine zH (bg (m:=0) aT) ?_|refine zH (AI (m:=56-8*(i%8)) aT) ?_|refine aS ?_)
    refine zC ?_;exact sf
   .rw [show i/8=1 by omega]at hd;have hx:(bh (mS b) (56-8*(i%8))).toUInt8=bB a b i:=by unfold bB;rw [if_neg F]
    have hs:=nx (g:=λ_=>(0:UInt8)) r hx;refine zt ?_;repeat(first|refine zH (nC (i:=i) kW) ?_|refine zH (bg (m:=i) az) ?_|refine zH (bg (m:=1) aT) ?_|refine zH (AI (m:=56-8*(i%8)) aT) ?_|refine aS ?_)
    refine zC ?_;exact sf
  .obtain rfl:i=16:=ag;have u:bR 16 16 (bB a b) (λ_=>(0:UInt8))=(cQ 16).map (bB a b):=p9 ..;rw [u];refine zy ?_;exact xU
def vt(o:UInt64×UInt64):UInt64×UInt64:=(dr o.1 1^^^bh o.2 63*135,dr o.2 1|||bh o.1 63)
def kR(p q:UInt64×UInt64):Nat->UInt64×UInt64
 |0=>(0,0)
 |k+1=>if(bh (if 127-k>=64 then p.2 else p.1) ((127-k)%64)&&&1)=1 then((vt (kR p q k)).1^^^q.1,(vt (kR p q k)).2^^^q.2)else vt (kR p q k)
theorem Vu(p q:UInt64×UInt64):kR p q 0=(0,0):=rfl
def sS(p:UInt64×UInt64)(k:Nat):UInt64:=bh (if 127-k>=64 then p.2 else p.1) ((127-k)%64)&&&1
theorem MP{p q:UInt64×UInt64}{k:Nat}(h:sS p k=1):kR p q (k+1)=((vt (kR p q k)).1^^^q.1,(vt (kR p q k)).2^^^q.2):=if_pos h
theorem MO{p q:UInt64×UInt64}{k:Nat}(h:¬sS p k=1):kR p q (k+1)=vt (kR p q k):=if_neg h
theorem i92:∀m:Nat,m<128->au (((m+1:Nat):Int)-1-1)=(m:Int)-1/\(((m+1:Nat):Int)-1).tmod 64=((m%64:Nat):Int):=by decide+kernel
attribute [local irreducible] kR
theorem f92(p q:UInt64×UInt64):aQ 153 [.agg [.u64 p.1,.u64 p.2],.agg [.u64 q.1,.u64 q.2]] [] (.agg [.u64 (kR p q 128).1,.u64 (kR p q 128).2]) []:=by
 refine aL (fn:=Tryz.f153) ?_;refine zu ?_;refine fH (ι:={n:Nat//n<=128}) (λn=> [(6,.i ((n.1:Int)-1)),(5,.p 3 0),(4,.p 2 0),(3,.p 1 0),(2,.p 0 0)]) (λn=> [al [.u64 p.1,.u64 p.2],al [.u64 q.1,.u64 q.2],al [.u64 0,.u64 0],al [.u64 (kR p q (128-n.1)).1,.u64 (kR p q (128-n.1)).2]]) (λ_=>4) (λn=>n.1) ⟨128,ag⟩ ?_ ?_
 .dsimp only;rw [show 128-128=0 from rfl,Vu];exact sf
 .rintro⟨n,hn⟩;dsimp only;rcases n with _|m
  .refine zy ?_;exact xU
  .have hge:decide (((m+1:Nat):Int)-1>=0)=ab:=bY;obtain⟨hp1,hm⟩:=i92 m ag;have I:128-(m+1)=127-m:=ag;have hk2:128-m=(127-m)+1:=ag;have G:127-(127-m)=m:=ag;rw [I];by_cases F:m>=64
   .have hg:decide (((m+1:Nat):Int)-1>=64)=ab:=by first|(simp;omega)
    have u:sS p (127-m)=bh (p.2) (m%64)&&&1:=by unfold sS;rw [G,if_pos F]
    refine yx ?_;conv=>whnf
    by_cases hb:sS p (127-m)=1
    .have r:(bh (p.2) (m%64)&&&1==1)=ab:=by rw [<-u,hb];rfl
     have ht:=MP (q:=q) hb;repeat(first|refine zH (cK rfl az) ?_|refine zH (df rfl az) ?_|refine zH (AI (m:=m%64) aT) ?_|refine zW (bl hg) ?_|refine zW (bl r) ?_|refine aS ?_)
     exact WV
    .have r:(bh (p.2) (m%64)&&&1==1)=af:=by rw [<-u];exact beq_eq_false_iff_ne.2 hb
     have ht:=MO (q:=q) hb;repeat(first|refine zH (df rfl az) ?_|refine zH (AI (m:=m%64) aT) ?_|refine zW (bl hg) ?_|refine zW (bC r) ?_|refine aS ?_)
     exact xF
   .have hg:decide (((m+1:Nat):Int)-1>=64)=af:=by first|(simp;omega)
    have u:sS p (127-m)=bh (p.1) (m%64)&&&1:=by unfold sS;rw [G,if_neg F]
    refine yx ?_;conv=>whnf
    by_cases hb:sS p (127-m)=1
    .have r:(bh (p.1) (m%64)&&&1==1)=ab:=by rw [<-u,hb];rfl
     have ht:=MP (q:=q) hb;repeat(first|refine zH (cK rfl az) ?_|refine zH (df rfl az) ?_|refine zH (AI (m:=m%64) aT) ?_|refine zW (bC hg) ?_|refine zW (bl r) ?_|refine aS ?_)
     exact WV
    .have r:(bh (p.1) (m%64)&&&1==1)=af:=by rw [<-u];exact beq_eq_false_iff_ne.2 hb
     have ht:=MO (q:=q) hb;repeat(first|refine zH (df rfl az) ?_|refine zH (AI (m:=m%64) aT) ?_|refine zW (bC hg) ?_|refine zW (bC r) ?_|refine aS ?_)
     exact xF
theorem f94(l:List UInt8)(hl:l.length=12):aQ 80 [.agg (l.map .u8)] [] (.agg ((l++ [0,0,0,1]).map .u8)) []:=by
 match l,hl with
 | [a,b,c,d,e,f,g,h,i,j,k,l],_=>
  refine aL (fn:=Tryz.f80) ?_;refine zu ?_;exact xU
end Go.Sh
namespace Go.Sh
abbrev Po:=Nat->Bool
def jW(f:Po):Po:=λn=>decide (0<n)&&f (n-1)
def Cp(n:Nat):Bool:=n==0||n==1||n==2||n==7
def xt(f:Po):Po:=λn=>decide (n<128)&&((decide (0<n)&&f (n-1))^^(f 127&&Cp n))
def add(f g:Po):Po:=λn=>f n^^g n
def sD(p q:Po):Nat->Po
 |0=>λ_=>af
 |k+1=>λn=>xt (sD p q k) n^^(p (127-k)&&(decide (n<128)&&q n))
def lD(i:Nat)(f:Po):Po:=λn=>f n^^(f i&&(n==i-128||n==i-127||n==i-126||n==i-121))
def jk(f:Po):Nat->Po
 |0=>f
 |k+1=>lD (255-k) (jk f k)
def cv(a b:Po):Nat->Po
 |0=>λ_=>af
 |k+1=>λn=>jW (cv a b k) n^^(a (127-k)&&(decide (n<128)&&b n))
theorem DY(f:Po)(n:Nat):jW f (n+1)=f n:=by simp [jW]
theorem aa1(i:Nat)(hi:128<=i)(f:Po):lD (i+1) (jW f)=jW (lD i f):=by
 funext n
 cases n with
 |zero=>
  have h1:(0==i+1-128)=af:=aA;have h2:(0==i+1-127)=af:=aA;have h3:(0==i+1-126)=af:=aA;have h4:(0==i+1-121)=af:=aA;simp only [lD,jW,h1,h2,h3,h4];simp
 |succ n=>
  have e:∀j,j<=i->(n+1==i+1-j)=(n==i-j):=λj hj=>by rw [jq];simp;omega
  simp only [lD,DY,e 128 ag,e 127 ag,e 126 ag,e 121 ag]
theorem P8(i:Nat)(f:Po)(h:f i=af):lD i f=f:=by funext n;simp [lD,h]
theorem Qc(f:Po)(h:f 255=af):∀k,k<=127->jk (jW f) k=jW (jk f (k+1))
 |0,_=>by
  show jW f=jW (lD 255 f)
  rw [P8 255 f h]
 |k+1,hk=>by
  show lD (255-k) (jk (jW f) k)=jW (lD (255-(k+1)) (jk f (k+1)))
  rw [Qc f h k ag,show 255-k=(255-(k+1))+1 by omega,aa1 _ ag]
theorem aa2(f:Po)(h:f 255=af)(n:Nat)(hn:n<128):jk (jW f) 128 n=xt (jk f 128) n:=by
 show lD (255-127) (jk (jW f) 127) n=_
 rw [Qc f h 127 ag];have h1:jW (jk f 128) 128=jk f 128 127:=DY _ 127;have e1:(n==128-128)=(n==0):=rfl;have e2:(n==128-127)=(n==1):=rfl;have e3:(n==128-126)=(n==2):=rfl;have r:(n==128-121)=(n==7):=rfl;show(jW (jk f 128) n^^(jW (jk f 128) 128&&(n==128-128||n==128-127||n==128-126||n==128-121)))=xt (jk f 128) n
 rw [h1,e1,e2,e3,r];unfold xt jW Cp;simp [hn]
theorem aa0(i:Nat)(f g:Po):lD i (add f g)=add (lD i f) (lD i g):=by
 funext n
 simp only [lD,add];cases f n<;>cases g n<;>cases f i<;>cases g i<;>cases(n==i-128||n==i-127||n==i-126||n==i-121)<;>rfl
theorem P9(f g:Po):∀k,jk (add f g) k=add (jk f k) (jk g k)
 |0=>rfl
 |k+1=>by show lD _ (jk (add f g) k)=_;rw [P9 f g k,aa0];rfl
def low(c:Bool)(b:Po):Po:=λn=>c&&(decide (n<128)&&b n)
theorem Qb(c:Bool)(b:Po):∀k,k<=128->jk (low c b) k=low c b
 |0,_=>rfl
 |k+1,hk=>by
  show lD (255-k) (jk (low c b) k)=_
  rw [Qb c b k ag,P8];have:¬255-k<128:=ag;simp [low,this]
theorem Jx(a b:Po)(k:Nat):cv a b (k+1)=add (jW (cv a b k)) (low (a (127-k)) b):=rfl
theorem O7(a b:Po):∀k n,128+k<=n->cv a b k n=af
 |0,_,_=>rfl
 |k+1,n,h=>by
  obtain⟨m,rfl⟩:∃m,n=m+1:=⟨n-1,ag⟩;rw [Jx];show(jW (cv a b k) (m+1)^^low (a (127-k)) b (m+1))=af
  rw [DY,O7 a b k m ag];have:¬m+1<128:=ag;simp [low,this]
theorem Nm{f g:Po}(h:∀n,n<128->f n=g n)(n:Nat)(hn:n<128):xt f n=xt g n:=by
 unfold xt;rw [h 127 ag];by_cases h0:0<n
 .rw [h (n-1) ag]
 .simp [h0]
theorem Qa(a b:Po):∀k,k<=128->∀n,n<128->jk (cv a b k) 128 n=sD a b k n
 |0,_,n,_=>by
  have:∀j,jk (cv a b 0) j=λ_=>af:=by
   intro j
   induction j with
   |zero=>rfl
   |succ j ih=>show lD _ (jk (cv a b 0) j)=_;rw [ih];funext n;simp [lD]
  rw [this];rfl
 |k+1,hk,n,hn=>by
  have e:jk (cv a b (k+1)) 128 n=(jk (jW (cv a b k)) 128 n^^low (a (127-k)) b n):=by rw [Jx,P9,Qb _ _ 128 ag];unfold add;rfl
  rw [e,aa2 _ (O7 a b k 255 ag) n hn,Nm (Qa a b k ag) n hn];rfl
def cs(a b:Po):Nat->Nat->Nat
 |0,_=>0
 |i+1,n=>cs a b i n+(if a i&&(decide (i<=n)&&(decide (n-i<128)&&b (n-i)))then 1 else 0)
def lf(n:Nat):Bool:=n%2==1
theorem Rv(n:Nat)(c:Bool):lf (n+(if c then 1 else 0))=(lf n^^c):=by
 unfold lf;cases c with
 |false=>simp
 |true=>
  simp only [if_true];rcases Nat.mod_two_eq_zero_or_one n with h|h
  .have:(n+1)%2=1:=ag;rw [h,this];rfl
  .have:(n+1)%2=0:=ag;rw [h,this];rfl
def pc(a b:Po)(m:Nat):Nat->Po
 |0=>λ_=>af
 |k+1=>λn=>pc a b m k n^^(a (m+k)&&(decide (k<=n)&&(decide (n-k<128)&&b (n-k))))
theorem Sq(a b:Po)(m:Nat):∀k n,pc a b m (k+1) n=(jW (pc a b (m+1) k) n^^low (a m) b n)
 |0,n=>by simp [pc,jW,low]
 |k+1,n=>by
  show(pc a b m (k+1) n^^(a (m+(k+1))&&(decide (k+1<=n)&&(decide (n-(k+1)<128)&&b (n-(k+1))))))=_
  rw [Sq a b m k n];cases n with
  |zero=>simp [jW]
  |succ n=>
   rw [DY,DY];show _=((pc a b (m+1) k n^^(a (m+1+k)&&(decide (k<=n)&&(decide (n-k<128)&&b (n-k)))))^^low (a m) b (n+1))
   rw [show m+(k+1)=m+1+k by omega,show n+1-(k+1)=n-k by omega,show decide (k+1<=n+1)=decide (k<=n) by simp];cases pc a b (m+1) k n<;>cases low (a m) b (n+1)<;>cases(a (m+1+k)&&(decide (k<=n)&&(decide (n-k<128)&&b (n-k))))<;>rfl
theorem O8(a b:Po):∀k,k<=128->cv a b k=pc a b (128-k) k
 |0,_=>rfl
 |k+1,h=>by
  rw [Jx,O8 a b k ag]
  funext n
  rw [Sq,show 128-(k+1)+1=128-k by omega,show 127-k=128-(k+1) by omega];rfl
theorem Rw(a b:Po):∀k n,lf (cs a b k n)=pc a b 0 k n
 |0,_=>rfl
 |k+1,n=>by
  show lf (cs a b k n+_)=(pc a b 0 k n^^_)
  rw [Rv,Rw a b k n,ig]
theorem agY(a b:Po)(n:Nat)(hn:n<128):jk (λn=>lf (cs a b 128 n)) 128 n=sD a b 128 n:=by
 have:(λn=>lf (cs a b 128 n))=cv a b 128:=by funext n;rw [Rw,O8 a b 128 ag]
 rw [this];exact Qa a b 128 ag n hn
def pb(o:UInt64×UInt64):Po:=λn=>if n<64 then cN o.1 n else cN o.2 (n-64)
theorem Yh:∀n,n<64->cN 135 n=Cp n:=by decide+kernel
theorem Fa:∀n,n<64->cN 1 n=(n==0):=by decide+kernel
theorem aiW(x:UInt64):bh x 63=if cN x 63 then 1 else 0:=by
 apply Fc;intro i hi;rw [w6 _ _ _ aw];by_cases h0:i=0
 .subst h0;by_cases h:cN x 63=ab
  .rw [if_pos h,Fa 0 aw];simpa using h
  .rw [if_neg h,CU];simpa using h
 .rw [CR x _ ag];by_cases h:cN x 63=ab
  .rw [if_pos h,Fa i hi];simp [h0]
  .rw [if_neg h,CU]
theorem agD(x:UInt64)(n:Nat)(h:n<64):cN (bh x 63*135) n=(cN x 63&&Cp n):=by
 rw [aiW];by_cases hb:cN x 63=ab
 .rw [if_pos hb,hb,UInt64.one_mul,Yh n h];simp
 .rw [if_neg hb,UInt64.zero_mul,CU];have:cN x 63=af:=by simpa using hb
  rw [this];simp
theorem ajK(n:Nat)(h:64<=n):Cp n=af:=by unfold Cp;have h0:(n==0)=af:=aA;have h1:(n==1)=af:=aA;have h2:(n==2)=af:=aA;have r:(n==7)=af:=aA;rw [h0,h1,h2,r];rfl
theorem agP(o:UInt64×UInt64)(n:Nat)(hn:n<128):pb (vt o) n=xt (pb o) n:=by
 have r:pb o 127=cN o.2 63:=rfl;unfold xt;rw [r];by_cases h:n<64
 .show(if n<64 then cN (dr o.1 1^^^bh o.2 63*135) n else _)=_
  rw [if_pos h,Ji,agD _ _ h,CS _ _ _ aw];have e:pb o (n-1)=cN o.1 (n-1):=if_pos ag;rw [e];have:decide (1<=n)=decide (0<n):=rfl;simp [hn,h,this]
 .show(if n<64 then _ else cN (dr o.2 1|||bh o.1 63) (n-64))=_
  rw [if_neg h,Fe,CS _ _ _ aw,w6 _ _ _ aw,ajK n ag];by_cases h0:n=64
  .subst h0;have e:pb o (64-1)=cN o.1 63:=rfl;rw [e];simp
  .rw [CR o.1 (63+(n-64)) ag];have e:pb o (n-1)=cN o.2 (n-64-1):=by unfold pb;rw [if_neg (by omega),show n-1-64=n-64-1 by omega]
   have h1:decide (1<=n-64)=ab:=aA;have h2:decide (n-64<64)=ab:=aA;have h3:decide (0<n)=ab:=aA;rw [e,h1,h2,h3];simp [hn]
theorem X6(x:UInt64):(x&&&1=1)↔cN x 0=ab:=by
 constructor
 .intro h;have:=congrArg (λy=>cN y 0) h;simp only [Fb,Fa 0 aw]at this;exact pK
 .intro h;apply Fc;intro i hi;rw [Fb,Fa i hi];by_cases h0:i=0
  .subst h0;simp [h]
  .simp [h0]
theorem TP(p:UInt64×UInt64)(k:Nat)(hk:k<128):sS p k=1↔pb p (127-k)=ab:=by
 unfold sS;rw [X6];by_cases h:127-k>=64
 .rw [if_pos h,w6 _ _ _ ag,show(127-k)%64+0=127-k-64 by omega];unfold pb;rw [if_neg ag]
 .rw [if_neg h,w6 _ _ _ ag,show(127-k)%64+0=127-k by omega];unfold pb;rw [if_pos ag]
theorem Sn(o q:UInt64×UInt64)(n:Nat):pb (o.1^^^q.1,o.2^^^q.2) n=(pb o n^^pb q n):=by
 unfold pb;by_cases h:n<64
 .simp only [if_pos h,Ji]
 .simp only [if_neg h,Ji]
theorem Sp(p q:UInt64×UInt64):∀k,k<=128->∀n,n<128->pb (kR p q k) n=sD (pb p) (pb q) k n
 |0,_,n,_=>by rw [Vu];unfold pb;simp [CU,sD]
 |k+1,hk,n,hn=>by
  have ih:=Nm (Sp p q k ag) n hn;have e:sD (pb p) (pb q) (k+1) n=(xt (sD (pb p) (pb q) k) n^^(pb p (127-k)&&(decide (n<128)&&pb q n))):=rfl;rw [e,<-ih,<-agP _ n hn];by_cases hb:sS p k=1
  .rw [MP hb,Sn,(TP p k ag).1 hb];simp [hn]
  .rw [MO hb];have:pb p (127-k)=af:=by
    cases h:pb p (127-k)with
    |false=>rfl
    |true=>exact absurd ((TP p k ag).2 h) hb
   rw [this];simp
def ns(x:UInt8)(i:Nat):Bool:=x.toNat.testBit i
theorem Jn(x:UInt8)(i:Nat)(h:8<=i):ns x i=af:=by unfold ns;apply Nat.testBit_lt_two_pow;exact wU (eQ x) (uo aw h)
theorem Yn{x y:UInt8}(h:∀i,i<8->ns x i=ns y i):x=y:=by
 apply UInt8.toNat_inj.mp;apply Nat.eq_of_testBit_eq;intro i;by_cases hi:i<8
 .exact h i hi
 .have h1:=Jn x i ag;have h2:=Jn y i ag;unfold ns at h1 h2;rw [h1,h2]
theorem Yo(x:UInt64)(i:Nat)(h:i<8):ns x.toUInt8 i=cN x i:=by unfold ns cN;rw [oB,Nat.testBit_mod_two_pow];simp [h]
theorem Yi(x:UInt8)(i:Nat):cN x.toUInt64 i=ns x i:=by unfold ns cN;simp
theorem Jj(l:List UInt8)(o:Nat):∀k,k<=8->∀j,cN (iK l o k) j=(decide (j<8*k)&&ns (l.getD (o+(k-1-j/8)) 0) (j%8))
 |0,_,j=>by rw [Jl,CU];simp
 |k+1,hk,j=>by
  rw [Jk,Fe,CS _ _ _ aw,Yi,Jj l o k ag];by_cases r:j<8
  .have h1:decide (8<=j)=af:=aA;have h2:decide (j<8*(k+1))=ab:=aA;rw [h1,h2,show k+1-1-j/8=k by omega,show j%8=j by omega];simp
  .rw [Jn _ j ag];have h1:decide (8<=j)=ab:=aA;rw [h1,show k-1-(j-8)/8=k+1-1-j/8 by omega,show(j-8)%8=j%8 by omega];by_cases h3:j<8*(k+1)
   .have h4:decide (j<64)=ab:=aA;have h5:decide (j-8<8*k)=ab:=aA;rw [h4,h5];simp [h3]
   .have h5:decide (j-8<8*k)=af:=aA;rw [h5];simp [h3]
def cb(l:List UInt8):Po:=λn=>ns (l.getD (n/8) 0) (7-n%8)
def lh(l:List UInt8):UInt64×UInt64:=(mS (iK l 0 8),mS (iK l 8 8))
theorem B6(l:List UInt8)(n:Nat)(hn:n<128):pb (lh l) n=cb l n:=by
 unfold pb lh cb;by_cases h:n<64
 .rw [if_pos h];show cN (mS (iK l 0 8)) n=_
  rw [Ff _ _ h,Jj l 0 8 aw];have:decide (63-n<8*8)=ab:=aA;rw [this,show 0+(8-1-(63-n)/8)=n/8 by omega,show(63-n)%8=7-n%8 by omega];simp
 .rw [if_neg h];show cN (mS (iK l 8 8)) (n-64)=_
  rw [Ff _ _ ag,Jj l 8 8 aw];have:decide (63-(n-64)<8*8)=ab:=aA;rw [this,show 8+(8-1-(63-(n-64))/8)=n/8 by omega,show(63-(n-64))%8=7-n%8 by omega];simp
def pj(o:UInt64×UInt64):List UInt8:=(cQ 16).map (bB o.1 o.2)
theorem OQ(o:UInt64×UInt64)(n:Nat)(hn:n<128):cb (pj o) n=pb o n:=by
 unfold cb pj pb;rw [tW ag];unfold bB;rw [Yo _ _ ag,w6 _ _ _ ag];by_cases h:n<64
 .rw [if_pos h,if_pos ag,Ff _ _ ag];congr 1;omega
 .rw [if_neg h,if_neg ag,Ff _ _ ag];congr 1;omega
theorem YI{l m:List UInt8}(hl:l.length=16)(hm:m.length=16)(h:∀n,n<128->cb l n=cb m n):l=m:=by apply List.ext_getElem ag;intro j h1 h2;apply Yn;intro i hi;have:=h (8*j+(7-i)) ag;unfold cb at this;rw [show(8*j+(7-i))/8=j by omega,show 7-(8*j+(7-i))%8=i by omega]at this;rw [dk,dk,dy h1,dy h2]at this;exact this
theorem LP{α:Type}(n j:Nat)(f:Nat->α)(x:α):((cQ n).map f).set j x=(cQ n).map (λm=>if m=j then x else f m):=by
 apply ku;intro i;rw [pQ];by_cases h:j=i
 .subst h;by_cases h2:j<n
  .simp [h2]
  .simp [h2]
 .rw [if_neg h];by_cases h2:i<n
  .simp only [ky,wR h2,nq];rw [if_neg (λe=>h e.symm)]
  .simp [h2]
def uB(b:List UInt8)(i:Nat):Nat:=(b.getD (i/8) 0).toNat/2^(7-i%8)%2
theorem Fp(b:List UInt8)(i:Nat):uB b i=if cb b i then 1 else 0:=by unfold uB cb ns;rw [Nat.testBit_eq_decide_div_mod_eq];rcases Nat.mod_two_eq_zero_or_one ((b.getD (i/8) 0).toNat/2^(7-i%8))with h|h<;>rw [h]<;>simp
def ck(a b:Po)(i k n:Nat):Nat:=cs a b i n+(if decide (i<=n)&&(decide (n-i<k)&&b (n-i))then 1 else 0)
theorem C0(a b:Po)(i n:Nat):ck a b i 0 n=cs a b i n:=by simp [ck]
theorem YO(a b:Po)(i n:Nat)(h:a i=ab):ck a b i 128 n=cs a b (i+1) n:=by
 show _=cs a b i n+_
 unfold ck;rw [h];simp
theorem Y0(a b:Po)(i n:Nat)(h:a i=af):cs a b (i+1) n=cs a b i n:=by
 show cs a b i n+_=_
 rw [h];simp
theorem YP(a b:Po)(i k n:Nat):ck a b i (k+1) n=if n=i+k then ck a b i k n+(if b k then 1 else 0)else ck a b i k n:=by
 unfold ck;by_cases h:n=i+k
 .subst h;rw [if_pos rfl];have h1:i+k-i=k:=ag;simp [h1]
 .rw [if_neg h];have e:(decide (i<=n)&&decide (n-i<k+1))=(decide (i<=n)&&decide (n-i<k)):=by rw [jq];simp;omega
  have e2:(decide (i<=n)&&(decide (n-i<k+1)&&b (n-i)))=(decide (i<=n)&&(decide (n-i<k)&&b (n-i))):=by rw [<-Bool.and_assoc,e,Bool.and_assoc]
  rw [e2]
def ld(a b:Po)(i k:Nat):List Int:=(cQ 256).map λn=>((ck a b i k n:Nat):Int)
theorem OV(a b:Po)(i k:Nat):(ld a b i k).length=256:=od
theorem YS(a:Po)(b:List UInt8)(i k:Nat)(h:i+k<256):(ld a (cb b) i k).set (i+k) ((ld a (cb b) i k).getD (i+k) 0+((uB b k:Nat):Int))=ld a (cb b) i (k+1):=by
 unfold ld;rw [LP,tW h];apply qQ;intro n _;rw [YP,Fp];by_cases hn:n=i+k
 .subst hn;rw [if_pos rfl,if_pos rfl];simp
 .rw [if_neg hn,if_neg hn]
def dW(f:Nat->Nat):Nat->Nat->Nat
 |0=>f
 |k+1=>λn=>if dW f k (255-k)%2=1/\(n=255-k-128\/n=255-k-127\/n=255-k-126\/n=255-k-121)then dW f k n+1 else dW f k n
theorem Rx(f:Nat->Nat):∀k,(λn=>lf (dW f k n))=jk (λn=>lf (f n)) k
 |0=>rfl
 |k+1=>by
  show _=lD (255-k) (jk (λn=>lf (f n)) k)
  rw [<-Rx f k]
  funext n
  show lf (if dW f k (255-k)%2=1/\(n=255-k-128\/n=255-k-127\/n=255-k-126\/n=255-k-121)then dW f k n+1 else dW f k n)=(lf (dW f k n)^^(lf (dW f k (255-k))&&(n==255-k-128||n==255-k-127||n==255-k-126||n==255-k-121)))
  by_cases h1:dW f k (255-k)%2=1
  .have e1:lf (dW f k (255-k))=ab:=by unfold lf;rw [h1];rfl
   rw [e1];by_cases h2:n=255-k-128\/n=255-k-127\/n=255-k-126\/n=255-k-121
   .rw [if_pos ⟨h1,h2⟩];have e2:(n==255-k-128||n==255-k-127||n==255-k-126||n==255-k-121)=ab:=by simp only [oy,beq_iff_eq];omega
    rw [e2];have:=Rv (dW f k n) ab;exact pK
   .rw [if_neg (λh=>h2 h.2)];have e2:(n==255-k-128||n==255-k-127||n==255-k-126||n==255-k-121)=af:=by rw [Bool.eq_false_iff];intro r;simp only [oy,beq_iff_eq]at r;omega
    rw [e2];simp
  .rw [if_neg (λh=>h1 h.1)];have e1:lf (dW f k (255-k))=af:=by unfold lf;simpa using h1
   rw [e1];simp
def iM(f:Nat->Nat)(k:Nat):List Int:=(cQ 256).map λn=>((dW f k n:Nat):Int)
theorem Ke(f:Nat->Nat)(k:Nat):(iM f k).length=256:=od
theorem Kd(f:Nat->Nat)(k n:Nat)(h:n<256):(iM f k).getD n 0=((dW f k n:Nat):Int):=tW h
theorem aaS(f:Nat->Nat)(k:Nat)(h:¬dW f k (255-k)%2=1):iM f (k+1)=iM f k:=by
 unfold iM;apply qQ;intro n _;show((if _ then _ else _:Nat):Int)=_
 rw [if_neg (λr=>h r.1)]
def sE(l:List Int)(j:Nat):List Int:=l.set j (l.getD j 0+1)
theorem Gh(f:Nat->Int)(j:Nat)(h:j<256):sE ((cQ 256).map f) j=(cQ 256).map (λm=>if m=j then f m+1 else f m):=by
 unfold sE;rw [LP,tW h];apply qQ;intro m _;by_cases hm:m=j
 .rw [if_pos hm,if_pos hm,hm]
 .rw [if_neg hm,if_neg hm]
theorem aaU(f:Nat->Nat)(k:Nat)(hk:k<128)(h:dW f k (255-k)%2=1):sE (sE (sE (sE (iM f k) (255-k-128)) (255-k-127)) (255-k-126)) (255-k-121)=iM f (k+1):=by
 unfold iM;rw [Gh _ _ ag,Gh _ _ ag,Gh _ _ ag,Gh _ _ ag];apply qQ;intro n _;show _=((if dW f k (255-k)%2=1/\(n=255-k-128\/n=255-k-127\/n=255-k-126\/n=255-k-121)then dW f k n+1 else dW f k n:Nat):Int)
 by_cases a1:n=255-k-128
 .rw [if_pos (show(dW f k (255-k)%2=1/\(n=255-k-128\/n=255-k-127\/n=255-k-126\/n=255-k-121))from⟨h,.inl a1⟩),if_neg (show ¬n=255-k-121 by omega),if_neg (show ¬n=255-k-126 by omega),if_neg (show ¬n=255-k-127 by omega),if_pos a1];simp
 .by_cases a2:n=255-k-127
  .rw [if_pos (show(dW f k (255-k)%2=1/\(n=255-k-128\/n=255-k-127\/n=255-k-126\/n=255-k-121))from⟨h,.inr (.inl a2)⟩),if_neg (show ¬n=255-k-121 by omega),if_neg (show ¬n=255-k-126 by omega),if_pos a2,if_neg a1];simp
  .by_cases r:n=255-k-126
   .rw [if_pos (show(dW f k (255-k)%2=1/\(n=255-k-128\/n=255-k-127\/n=255-k-126\/n=255-k-121))from⟨h,.inr (.inr (.inl r))⟩),if_neg (show ¬n=255-k-121 by omega),if_pos r,if_neg a2,if_neg a1];simp
   .by_cases u:n=255-k-121
    .rw [if_pos (show(dW f k (255-k)%2=1/\(n=255-k-128\/n=255-k-127\/n=255-k-126\/n=255-k-121))from⟨h,.inr (.inr (.inr u))⟩),if_pos u,if_neg r,if_neg a2,if_neg a1];simp
    .rw [if_neg (show ¬(dW f k (255-k)%2=1/\(n=255-k-128\/n=255-k-127\/n=255-k-126\/n=255-k-121))from λF=>ag),if_neg u,if_neg r,if_neg a2,if_neg a1]
def mB(g:Nat->Nat)(i:Nat):Nat->UInt8
 |0=>0
 |k+1=>2*mB g i k+dg ((g (8*i+k):Int).tmod 2)
theorem YA(g:Nat->Nat)(i:Nat):mB g i 0=0:=rfl
theorem OL(g:Nat->Nat)(i k:Nat):mB g i (k+1)=2*mB g i k+dg ((g (8*i+k):Int).tmod 2):=rfl
def rJ(g:Nat->Nat)(i:Nat):Nat->Nat
 |0=>0
 |k+1=>2*rJ g i k+g (8*i+k)%2
theorem Rl(g:Nat->Nat)(i:Nat):∀k,rJ g i k<2^k
 |0=>by simp [rJ]
 |k+1=>by have:=Rl g i k;simp only [rJ,Nat.pow_succ];omega
theorem aj8(n:Nat):(dg ((n:Int).tmod 2)).toNat=n%2:=by
 unfold dg;have:(((n:Int).tmod 2)%256).toNat=n%2:=by rw [sk ag];omega
 rw [this];simp;omega
theorem OK(g:Nat->Nat)(i:Nat):∀k,k<=8->(mB g i k).toNat=rJ g i k
 |0,_=>rfl
 |k+1,hk=>by
  have h1:=Rl g i k;have h2:2^k<=128:=jP (uo aw (show k<=7 by omega)) aw;rw [OL,UInt8.toNat_add,UInt8.toNat_mul,OK g i k ag,aj8];show(2*rJ g i k%256+g (8*i+k)%2)%256=2*rJ g i k+g (8*i+k)%2
  omega
theorem Rj(g:Nat->Nat)(i:Nat):∀k j,j<k->(rJ g i k).testBit j=lf (g (8*i+(k-1-j)))
 |k+1,0,_=>by
  rw [Nat.testBit_zero];show decide ((2*rJ g i k+g (8*i+k)%2)%2=1)=lf (g (8*i+k))
  unfold lf;rw [jq];simp
 |k+1,j+1,h=>by
  rw [Nat.testBit_succ];have:(2*rJ g i k+g (8*i+k)%2)/2=rJ g i k:=ag;show((2*rJ g i k+g (8*i+k)%2)/2).testBit j=_
  rw [this,Rj g i k j ag,show k+1-1-(j+1)=k-1-j by omega]
def GN(g:Nat->Nat):List UInt8:=(cQ 16).map λi=>mB g i 8
theorem agv(g:Nat->Nat):(GN g).length=16:=od
theorem YJ(g:Nat->Nat)(n:Nat)(hn:n<128):cb (GN g) n=lf (g n):=by unfold cb GN;rw [tW ag];unfold ns;rw [OK g _ 8 ag,Rj g _ 8 _ ag];congr 2;omega
theorem QC{p p2 q q2:Po}(hp:∀n,n<128->p n=p2 n)(hq:∀n,n<128->q n=q2 n):∀k,k<=128->∀n,n<128->sD p q k n=sD p2 q2 k n
 |0,_,_,_=>rfl
 |k+1,hk,n,hn=>by
  show(xt (sD p q k) n^^(p (127-k)&&(decide (n<128)&&q n)))=(xt (sD p2 q2 k) n^^(p2 (127-k)&&(decide (n<128)&&q2 n)))
  rw [Nm (QC hp hq k ag) n hn,hp _ ag,hq n hn]
def vW(a b:List UInt8):List UInt8:=pj (kR (lh a) (lh b) 128)
theorem afi(a b:List UInt8):(vW a b).length=16:=by unfold vW pj;exact od
theorem agw(a b:List UInt8):GN (dW (cs (cb a) (cb b) 128) 128)=vW a b:=by apply YI (agv _) (afi a b);intro n hn;rw [YJ _ n hn];unfold vW;rw [OQ _ n hn,Sp _ _ 128 ag n hn,QC (λm hm=>B6 a m hm) (λm hm=>B6 b m hm) 128 ag n hn,<-agY _ _ n hn,<-Rx]
open Go.Proofs
theorem Za:∀i:Nat,i<128->au ((i:Int).tdiv 8)=((i/8:Nat):Int)/\(i:Int).tmod 8=((i%8:Nat):Int):=by decide+kernel
theorem acx(n:Nat)(h:n<100000):au ((n:Int).tdiv 2)=((n/2:Nat):Int):=by rw [Int.tdiv_eq_ediv_of_nonneg (by omega)];simp only [eI];omega
theorem f104(f:Bool)(b:List UInt8)(hb:b.length=16)(i:Nat)(hi:i<128):aM 186 [.sl 0 0 16 1 f,.i (i:Int)] [ak b] (.i ((uB b i:Nat):Int)) []:=by
 obtain⟨hd,hm⟩:=Za i hi;have hc:(b.getD (i/8) 0).toNat<256:=eQ _;refine aL (fn:=Tryz.f186) ?_;refine zu ?_;repeat(first|refine zH (cU (i:=i/8) aT ag) ?_|refine zH (bg (m:=i/8) aT) ?_|refine aS ?_)
 refine fH (ι:={k:Nat//i%8<=k/\k<=7}) (λk=> [(5,.i (((b.getD (i/8) 0).toNat/2^(k.1-i%8):Nat):Int)),(6,.i (k.1:Int))]) (λ_=> [ak b]) (λ_=>1) (λk=>7-k.1) ⟨i%8,ag,ag⟩ ?_ ?_
 .have h0:(((b.getD (i/8) 0).toNat/2^(i%8-i%8):Nat):Int)=(((b.getD (i/8) 0).toNat:Nat):Int):=by rw [pR,Nat.pow_zero,Nat.div_one]
  refine bP [0] ?_ ?_
  ·(repeat'(first|exact trivial|refine aJ ?_ ?_|fail))<;>first|exact dh (by first|exact hm|exact h0|fail)|fail
  .exact zo
 .rintro⟨k,u,hk⟩;have hlt2:(b.getD (i/8) 0).toNat/2^(k-i%8)<256:=Nat.lt_of_le_of_lt (Nat.div_le_self _ _) hc;dsimp only;by_cases hk2:k<7
  .have hlt:decide ((k:Int)<7)=ab:=aA;have hp1:=jY k ag;have r:=acx _ (show(b.getD (i/8) 0).toNat/2^(k-i%8)<100000 by omega);rw [Nat.div_div_eq_div_mul,<-Nat.pow_succ,show(k-i%8).succ=k+1-i%8 by omega]at r;refine zt ?_;refine zc ?_;refine⟨⟨k+1,ag,ag⟩,dt,?_⟩;refine bP [0] ?_ ?_
   ·(repeat'(first|exact trivial|refine aJ ?_ ?_|fail))<;>first|exact dh (by first|exact hp1.symm|exact r.symm|fail)|fail
   .exact zo
  .obtain rfl:k=7:=ag;have hr:(((b.getD (i/8) 0).toNat/2^(7-i%8):Nat):Int).tmod 2=((uB b i:Nat):Int):=by exact HP _ 2
   refine zy ?_;refine zc ?_;refine⟨[0],?_,rfl,rfl,?_,rfl⟩
   ·(repeat'(fail))<;>first|exact dh (by exact hr)|fail
   .exact zo
theorem YL(a b:Po)(i:Nat)(h:a i=ab):ld a b i 128=ld a b (i+1) 0:=by unfold ld;apply qQ;intro n _;rw [YO a b i n h,C0]
theorem YM(a b:Po)(i:Nat)(h:a i=af):ld a b (i+1) 0=ld a b i 0:=by unfold ld;apply qQ;intro n _;rw [C0,C0,Y0 a b i n h]
theorem ahJ{α:Type}(n:Nat)(f:Nat->α)(z:α)(h:∀j,f j=z):(cQ n).map f=aK n z:=by
 rw [show f=λ_=>z from funext h]
 induction n with
 |zero=>rfl
 |succ n ih=>rw [Ch,ih,List.replicate_succ']
theorem YN(a b:Po):ld a b 0 0=aK 256 0:=ahJ 256 _ 0 λn=>by rw [C0];rfl
theorem YR(a b:Po)(i k n:Nat)(h:n<256):(ld a b i k).getD n 0=((ck a b i k n:Nat):Int):=tW h
theorem YT(a:Po)(b:List UInt8)(i k:Nat)(hi:i<128)(hk:k<128):(ld a (cb b) i k).set (i+k) (au ((ld a (cb b) i k).getD (i+k) 0+((uB b k:Nat):Int)))=ld a (cb b) i (k+1):=by
 have h1:ck a (cb b) i k (i+k)<=i+1:=by
  unfold ck;have:cs a (cb b) i (i+k)<=i:=by
   have:∀j n,cs a (cb b) j n<=j:=by
    intro j
    induction j with
    |zero=>intro n;exact bH _
    |succ j ih=>intro n;show cs a (cb b) j n+_<=j+1;have:=ih n;split<;>omega
   exact this i _
  split<;>omega
 have h2:uB b k<=1:=by rw [Fp];split<;>omega
 rw [<-YS a b i k ag,YR _ _ _ _ _ ag];congr 1;exact t8
theorem fdE(a b:Po):iM (cs a b 128) 0=ld a b 128 0:=by unfold iM ld;apply qQ;intro n _;rw [C0];rfl
theorem ahp{sel:List Nat}{n:Nat}{l:List Int}(h:l=aK n 0):bu sel (l.map .i)=aa (aK n (.i 0)):=by subst h;exact rS
theorem akm(a b:Nat)(h:a+b<4611686018427387904):au ((a:Int)+(b:Int))=((a+b:Nat):Int):=by simp only [eI];omega
theorem O2(a b:Po):∀i n,cs a b i n<=i
 |0,_=>bH _
 |i+1,n=>by
  show cs a b i n+_<=i+1
  have:=O2 a b i n;split<;>omega
def sF(l:List Int)(j:Nat):List Int:=l.set j (au (l.getD j 0+1))
theorem Gi(l:List Int)(j:Nat)(B:Int)(h:∀n,0<=l.getD n 0/\l.getD n 0<=B)(hB:B<4611686018427387904):sF l j=sE l j:=by unfold sF sE;have:=h j;congr 1;exact t8
theorem KA(l:List Int)(j:Nat)(B:Int)(h:∀n,0<=l.getD n 0/\l.getD n 0<=B):∀n,0<=(sE l j).getD n 0/\(sE l j).getD n 0<=B+1:=by
 intro n;unfold sE;have h1:=h n;have h2:=h j;rw [dk,pQ];by_cases hn:j=n
 .rw [if_pos hn];by_cases hl:j<l.length
  .rw [if_pos hl];simp only [Option.getD_some];omega
  .rw [if_neg hl];simp only [Option.getD_none];omega
 .rw [if_neg hn,<-dk];omega
theorem PX(f:Nat->Nat)(B:Nat)(h:∀n,f n<=B):∀k n,dW f k n<=B+k
 |0,n=>h n
 |k+1,n=>by
  have e:dW f (k+1) n<=dW f k n+1:=by
   show(if _ then _ else _)<=_
   split
   .exact bH _
   .exact Nat.le_succ _
  have:=PX f B h k n;omega
theorem aaR(f:Nat->Nat)(B:Nat)(h:∀n,f n<=B)(k n:Nat):0<=(iM f k).getD n 0/\(iM f k).getD n 0<=((B+k:Nat):Int):=by
 by_cases hn:n<256
 .rw [Kd _ _ _ hn];have:=PX f B h k n;omega
 .rw [dk,dI (by rw [Ke];omega)];simp only [Option.getD_none];omega
theorem aaV(f:Nat->Nat)(h:∀n,f n<=128)(m:Nat)(hm:m<128)(ho:dW f (127-m) (128+m)%2=1):sF (sF (sF (sF (iM f (127-m)) m) (m+1)) (m+2)) (m+7)=iM f (128-m):=by have e:255-(127-m)=128+m:=ag;have hs:=aaU f (127-m) ag (by rw [e];exact ho);rw [e,show 128+m-128=m by omega,show 128+m-127=m+1 by omega,show 128+m-126=m+2 by omega,show 128+m-121=m+7 by omega,show 127-m+1=128-m by omega]at hs;rw [<-hs];have r:=aaR f 128 h (127-m);have u:=KA _ m _ r;have F:=KA _ (m+1) _ u;have G:=KA _ (m+2) _ F;rw [Gi _ m _ r ag,Gi _ (m+1) _ u ag,Gi _ (m+2) _ F ag,Gi _ (m+7) _ G ag]
theorem aaT(f:Nat->Nat)(m:Nat)(hm:m<128)(ho:¬dW f (127-m) (128+m)%2=1):iM f (127-m)=iM f (128-m):=by have e:255-(127-m)=128+m:=ag;rw [<-aaS f (127-m) (by rw [e];exact ho),show 127-m+1=128-m by omega]
theorem KB(l:List Int)(j:Nat):(sF l j).length=l.length:=by unfold sF;exact fJ ..
theorem aiK{l:List UInt8}{i:Nat}{x y:UInt8}(h:UInt8->UInt8)(hi:i<l.length)(hy:y=h x):(l.set i x).set i (h ((l.set i x).getD i 0))=l.set i y:=by subst hy;rw [dk,pQ];simp [hi]
theorem i97:∀m:Nat,m<128->au (((128+m:Nat):Int)-1)=((127+m:Nat):Int)/\au (((128+m:Nat):Int)-128)=(m:Int)/\au (((128+m:Nat):Int)-127)=((m+1:Nat):Int)/\au (((128+m:Nat):Int)-126)=((m+2:Nat):Int)/\au (((128+m:Nat):Int)-121)=((m+7:Nat):Int):=by decide+kernel
theorem i8k(i k:Nat)(hi:i<16)(hk:k<8):au (au (8*(i:Int))+(k:Int))=((8*i+k:Nat):Int):=by simp only [eI];omega
attribute [local irreducible] dW mB
attribute [local irreducible] ld iM
theorem f97(W fb:Bool)(a b:List UInt8)(ha:a.length=16)(hb:b.length=16):aM 158 [.sl 0 0 16 1 W,.sl 1 0 16 1 fb] [ak a,ak b] (.sl 2 0 16 1 ab) [aC 5 (vW a b)]:=by
 refine aL (fn:=Tryz.f158) ?_;refine zu ?_;refine vu ?_;refine bT 128 (λi=> [(0,.sl 0 0 16 1 W),(1,.sl 1 0 16 1 fb),(5,.sl 2 0 256 1 ab),(6,.i (i.1:Int))]) (λi=> [ak a,ak b,ao 3 ((ld (cb a) (cb b) i.1 0).map .i)]) 3 ?_ ?_
 .have hz:=YN (cb a) (cb b);refine bP [0,1,2] ?_ ?_
  .exact zo
  ·(repeat'(first|exact trivial|exact ahp hz|refine aJ ?_ ?_|fail))<;>first|rfl|exact aY bY az|fail
 .rintro⟨i,hi⟩;have hl:=OV (cb a) (cb b) i 0;dsimp only;by_cases r:i<128
  .have hlt:decide ((i:Int)<128)=ab:=aA;have hp1:=jY i ag;refine zt ?_;refine zW (cP [0] (f104 W a ha i r)) ?_;by_cases u:cb a i=ab
   .have hn:(((uB a i:Nat):Int)==0)=af:=by rw [Fp,u];rfl
    repeat(first|refine zW (bC hn) ?_)
    refine bT 128 (λk=> [(0,.sl 0 0 16 1 W),(1,.sl 1 0 16 1 fb),(5,.sl 2 0 256 1 ab),(6,.i (i:Int)),(7,.i (k.1:Int))]) (λk=> [ak a,ak b,ao 3 ((ld (cb a) (cb b) i k.1).map .i)]) 3 ?_ ?_
    .exact xA
    .rintro⟨k,hk⟩;have hl:=OV (cb a) (cb b) i k;dsimp only;by_cases hk2:k<128
     .have hlt2:decide ((k:Int)<128)=ab:=aA;have hp2:=jY k ag;have h7:=akm i k ag;refine yt ?_;repeat(first|refine zH (vo (i:=i+k) aT ag) ?_|refine zH (bg (m:=i+k) aT) ?_|refine aS ?_)
      refine zW (cP [1] (f104 fb b hb k hk2)) ?_;have hst:=YT (cb a) b i k r hk2;repeat(first|refine zH (D5 (i:=i+k) aT) ?_|refine zH (bg (m:=i+k) aT) ?_|refine aS ?_)
      refine yG ?_;refine bP [0,1,2] ?_ ?_
      .exact bU
      ·(repeat'(first|exact trivial|refine aJ ?_ ?_|fail))<;>first|rfl|exact aY bY az|exact Cf (by exact hst.symm)|fail
     .obtain rfl:k=128:=ag;have he:=YL (cb a) (cb b) i u;refine zy ?_;refine xI ?_;rw [<-he];exact xA
   .have G:cb a i=af:=by simpa using u
    have hn:(((uB a i:Nat):Int)==0)=ab:=by rw [Fp,G];rfl
    have hs:=YM (cb a) (cb b) i G;repeat(first|refine zW (bl hn) ?_)
    refine xI ?_;rw [hs];exact xA
  .obtain rfl:i=128:=ag;rw [<-fdE];refine zy ?_;have V:∀n,cs (cb a) (cb b) 128 n<=128:=O2 _ _ 128;have O:=agw a b;obtain⟨g,hg⟩:=ax (cs (cb a) (cb b) 128);rw [<-hg]at V O|-;refine fH (ι:={m:Nat//m<=128}) (λm=> [(5,.sl 2 0 256 1 ab),(8,.i ((127+m.1:Nat):Int))]) (λm=> [ak a,ak b,ao 3 ((iM g (128-m.1)).map .i)]) (λ_=>3) (λm=>m.1) ⟨128,ag⟩ ?_ ?_
   .exact xA
   .rintro⟨m,hm⟩;have hl:=Ke g (128-m);dsimp only;rcases m with _|m
    .refine zy ?_;refine vu ?_;refine bT 16 (λi=> [(5,.sl 2 0 256 1 ab),(9,.sl 3 0 16 1 ab),(10,.i (i.1:Int))]) (λi=> [ak a,ak b,ao 3 ((iM g 128).map .i),aC 5 (bR 16 i.1 (λj=>mB (dW g 128) j 8) (λ_=>0))]) 4 ?_ ?_
     .have hz:bR 16 0 (λj=>mB (dW g 128) j 8) (λ_=>(0:UInt8))=aK 16 0:=BE ..;exact sf
     .rintro⟨i,hi⟩;obtain⟨F,U⟩:=ax (bR 16 i (λj=>mB (dW g 128) j 8) (λ_=>(0:UInt8)));have Z:F.length=16:=by rw [U];exact kG ..
      have hl:=Ke g 128;dsimp only;rw [<-U];by_cases r:i<16
      .have hlt:decide ((i:Int)<16)=ab:=aA;have hp1:=jY i ag;have h0:F.set i (mB (dW g 128) i 0)=F:=by rw [U];exact P5 r (YA _ _)
       have h8:F.set i (mB (dW g 128) i 8)=bR 16 (i+1) (λj=>mB (dW g 128) j 8) (λ_=>(0:UInt8)):=by rw [U];exact Dg r
       refine zt ?_;refine bT 8 (λk=> [(5,.sl 2 0 256 1 ab),(9,.sl 3 0 16 1 ab),(10,.i (i:Int)),(11,.i (k.1:Int))]) (λk=> [ak a,ak b,ao 3 ((iM g 128).map .i),aC 5 (F.set i (mB (dW g 128) i k.1))]) 4 ?_ ?_
       .refine bP [0,1,2,3] ?_ ?_
        .exact zo
        ·(repeat'(first|exact trivial|refine aJ ?_ ?_|fail))<;>first|exact gw (by exact h0)|rfl|exact aY bY az|fail
       .rintro⟨k,hk⟩;have hsl:(F.set i (mB (dW g 128) i k)).length=16:=by rw [fJ];exact Z
        dsimp only;by_cases hk2:k<8
        .have hlt2:decide ((k:Int)<8)=ab:=aA;have hp2:=jY k ag;have h7:=i8k i k r hk2;have hv:(iM g 128).getD (8*i+k) 0=((dW g 128 (8*i+k):Nat):Int):=Kd _ _ _ ag;have hst:(F.set i (mB (dW g 128) i k)).set i (2*(F.set i (mB (dW g 128) i k)).getD i 0+dg (((iM g 128).getD (8*i+k) 0).tmod 2))=F.set i (mB (dW g 128) i (k+1)):=
          aiK (λx=>2*x+dg (((iM g 128).getD (8*i+k) 0).tmod 2)) ag (by rw [OL,hv])
         refine yt ?_;repeat(first|refine zH (nC (i:=i) aT) ?_|refine zH (cU (i:=i) aT ag) ?_|refine zH (bg (m:=i) az) ?_|refine zH (vo (i:=8*i+k) aT ag) ?_|refine zH (bg (m:=8*i+k) aT) ?_|refine aS ?_)
         refine yG ?_;exact sf
        .obtain rfl:k=8:=ag;refine zy ?_;refine zC ?_;refine bP [0,1,2,3] ?_ ?_
         .exact bU
         ·(repeat'(first|exact trivial|refine aJ ?_ ?_|fail))<;>first|exact gw (by first|exact h8|exact h8.symm|fail)|rfl|exact aY bY az|fail
      .obtain rfl:i=16:=ag;have hfin:F=vW a b:=by rw [U,p9];exact O
       refine zy ?_;exact bE [0,1,3]
    .obtain⟨I,x7,x6,x5,x0⟩:=i97 m ag;have hge:decide (((127+(m+1):Nat):Int)>=128)=ab:=aA;have h9:128-(m+1)=127-m:=ag;have h6:127+(m+1)=128+m:=ag;have hv:(iM g (127-m)).getD (128+m) 0=((dW g (127-m) (128+m):Nat):Int):=Kd _ _ _ ag;rw [h9]at hl|-;rw [h6]at hge|-;by_cases ho:dW g (127-m) (128+m)%2=1
     .have hb:(((iM g (127-m)).getD (128+m) 0).tmod 2==1)=ab:=by rw [hv];rw [show((dW g (127-m) (128+m):Nat):Int).tmod 2=((dW g (127-m) (128+m)%2:Nat):Int)from HP _ 2,ho];rfl
      have hst:=aaV g V m ag ho;have l1:=KB (iM g (127-m)) m;have l2:=KB (sF (iM g (127-m)) m) (m+1);have l3:=KB (sF (sF (iM g (127-m)) m) (m+1)) (m+2);rw [hl]at l1;rw [l1]at l2;rw [l2]at l3;refine yx ?_;conv=>whnf
      repeat(first|refine zH (vo (i:=128+m) aT ag) ?_|refine zH (bg (m:=128+m) az) ?_|refine aS ?_)
      first|refine du (by exact hb) ?_|fail
      conv=>whnf
      repeat(first|refine zH (D5 (i:=m) aT) ?_|refine zH (vo (i:=m) aT ag) ?_|refine zH (bg (m:=m) aT) ?_|refine zH (D5 (i:=m+1) aT) ?_|refine zH (vo (i:=m+1) aT (by first|(simp [hl];omega))) ?_|refine zH (bg (m:=m+1) aT) ?_|refine zH (D5 (i:=m+2) aT) ?_|refine zH (vo (i:=m+2) aT (by first|(simp [hl];omega))) ?_|refine zH (bg (m:=m+2) aT) ?_|refine zH (D5 (i:=m+7) aT) ?_|refine zH (vo (i:=m+7) aT (by first|(simp [hl];omega))) ?_|refine zH (bg (m:=m+7) aT) ?_|refine aS ?_)
      refine⟨⟨m,ag⟩,dt,?_⟩;refine bP [0,1,2] ?_ ?_
      ·(repeat'(first|exact trivial|refine aJ ?_ ?_|fail))<;>first|exact dh (by first|exact I|exact I.symm|fail)|rfl|fail
      ·(repeat'(first|exact trivial|refine aJ ?_ ?_|fail))<;>first|rfl|exact aY bY az|exact Cf (by exact hst.symm)|fail
     .have hb:(((iM g (127-m)).getD (128+m) 0).tmod 2==1)=af:=by rw [hv];rw [show((dW g (127-m) (128+m):Nat):Int).tmod 2=((dW g (127-m) (128+m)%2:Nat):Int)from HP _ 2];simp;omega
      have hst:=aaT g m ag ho;refine yx ?_;conv=>whnf
      repeat(first|refine zH (vo (i:=128+m) aT ag) ?_|refine zH (bg (m:=128+m) az) ?_|refine zW (bC hb) ?_|refine aS ?_)
      refine⟨⟨m,ag⟩,dt,?_⟩;dsimp only;rw [<-hst];refine bP [0,1,2] ?_ ?_
      ·(repeat'(first|exact trivial|refine aJ ?_ ?_|fail))<;>first|exact dh (by first|exact I|exact I.symm|fail)|rfl|fail
      .exact zo
end Go.Sh
