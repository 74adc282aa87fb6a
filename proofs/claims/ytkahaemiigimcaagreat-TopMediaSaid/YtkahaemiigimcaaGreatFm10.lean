/- Merged for a claim: W9, M11, W11, W12, T2, T3, T4, T5. -/
import Derived.Test.YtkahaemiigimcaaGreatFm9
set_option linter.unusedSimpArgs false
set_option linter.unusedVariables false
set_option maxHeartbeats 4000000
open Option renaming some->aa,bind_some->ur
open Bool renaming true->ab,false->af,eq_iff_iff->jq
open List renaming take->aB,drop->aG,length_append->aW,take_of_length_le->bW,drop_zero->cq,getD_eq_getElem?_getD->dk,length_map->dm,getElem?_eq_getElem->dy,map_append->dU,length_take->eZ,length_drop->fQ,map->fR,mem_cons->gy,map_take->iU,drop_drop->ng,take_take->nK,drop_take->sX
open And renaming intro->aJ
open UInt8 renaming ofNat->cX,toNat_inj->my,toNat_ofNat'->nN,xor_zero->vE
open UInt64 renaming toNat_inj->dJ,lt_iff_toNat_lt->gh,toNat_ofNat'->j5,toNat_lt->l6,toNat_div->nL,toNat_mod->nM,toNat_toUInt8->oB,toNat_shiftRight->sr
open Nat renaming mul_one->fS,mod_eq_of_lt->gq,shiftRight_eq_div_pow->np,add_comm->vC,div_eq_of_lt->vD
open Exists renaming intro->fW
namespace Go.Sh
open Go.Proofs
abbrev kC(s:UInt16)(kid:UInt64)(id n:Nat)(S:List UInt8):List SV:= .u16 s:: .u64 kid:: .sl id 0 n 1 ab::S.map .u8
theorem rL(S:List UInt8)(c:UInt64):(bf S c).length=12:=rfl
theorem Hg(sel:List Nat)(l:List UInt8):bG sel (.agg (l.map .u8))=aa (.agg (l.map .u8)):=by simp [bG,jc]
theorem bV.loose{P:Program}{f:Nat}{args:List SV}{H0 H1:HL}{id o n sz:Nat}{fl:Bool}(h:bV P f args H0 (.sl id o n sz fl) H1):bV P f args H0 (.sl id o n sz af) H1:=
 ⟨h.fn,λnn ρ w vs a b c d=>(h.call nn ρ w vs a b c d).mono λe u hr=>by
  cases e with
  |returned v=>
   obtain⟨ρ1,q1,r⟩:=hr;refine⟨ρ1,?_,r⟩;simp only [av]at q1|-;obtain⟨rb,a,c,h1,h2,h3,_,h5⟩:=q1;exact⟨rb,a,c,h1,h2,h3,(λh=>by cases h),h5⟩
  |_=>exact hr⟩
theorem uM{s:UInt16}{r:UInt8}{z e t l:Nat}(q:aQ 39 [.u16 s] [] (.tup [iB r z e t l,.i 0]) [])(kid:UInt64)(S M:List UInt8)(K:List UInt8)(hS:S.length=12)(hM:M.length<=1024)(f:Bool):aM 16 [.agg (kC s kid 0 z S),.sl 1 0 M.length 1 f] [ak K,ak M] (.tup [iB r z e t l,.i 0]) []:=by
 have e1:decide ((M.length:Int)>1024)=af:=ox;have e2:(((z:Nat):Int) !=((z:Nat):Int))=af:=aq;refine aL (fn:=Tryz.f16) ?_;refine zM ?_;refine zW (aE [] [] ab q) ?_;repeat(first|refine zH (cK rfl az) ?_|refine zH (df rfl az) ?_|refine zW (bC e1) ?_|refine zW (bC bY) ?_|refine aS ?_)
 exact jy
theorem abA(s:UInt16)(kid c:UInt64)(K S A P:List UInt8)(hk:K.length=16)(hS:S.length=12)(u:A.length<1000000)(hp:P.length<1000000)(f1 f2:Bool):aM 44 [.u64 c,.sl 1 0 A.length 1 f1,.sl 2 0 P.length 1 f2,.p 0 0] [an (kC s kid 3 16 S),ak A,ak P,ak K] (.sl 4 0 (P.length+16) 1 af) [aC 5 (gA (aO K 4 44) 10 (bf S c) A P)]:=by
 have q:=aar K (bf S c) A P A P hk (rL S c) aq aq ag ag u hp ab f1 f2;have q1:=f70 s kid c 16 ab K S hS;obtain⟨N,r⟩:=ax (bf S c);have F:N.length=12:=by rw [r];rfl
 rw [<-r]at q q1|-;exact XE
theorem abE(s:UInt16)(kid c:UInt64)(K S A P X:List UInt8)(o:Nat)(hk:K.length=16)(hS:S.length=12)(u:A.length<1000000)(hp:P.length<1000000)(hX:(X.drop o).take P.length=P)(f1 f2:Bool)(ho:jD (aO K 4 44) 10 (bf S c) A P=ab):aM 47 [.u64 c,.sl 1 0 A.length 1 f1,.sl 2 o P.length 1 f2,.p 0 0] [an (kC s kid 3 16 S),ak A,ak X,ak K] (.tup [.sl 4 0 (gr P) 1 af,.i 0]) [aC 5 (mN (aO K 4 44) 10 (bf S c) P)]:=by
 have h16:16<=P.length:=XQ;have q:=(aav K (bf S c) A P A P hk h16 (rL S c) aq aq ag ag u hp ho ab f1 f2).sub 2 o (X.map .u8) (P.map .u8) 6 rfl rfl IT aq aq aw ⟨.inr ⟨rfl,rfl⟩,.inr ⟨rfl,Hg _ _⟩,.inr ⟨rfl,rfl⟩,.inl rfl,trivial⟩ rfl ⟨.inr (.inl bI),.inr (.inl bI),.inl rfl,trivial⟩ ⟨.inr (.inl bI),.inr (.inl bI),.inl rfl,.inr (.inl bI),trivial⟩;have q1:=f70 s kid c 16 ab K S hS;obtain⟨N,r⟩:=ax (bf S c);have F:N.length=12:=by rw [r];rfl
 rw [<-r]at q q1|-;exact XF
theorem abC(s:UInt16)(kid c:UInt64)(K S A P X:List UInt8)(o:Nat)(hk:K.length=16)(hS:S.length=12)(u:A.length<1000000)(hp:P.length<1000000)(hX:(X.drop o).take P.length=P)(f1 f2:Bool)(ho:jD (aO K 4 44) 10 (bf S c) A P=af):aM 47 [.u64 c,.sl 1 0 A.length 1 f1,.sl 2 o P.length 1 f2,.p 0 0] [an (kC s kid 3 16 S),ak A,ak X,ak K] (.tup [.slnil,.i 140]) []:=by
 have q:=(show bV Tryz.prog 48 [.sl 0 0 16 1 ab,.agg ((bf S c).map .u8),.sl 1 0 A.length 1 f1,.sl 2 0 P.length 1 f2] [ak K,ak A,ak P] (.tup [.slnil,.i 140]) [ak K,ak A,ak P] by
  by_cases h16:16<=P.length
  .exact aat K (bf S c) A P A P hk h16 (rL S c) aq aq ag ag u hp ho ab f1 f2
  .exact aax K (bf S c) A P A P hk ag ab f1 f2).sub 2 o (X.map .u8) (P.map .u8) 6 rfl rfl IT aq aq aw ⟨.inr ⟨rfl,rfl⟩,.inr ⟨rfl,Hg _ _⟩,.inr ⟨rfl,rfl⟩,.inl rfl,trivial⟩ rfl ⟨.inr (.inl bI),.inr (.inl bI),.inl rfl,trivial⟩ ⟨.inr (.inl bI),.inr (.inl bI),.inl rfl,trivial⟩
 have q1:=f70 s kid c 16 ab K S hS;obtain⟨N,r⟩:=ax (bf S c);have F:N.length=12:=by rw [r];rfl
 rw [<-r]at q q1;exact xc
theorem abB(s:UInt16)(kid c:UInt64)(K S A P:List UInt8)(hk:K.length=32)(hS:S.length=12)(u:A.length<1000000)(hp:P.length<1000000)(f1 f2:Bool):aM 44 [.u64 c,.sl 1 0 A.length 1 f1,.sl 2 0 P.length 1 f2,.p 0 0] [an (kC s kid 3 32 S),ak A,ak P,ak K] (.sl 4 0 (P.length+16) 1 af) [aC 5 (gA (aO K 8 60) 14 (bf S c) A P)]:=by
 have q:=aas K (bf S c) A P A P hk (rL S c) aq aq ag ag u hp ab f1 f2;have q1:=f70 s kid c 32 ab K S hS;obtain⟨N,r⟩:=ax (bf S c);have F:N.length=12:=by rw [r];rfl
 rw [<-r]at q q1|-;exact XE
theorem abF(s:UInt16)(kid c:UInt64)(K S A P X:List UInt8)(o:Nat)(hk:K.length=32)(hS:S.length=12)(u:A.length<1000000)(hp:P.length<1000000)(hX:(X.drop o).take P.length=P)(f1 f2:Bool)(ho:jD (aO K 8 60) 14 (bf S c) A P=ab):aM 47 [.u64 c,.sl 1 0 A.length 1 f1,.sl 2 o P.length 1 f2,.p 0 0] [an (kC s kid 3 32 S),ak A,ak X,ak K] (.tup [.sl 4 0 (gr P) 1 af,.i 0]) [aC 5 (mN (aO K 8 60) 14 (bf S c) P)]:=by
 have h16:16<=P.length:=XQ;have q:=(aaw K (bf S c) A P A P hk h16 (rL S c) aq aq ag ag u hp ho ab f1 f2).sub 2 o (X.map .u8) (P.map .u8) 6 rfl rfl IT aq aq aw ⟨.inr ⟨rfl,rfl⟩,.inr ⟨rfl,Hg _ _⟩,.inr ⟨rfl,rfl⟩,.inl rfl,trivial⟩ rfl ⟨.inr (.inl bI),.inr (.inl bI),.inl rfl,trivial⟩ ⟨.inr (.inl bI),.inr (.inl bI),.inl rfl,.inr (.inl bI),trivial⟩;have q1:=f70 s kid c 32 ab K S hS;obtain⟨N,r⟩:=ax (bf S c);have F:N.length=12:=by rw [r];rfl
 rw [<-r]at q q1|-;exact XF
theorem abD(s:UInt16)(kid c:UInt64)(K S A P X:List UInt8)(o:Nat)(hk:K.length=32)(hS:S.length=12)(u:A.length<1000000)(hp:P.length<1000000)(hX:(X.drop o).take P.length=P)(f1 f2:Bool)(ho:jD (aO K 8 60) 14 (bf S c) A P=af):aM 47 [.u64 c,.sl 1 0 A.length 1 f1,.sl 2 o P.length 1 f2,.p 0 0] [an (kC s kid 3 32 S),ak A,ak X,ak K] (.tup [.slnil,.i 140]) []:=by
 have q:=(show bV Tryz.prog 48 [.sl 0 0 32 1 ab,.agg ((bf S c).map .u8),.sl 1 0 A.length 1 f1,.sl 2 0 P.length 1 f2] [ak K,ak A,ak P] (.tup [.slnil,.i 140]) [ak K,ak A,ak P] by
  by_cases h16:16<=P.length
  .exact aau K (bf S c) A P A P hk h16 (rL S c) aq aq ag ag u hp ho ab f1 f2
  .exact aay K (bf S c) A P A P hk ag ab f1 f2).sub 2 o (X.map .u8) (P.map .u8) 6 rfl rfl IT aq aq aw ⟨.inr ⟨rfl,rfl⟩,.inr ⟨rfl,Hg _ _⟩,.inr ⟨rfl,rfl⟩,.inl rfl,trivial⟩ rfl ⟨.inr (.inl bI),.inr (.inl bI),.inl rfl,trivial⟩ ⟨.inr (.inl bI),.inr (.inl bI),.inl rfl,trivial⟩
 have q1:=f70 s kid c 32 ab K S hS;obtain⟨N,r⟩:=ax (bf S c);have F:N.length=12:=by rw [r];rfl
 rw [<-r]at q q1;exact xc
def tN(a b:List UInt8):Nat->UInt8
 |0=>0
 |i+1=>tN a b i|||(a.getD i 0^^^b.getD i 0)
theorem agm(x y:UInt8):x|||y=0↔x=0/\y=0:=by
 constructor
 .intro h;have h2:x.toBitVec|||y.toBitVec=0#8:=by rw [<-UInt8.toBitVec_or,h];rfl
  obtain⟨h3,h4⟩:=BitVec.or_eq_zero_iff.1 h2;exact⟨UInt8.toBitVec_inj.1 h3,UInt8.toBitVec_inj.1 h4⟩
 .rintro⟨rfl,rfl⟩;rfl
theorem akI(x y:UInt8):x^^^y=0↔x=y:=by
 constructor
 .intro h;have:x^^^y^^^y=0^^^y:=by rw [h]
  rwa [UInt8.xor_assoc,UInt8.xor_self,vE,UInt8.zero_xor]at this
 .rintro rfl;exact UInt8.xor_self
theorem RY(a b:List UInt8):∀i,tN a b i=0↔∀j,j<i->a.getD j 0=b.getD j 0
 |0=>⟨λ_ j hj=>absurd hj (Nat.not_lt_zero _),λ_=>rfl⟩
 |i+1=>by
  show tN a b i|||(a.getD i 0^^^b.getD i 0)=0↔_
  rw [agm,akI,RY a b i];constructor
  .rintro⟨h1,h2⟩ j hj;by_cases r:j=i
   .subst r;exact h2
   .exact h1 j ag
  .intro h;exact⟨λj hj=>h j ag,h i ag⟩
theorem ais{a b:List UInt8}(h:a.length=b.length):(tN a b a.length==0)=decide (a=b):=by
 rw [jq,beq_iff_eq,decide_eq_true_iff,RY];constructor
 .intro hj;apply List.ext_getElem h;intro i h1 h2;have:=hj i h1
  rwa [dk,dk,dy h1,dy h2]at this
 .rintro rfl j _;rfl
theorem ago(a b:List UInt8)(i:Nat):tN a b (i+1)=tN a b i|||(a.getD i 0^^^b.getD i 0):=rfl
attribute [local irreducible] tN
theorem f53(a b:List UInt8)(F:a.length<100000000000000)(hb:b.length<100000000000000)(f g:Bool):aM 56 [.sl 0 0 a.length 1 f,.sl 1 0 b.length 1 g] [ak a,ak b] (.b (decide (a=b))) []:=by
 by_cases hl:a.length=b.length
 .have hne:((a.length:Int) !=(b.length:Int))=af:=by rw [hl];simp
  rw [<-ais hl];have hz:tN a b 0=0:=by unfold tN;rfl
  refine Ig ?_;refine zp ?_;refine zl ?_;first|intro _
  conv=>whnf
  refine bT a.length (λi=> [(0,.sl 0 0 a.length 1 f),(1,.sl 1 0 b.length 1 g),(5,.u8 (tN a b i.1)),(13,.i a.length),(14,.i (i.1:Int))]) (λi=> [ak a,ak b]) 2 ?_ ?_
  .exact ED
  .rintro⟨i,hi⟩;dsimp only;by_cases r:i<a.length
   .have hlt:decide ((i:Int)<(a.length:Int))=ab:=aA;have hp:au ((i:Int)+1)=((i+1:Nat):Int):=cp;have u:i<b.length:=ag;have hs:=ago a b i;refine zt ?_;refine Xj ?_;refine xI ?_;rw [hs];exact bL [0,1]
   .obtain rfl:i=a.length:=ag;have hlt:decide ((a.length:Int)<(a.length:Int))=af:=aq;refine yF ?_;conv=>whnf
    exact jy
 .have hne:((a.length:Int) !=(b.length:Int))=ab:=aA;have hd:decide (a=b)=af:=by simp;intro h;exact hl (by rw [h])
  rw [hd];refine Ig ?_;refine zp ?_;first|refine du (by exact hne) ?_|fail
  conv=>whnf
  exact jy
end Go.Sh
namespace Go.Sh
open Go.Proofs
def jf(K N P:List UInt8):List UInt8:=iP (aO (K.take 16) 4 44) 10 (N++ [0,0,0,0]) P
def sR(t:Nat)(K N A T:List UInt8):List UInt8:=(cS (K.drop 16) (iy A.length++iy T.length++iy t++N++A++T)).take t
theorem Cs(K N P:List UInt8):(jf K N P).length=P.length:=AN ..
theorem TK(t:Nat)(K N A T:List UInt8)(ht:t<=32):(sR t K N A T).length=t:=by unfold sR;rw [eZ,tI];omega
abbrev zd(id:Nat):List SV:=cD.map .u8++ [.sl id 0 44 4 af]
theorem Kq(s:UInt16)(kid c:UInt64)(K S P X:List UInt8)(o:Nat)(hk:K.length=48)(hS:S.length=12)(hp:P.length<1000000)(hX:(X.drop o).take P.length=P)(u:o+P.length<=X.length)(f2:Bool):aM 50 [.u64 c,.sl 1 o P.length 1 f2,.p 0 0,.p 2 0] [an (kC s kid 3 48 S),ak X,al [.p 4 0],ak K,an (zd 5),ak (aO (K.take 16) 4 44)] (.sl 6 0 P.length 1 af) [aC 5 (jf K (bf S c) P)]:=by
 have q1:=f70 s kid c 48 ab K S hS;obtain⟨I,n1,n2,O,U,V,W,Z,n8,n9,F,G,r⟩:=FH (rL S c);have q:=vO 44 af (aO (K.take 16) 4 44) 10 rfl (Cv _) ag ag (bf S c++ [0,0,0,0]) X P o hX u (by rw [aW,rL];rfl) ag ab f2;unfold jf;obtain⟨w,hw⟩:=ax (aO (K.take 16) 4 44);rw [<-hw,r]at q;rw [r]at q1;rw [<-hw,r];refine aL (fn:=Tryz.f50) ?_;refine zp ?_;repeat(first|refine zH (cK rfl wL) ?_)
 refine zW (aE [3] [ab] ab q1) ?_;refine zq ?_;refine zW (aE [4,5,8,1] [af,ab,af,ab,ab] af q) ?_;exact bE [0,1,2,3,4,5,9]
theorem Kr(s:UInt16)(kid c:UInt64)(K S A T:List UInt8)(t:Nat)(ht:t<32)(hk:K.length=48)(hS:S.length=12)(ha:A.length<1000000)(hp:T.length<1000000)(f1 f2:Bool):aM 52 [.u64 c,.sl 1 0 A.length 1 f1,.sl 2 0 T.length 1 f2,.p 0 0,.p 3 0] [an (kC s kid 4 48 S),ak A,ak T,an [.u8 1,.i 48,.i 16,.i (t:Int),.i 32],ak K] (.sl 5 0 t 1 af) [dn (cS (K.drop 16) (iy A.length++iy T.length++iy t++bf S c++A++T))]:=by
 have q1:=f70 s kid c 48 ab K S hS;have qa:=KX A.length ag;have qt:=KX T.length ag;have qg:=KX t ag;obtain⟨N,Z⟩:=ax (bf S c);have lN:N.length=12:=by rw [Z];rfl
 rw [<-Z]at q1|-;obtain⟨r,G⟩:=ax (iy A.length);obtain⟨xt,O⟩:=ax (iy T.length);obtain⟨u,I⟩:=ax (iy t);have la:r.length=8:=by rw [G];rfl
 have lt:xt.length=8:=by rw [O];rfl
 have lg:u.length=8:=by rw [I];rfl
 rw [<-G]at qa|-;rw [<-O]at qt|-;rw [<-I]at qg|-;obtain⟨F,hK2⟩:=ax (K.drop 16);have lK:F.length=32:=by rw [hK2,fQ];omega
 have U:=FP F ag [aa (2,af,r),aa (3,af,xt),aa (4,af,u),aa (5,ab,N),aa (6,f1,A),aa (7,f2,T)] [ak r,ak xt,ak u,ak N,ak A,ak T] aq sV ab ab (by intro id f b h;(repeat(rcases gy.1 h with e|h;·(cases e<;>rfl)));exact absurd h (by simp)) (by intro id b h;match id,h with|0,h=>cases h;rfl|1,h=>cases h;rfl|2,h=>cases h;rfl|3,h=>cases h;rfl|4,h=>cases h;rfl|5,h=>cases h;rfl|_+6,h=>simp [hg]at h);rw [show(fR eY [aa (2,af,r),aa (3,af,xt),aa (4,af,u),aa (5,ab,N),aa (6,f1,A),aa (7,f2,T)]).flatten=r++xt++u++N++A++T by simp [eY]]at U;have lm:=tI F (r++xt++u++N++A++T);rw [<-hK2];obtain⟨W,hW⟩:=ax (cS F (r++xt++u++N++A++T));rw [<-hW]at U lm|-;rw [lK]at U;have V:=U.sub 0 16 (K.map .u8) (F.map .u8) 9 rfl rfl XR aq aq aw ⟨.inr ⟨rfl,rfl⟩,.inl rfl,.inr ⟨rfl,rfl⟩,trivial⟩ rfl ⟨.inl rfl,.inr (.inr rfl),.inr (.inl bI),.inr (.inl bI),.inr (.inl bI),.inr (.inl bI),.inr (.inl bI),.inr (.inl bI),trivial⟩ ⟨.inl rfl,.inr (.inr rfl),.inr (.inl bI),.inr (.inl bI),.inr (.inl bI),.inr (.inl bI),.inr (.inl bI),.inr (.inl bI),.inr (.inl bI),trivial⟩;refine aL (fn:=Tryz.f52) ?_;refine zp ?_;repeat(first|refine zH (cK rfl wL) ?_)
 refine zW (aE [4] [ab] ab q1) ?_;repeat(first|refine zH (df rfl (by first|rfl|(simp [hS];omega))) ?_|refine aS ?_)
 refine zW (aE [] [ab] af qa) ?_;refine zW (aE [] [ab] af qt) ?_;refine zc ?_;refine zW (aE [] [ab] af qg) ?_;refine zl ?_;refine RE [4,9,6,7,8,5,1,2] [ab,af,ab,ab,ab,ab,ab,ab,ab] af (V) rfl rfl ⟨⟨rfl,az⟩,by(repeat'(first|exact trivial|refine aJ ?_ ?_))<;>first|exact aY (by first|(simp;done)|fail) (by rfl)|((repeat'(first|exact V8|(refine dM ?_ ?_)))<;>first|rfl|exact iQ rfl (by rfl) (by first|omega)),IU,az,?_⟩;refine zI ?_;have e5:decide (((t:Nat):Int).toNat=32)=af:=aA;rw [e5];exact bE [0,1,2,3,4,10]
theorem abG(s:UInt16)(kid c:UInt64)(K S A P:List UInt8)(t:Nat)(F:0<t)(ht:t<32)(hk:K.length=48)(hS:S.length=12)(u:A.length<1000000)(hp:P.length<1000000)(f1 f2:Bool):aM 54 [.u64 c,.sl 1 0 A.length 1 f1,.sl 2 0 P.length 1 f2,.p 3 0,.p 4 0] [an (kC s kid 7 48 S),ak A,ak P,an [.fn 50 [.p 0 0,.p 6 0]],an [.fn 52 [.p 0 0,.p 5 0]],an [.u8 1,.i 48,.i 16,.i (t:Int),.i 32],al [.p 8 0],ak K,an (zd 9),ak (aO (K.take 16) 4 44)] (.sl 10 0 (P.length+t) 1 af) [aC 5 (jf K (bf S c) P++sR t K (bf S c) A (jf K (bf S c) P))]:=by
 have q1:=Kq s kid c K S P P 0 hk hS hp aq aq f2;have q2:=Kr s kid c K S A (jf K (bf S c) P) t ht hk hS u (by rw [Cs];exact hp) f1 af;have r:=Cs K (bf S c) P;have G:=TK t K (bf S c) A (jf K (bf S c) P) ag;rw [r]at q2;unfold sR;obtain⟨T,hT⟩:=ax (jf K (bf S c) P);rw [<-hT]at q1 q2 r|-;obtain⟨W,hW⟩:=ax (cS (K.drop 16) (iy A.length++iy T.length++iy t++bf S c++A++T));have I:W.length=32:=IV;rw [r]at hW;rw [<-hW]at q2;rw [r,<-hW];refine aL (fn:=Tryz.f54) ?_;refine zM ?_;refine zW (aE [0,2,6,7,8,9] [af,ab,af,ab,af,ab,ab] af q1) ?_;refine zc ?_;refine zW (aE [0,1,10,5,7] [af,ab,ab,ab,ab,ab] af q2) ?_;refine zl ?_;have hcat:(T++W.take t).map SV.u8=aB (P.length*1) (aG 0 (T.map SV.u8))++aB (t*1) (aG 0 (W.map SV.u8)):=by rw [dU,iU,cq,cq,fS,fS,bW (i:=P.length) (l:=T.map SV.u8) aA]
 exact bE [0,1,2,3,4,5,6,7,8,9,12]
def jj(t:Nat)(X:List UInt8):Nat:=X.length-t
def rQ(t:Nat)(K N A X:List UInt8):Bool:=decide (t<=X.length)&&decide (sR t K N A (X.take (jj t X))=X.drop (jj t X))
theorem abI(s:UInt16)(kid c:UInt64)(K S A P X:List UInt8)(o:Nat)(hX:(X.drop o).take P.length=P)(h6:o+P.length<=X.length)(t:Nat)(h8:0<t)(ht:t<32)(hk:K.length=48)(hS:S.length=12)(ha:A.length<1000000)(Z:t<=P.length)(hp:P.length<1000000)(f1 f2:Bool)(V:rQ t K (bf S c) A P=ab):aM 55 [.u64 c,.sl 1 0 A.length 1 f1,.sl 2 o P.length 1 f2,.p 5 0,.p 4 0,.p 3 0] [an (kC s kid 7 48 S),ak A,ak X,an [.fn 50 [.p 0 0,.p 6 0]],an [.fn 52 [.p 0 0,.p 5 0]],an [.u8 1,.i 48,.i 16,.i (t:Int),.i 32],al [.p 8 0],ak K,an (zd 9),ak (aO (K.take 16) 4 44)] (.tup [.sl 10 0 (jj t P) 1 af,.i 0]) [aC 5 (jf K (bf S c) (P.take (jj t P)))]:=by
 obtain⟨q,hq⟩:=ax (jj t P);have h7:P.length=q+t:=by rw [hq];unfold jj;omega
 obtain⟨T,hT⟩:=ax (P.take q);obtain⟨G,hG⟩:=ax (P.drop q);have lT:T.length=q:=by rw [hT,eZ];omega
 have lG:G.length=t:=by rw [hG,fQ];omega
 have r:(X.drop o).take T.length=T:=by rw [lT,hT,<-hX,nK];congr 1;omega
 have O:(X.drop (o+q)).take G.length=G:=by rw [lG,hG,<-hX,sX,ng];congr 1;omega
 have u:cZ (fF 2 7) (.ro (kC s kid 4 48 S))=an (kC s kid 4 48 S):=by have h:=jc (fF 2 7) (cY S);simp only [cZ,bu,bG,h];rfl
 have q2:=λf=>(Kr s kid c K S A T t ht hk hS ha ag f1 f).sub 2 o (X.map .u8) (T.map .u8) 7 rfl rfl (by rw [dm];exact ru r) aq aq aw ⟨.inr ⟨rfl,rfl⟩,.inr ⟨rfl,rfl⟩,.inl rfl,.inr ⟨rfl,rfl⟩,.inr ⟨rfl,rfl⟩,trivial⟩ rfl ⟨.inr (.inr u),.inr (.inl bI),.inl rfl,.inr (.inl rfl),.inr (.inl bI),trivial⟩ ⟨.inr (.inr u),.inr (.inl bI),.inl rfl,.inr (.inl rfl),.inr (.inl bI),.inr (.inl bI),trivial⟩
 obtain⟨W,hW⟩:=ax (cS (K.drop 16) (iy A.length++iy T.length++iy t++bf S c++A++T));have lW:W.length=32:=IV;simp only [<-hW]at q2;have F:(W.take t).length=t:=lu;have q3:=λg=>((f53 (W.take t) G ag ag af g).sub 0 0 (W.map .u8) ((W.take t).map .u8) 7 rfl rfl (by rw [dm,F,cq,iU]) (cY _) (cY _) aw ⟨.inl rfl,.inr ⟨rfl,rfl⟩,trivial⟩ rfl ⟨.inl rfl,.inr (.inl bI),trivial⟩ ⟨.inl rfl,.inr (.inl bI),trivial⟩).sub 1 (o+q) (X.map .u8) (G.map .u8) 7 rfl rfl (by rw [dm];exact ru O) aq aq aw ⟨.inr ⟨rfl,rfl⟩,.inl rfl,trivial⟩ rfl ⟨.inr (.inl bI),.inl rfl,trivial⟩ ⟨.inr (.inl bI),.inl rfl,trivial⟩
 have hd:decide (W.take t=G)=ab:=by rw [<-V];unfold rQ sR;rw [<-hq,<-hT,<-hG,<-hW];simp [Z]
 simp only [hd,lG,F]at q3;have q1:=λf=>Kq s kid c K S T X o hk hS ag r ag f
 try rw [<-hq,<-hT]
 simp only [lT]at q1 q2;obtain⟨U,I⟩:=ax (jf K (bf S c) T);simp only [<-I]at q1;have e1:au (((P.length:Nat):Int)-((t:Nat):Int))=(q:Int):=cp;have e2:decide (((q:Nat):Int)<0)=af:=aq;have e3:P.length-((q:Nat):Int).toNat=t:=aA;have e4:o+((q:Nat):Int).toNat*1=o+q:=aq;refine xV ?_;rw [e3,e4];conv=>whnf
 refine zW (aE [10,2] [ab,ab] ab ((q3 _))) ?_;refine zl ?_;refine zW (aE [0,2,6,7,8,9] [af,ab,af,ab,af,ab,ab] af ((q1 _))) ?_;refine zc ?_;refine⟨[0,1,2,3,4,5,6,7,8,9,11],?_,rfl,rfl,?_,rfl⟩
 .exact zo
 ·(repeat'(first|exact trivial|refine aJ ?_ ?_|(refine dM ?_ ?_)))<;>first|exact gw (by first|exact I|exact I.symm|fail)|rfl|exact aY bY az|exact ke bY az rfl|fail
theorem abH(s:UInt16)(kid c:UInt64)(K S A P X:List UInt8)(o:Nat)(hX:(X.drop o).take P.length=P)(h6:o+P.length<=X.length)(t:Nat)(h8:0<t)(ht:t<32)(hk:K.length=48)(hS:S.length=12)(ha:A.length<1000000)(V:t<=P.length)(hp:P.length<1000000)(f1 f2:Bool)(O:rQ t K (bf S c) A P=af):aM 55 [.u64 c,.sl 1 0 A.length 1 f1,.sl 2 o P.length 1 f2,.p 5 0,.p 4 0,.p 3 0] [an (kC s kid 7 48 S),ak A,ak X,an [.fn 50 [.p 0 0,.p 6 0]],an [.fn 52 [.p 0 0,.p 5 0]],an [.u8 1,.i 48,.i 16,.i (t:Int),.i 32],al [.p 8 0],ak K,an (zd 9),ak (aO (K.take 16) 4 44)] (.tup [.slnil,.i 140]) []:=by
 obtain⟨q,hq⟩:=ax (jj t P);have h7:P.length=q+t:=by rw [hq];unfold jj;omega
 obtain⟨T,hT⟩:=ax (P.take q);obtain⟨G,hG⟩:=ax (P.drop q);have lT:T.length=q:=by rw [hT,eZ];omega
 have Z:G.length=t:=by rw [hG,fQ];omega
 have r:(X.drop o).take T.length=T:=by rw [lT,hT,<-hX,nK];congr 1;omega
 have I:(X.drop (o+q)).take G.length=G:=by rw [Z,hG,<-hX,sX,ng];congr 1;omega
 have u:cZ (fF 2 7) (.ro (kC s kid 4 48 S))=an (kC s kid 4 48 S):=by have h:=jc (fF 2 7) (cY S);simp only [cZ,bu,bG,h];rfl
 have q2:=λf=>(Kr s kid c K S A T t ht hk hS ha ag f1 f).sub 2 o (X.map .u8) (T.map .u8) 7 rfl rfl (by rw [dm];exact ru r) aq aq aw ⟨.inr ⟨rfl,rfl⟩,.inr ⟨rfl,rfl⟩,.inl rfl,.inr ⟨rfl,rfl⟩,.inr ⟨rfl,rfl⟩,trivial⟩ rfl ⟨.inr (.inr u),.inr (.inl bI),.inl rfl,.inr (.inl rfl),.inr (.inl bI),trivial⟩ ⟨.inr (.inr u),.inr (.inl bI),.inl rfl,.inr (.inl rfl),.inr (.inl bI),.inr (.inl bI),trivial⟩
 obtain⟨W,hW⟩:=ax (cS (K.drop 16) (iy A.length++iy T.length++iy t++bf S c++A++T));have lW:W.length=32:=IV;simp only [<-hW]at q2;have F:(W.take t).length=t:=lu;have q3:=λg=>((f53 (W.take t) G ag ag af g).sub 0 0 (W.map .u8) ((W.take t).map .u8) 7 rfl rfl (by rw [dm,F,cq,iU]) (cY _) (cY _) aw ⟨.inl rfl,.inr ⟨rfl,rfl⟩,trivial⟩ rfl ⟨.inl rfl,.inr (.inl bI),trivial⟩ ⟨.inl rfl,.inr (.inl bI),trivial⟩).sub 1 (o+q) (X.map .u8) (G.map .u8) 7 rfl rfl (by rw [dm];exact ru I) aq aq aw ⟨.inr ⟨rfl,rfl⟩,.inl rfl,trivial⟩ rfl ⟨.inr (.inl bI),.inl rfl,trivial⟩ ⟨.inr (.inl bI),.inl rfl,trivial⟩
 have hd:decide (W.take t=G)=af:=by rw [<-O];unfold rQ sR;rw [<-hq,<-hT,<-hG,<-hW];simp [V]
 simp only [hd,Z,F]at q3;have q1:=λf=>Kq s kid c K S T X o hk hS ag r ag f
 try rw [<-hq,<-hT]
 simp only [lT]at q1 q2;obtain⟨U,hU⟩:=ax (jf K (bf S c) T);simp only [<-hU]at q1;have e1:au (((P.length:Nat):Int)-((t:Nat):Int))=(q:Int):=cp;have e2:decide (((q:Nat):Int)<0)=af:=aq;have e3:P.length-((q:Nat):Int).toNat=t:=aA;have e4:o+((q:Nat):Int).toNat*1=o+q:=aq;refine xV ?_;rw [e3,e4];conv=>whnf
 refine zW (aE [10,2] [ab,ab] ab ((q3 _))) ?_;refine zc ?_;exact EA
abbrev iC(hh:UInt8)(z e t l:Nat):List SV:= [.u8 hh,.i (z:Int),.i (e:Int),.i (t:Int),.i (l:Int)]
theorem BF(s:UInt16)(r:UInt8)(z t l:Nat)(kid:UInt64)(K S:List UInt8)(hS:S.length=12):aM 18 [.agg (iC r z z t l),.agg (kC s kid 0 z S)] [ak K] (.agg [.fn 44 [.p 1 0],.fn 47 [.p 1 0]]) [al (kC s kid 0 z S)]:=by
 have e2:(((z:Nat):Int)==((z:Nat):Int))=ab:=aq;refine aL (fn:=Tryz.f18) ?_;refine zp ?_;repeat(first|refine zH (cK rfl az) ?_|refine zH (df rfl az) ?_|refine zW (bl e2) ?_|refine zf ?_)
 exact bE [0,2]
theorem Kk(s:UInt16)(t:Nat)(kid:UInt64)(K S:List UInt8)(hk:K.length=48)(hS:S.length=12):aM 18 [.agg (iC 1 48 16 t 32),.agg (kC s kid 0 48 S)] [ak K] (.agg [.fn 54 [.p 3 0,.p 4 0],.fn 55 [.p 2 0,.p 4 0,.p 3 0]]) [al (kC s kid 0 48 S),al (iC 1 48 16 t 32),al [.fn 50 [.p 1 0,.p 5 0]],al [.fn 52 [.p 1 0,.p 2 0]],al [.p 6 0],al (zd 7),aC 179 (aO (K.take 16) 4 44)]:=by have q:=Dd af K (K.take 16) 0 lu (by rw [cq]);obtain⟨w,hw⟩:=ax (aO (K.take 16) 4 44);rw [<-hw]at q|-;refine aL (fn:=Tryz.f18) ?_;refine zp ?_;refine zl ?_;refine zW (dY [0] [ak K,al (cD.map .u8++ [.sl 5 0 44 4 af]),aC 179 w] (.tup [.p 4 0,.i 0]) q) ?_;refine NK ?_;exact bE [0,2,1,7,8,6,4,5]
def gz(u:UInt64):Nat->List UInt8
 |0=> []
 |i+1=>if(bh u (56-8*i)).toUInt8≠0\/0<(gz u i).length then gz u i++ [(bh u (56-8*i)).toUInt8]else gz u i
theorem rD(u:UInt64):∀i,(gz u i).length<=i
 |0=>by simp [gz]
 |i+1=>by
  have:=rD u i;simp only [gz];split
  .simp;omega
  .omega
theorem BD(u:UInt64)(h:u<8):aQ 43 [.u64 u] [] .slnil []:=by refine aL (fn:=Tryz.f43) ?_;refine zW (mV dw fq rfl) ?_;refine zW (du kV) ?_;exact gI
theorem De(u:UInt64)(h:¬u<8):aQ 43 [.u64 u] [] (.sl 0 0 (gz u 8).length 1 af) [aC 5 (gz u 8)]:=by
 refine aL (fn:=Tryz.f43) ?_;refine zW (mV dw fq rfl) ?_;refine zW (eV kV) ?_;refine Gs dw fq rfl (ι:={i:Nat//i<=8}) (λi=> [(0,.u64 u),(3,.sl 0 0 (gz u i.1).length 1 af),(4,.i (56-8*i.1))]) (λi=> [aC 5 (gz u i.1)]) (λ_=>1) (λi=>9-i.1) ⟨0,ag⟩ ?_ ?_
 .refine(cl.virt 3 5 1 rfl).trans (cl.sel [0] rfl rfl ⟨rfl,rfl,rfl,trivial⟩ ⟨⟨rfl,rfl⟩,trivial⟩ rfl rfl)
 .rintro⟨i,hi⟩;have cx:=rD u i;conv=>whnf
  refine⟨λhc=>?_,λhc=>?_⟩
  .conv=>whnf
   have F:i<8:=ov;have r:(56-8*(i:Int)).toNat=56-8*i:=ag;have hw:au (56-8*(i:Int)-8)=56-8*((i+1:Nat):Int):=by rw [AQ (by omega) (by omega)];omega
   refine⟨.u64 (bh u (56-8*i)),by simp only [iI,rp];rw [if_pos (by simpa using hc)];simp only [ur,tZ,r],?_⟩;conv=>whnf
   refine⟨λhb=>?_,λhb=>?_⟩
   .repeat(first|refine zW (bl hb) ?_|refine zW (cO hb) ?_)
    refine⟨λhl=>?_,λhl=>?_⟩
    .conv=>whnf
     have hn:gz u (i+1)=gz u i++ [(bh u (56-8*i)).toUInt8]:=by simp only [gz];rw [if_pos (.inr (by simpa using hl))]
     refine⟨_,rfl,?_⟩;conv=>whnf
     refine⟨⟨aq,aq,by simp [cM];omega⟩,?_⟩;conv=>whnf
     refine⟨⟨i+1,ag⟩,dt,cl.sel [2] rfl rfl ?_ ?_ rfl rfl⟩
     .simp [sI,lk,bG,hn,hw]
     .exact NO
    .conv=>whnf
     have hn:gz u (i+1)=gz u i:=by simp only [gz];rw [if_neg (by simp at hl hb|-;exact⟨hb,by simp [hl]⟩)]
     refine⟨⟨i+1,ag⟩,dt,cl.sel [0] rfl rfl ?_ ?_ rfl rfl⟩
     .simp [sI,lk,bG,hn,hw]
     .exact NO
   .repeat(first|refine zW (bC hb) ?_|refine zW (iN hb) ?_)
    refine zW (du rfl) ?_;have hn:gz u (i+1)=gz u i++ [(bh u (56-8*i)).toUInt8]:=by simp only [gz];rw [if_pos (.inl (by simpa using hb))]
    refine⟨_,rfl,?_⟩;conv=>whnf
    refine⟨⟨aq,aq,by simp [cM];omega⟩,?_⟩;conv=>whnf
    refine⟨⟨i+1,ag⟩,dt,cl.sel [2] rfl rfl ?_ ?_ rfl rfl⟩
    .simp [sI,lk,bG,hn,hw]
    .exact NO
  .conv=>whnf
   have:i=8:=ov;subst this;exact⟨[0],rfl,rfl,rfl,⟨⟨rfl,aY aq rfl⟩,trivial⟩,rfl⟩
def mD(n:Nat):List UInt8:=if _h:n=0 then []else mD (n/256)++ [cX n]
termination_by n
decreasing_by omega
theorem uG:mD 0= []:=by rw [mD];simp
theorem Ab{n:Nat}(h:n≠0):mD n=mD (n/256)++ [cX n]:=by rw [mD,dif_neg h]
theorem Pa:∀(k n:Nat),n<256^k->(mD n).length<=k
 |0,n,h=>by
  have:n=0:=kV;subst this;simp [uG]
 |k+1,n,h=>by
  by_cases h0:n=0
  .subst h0;simp [uG]
  .rw [Ab h0];have:=Pa k (n/256) (by rw [Nat.div_lt_iff_lt_mul (by omega)];rw [Nat.pow_succ]at h;exact h);simp;omega
theorem Jz{n:Nat}(h:n≠0):mD n≠ []:=by rw [Ab h];simp
def lJ(u:UInt64):List UInt8:=if u=0 then [0]else mD u.toNat
theorem u9(u:UInt64):(lJ u).length<=8/\0<(lJ u).length:=by
 unfold lJ;split
 .simp
 .rename_i h;refine⟨Pa 8 _ (by have:=l6 u;omega),List.length_pos_iff.2 (Jz (λe=>h (dJ.1 lS)))⟩
theorem f67(u:UInt64):aQ 58 [.u64 u] [] (.sl 0 0 (lJ u).length 1 af) [aC 5 (lJ u)]:=by
 refine aL (fn:=Tryz.f58) ?_;refine zW (mV dw fq rfl) ?_;refine⟨.u64 (u%256),by simp [gG],?_⟩;conv=>whnf
 refine⟨_,rfl,?_⟩;conv=>whnf
 refine⟨.u64 (u/256),by simp [gG],?_⟩;conv=>whnf
 have F:∀v:UInt64,(v%256).toUInt8=cX v.toNat:=λv=>by
  apply my.1;simp only [oB,nM,nN];show v.toNat%256%256=v.toNat%256
  omega
 have r:∀v:UInt64,(v/256).toNat=v.toNat/256:=λv=>by rw [nL];rfl
 have G:mD (u/256).toNat++ [(u%256).toUInt8]=lJ u:=by
  rw [F,r];unfold lJ;split
  .rename_i h;subst h;simp [uG]
  .rename_i h;rw [<-Ab (λe=>h (dJ.1 lS))]
 refine Gs dw fq rfl (ι:={p:UInt64×List UInt8//mD p.1.toNat++p.2=lJ u/\0<p.2.length}) (λp=> [(0,.u64 p.1.1),(3,.sl 0 0 p.1.2.length 1 af)]) (λp=> [aC 5 p.1.2]) (λ_=>1) (λp=>p.1.1.toNat)
  ⟨(u/256,[(u%256).toUInt8]),G,aq⟩ ?_ ?_
 .exact(cl.unfull 3 rfl).trans (cl.sel [0] rfl rfl ⟨rfl,rfl,trivial⟩ ⟨⟨rfl,aY aq aq⟩,trivial⟩ rfl rfl)
 .rintro⟨⟨v,l⟩,O,U⟩;have V:l.length<=8:=by have h1:=congrArg List.length O;have h2:=u9 u;simp only [aW]at h1;omega
  conv=>whnf
  refine⟨λhc=>?_,λhc=>?_⟩
  .conv=>whnf
   refine⟨.u64 (v%256),by simp [gG],?_⟩;conv=>whnf
   refine⟨_,rfl,?_⟩;conv=>whnf
   refine⟨⟨aq,aq,by simp [cM];omega,U⟩,?_⟩;conv=>whnf
   refine⟨.u64 (v/256),by simp [gG],?_⟩;conv=>whnf
   have I:v.toNat≠0:=by
    simp only [decide_eq_true_eq]at hc;have:0<v.toNat:=by simpa [gh]using hc
    omega
   refine⟨⟨(v/256,(v%256).toUInt8::l),?_,aq⟩,?_,cl.sel [2] rfl rfl ?_ ?_ rfl rfl⟩
   .simp only;rw [<-O,F,r,Ab I];simp
   .simp only [r];omega
   .refine⟨rfl,?_,trivial⟩;simp [lk,bG,vC]
   .exact⟨⟨rfl,aY aq aq⟩,trivial⟩
  .conv=>whnf
   have I:v.toNat=0:=by
    simp only [decide_eq_false_iff_not]at hc;have:¬0<v.toNat:=by simpa [gh]using hc
    omega
   have:l=lJ u:=by rw [<-O,I,uG];rfl
   subst this;exact⟨[0],rfl,rfl,rfl,⟨⟨rfl,aY aq rfl⟩,trivial⟩,rfl⟩
theorem Qz(u:UInt64):∀i,i<=8->gz u i=mD (u.toNat/2^(64-8*i))
 |0,_=>by
  have:=l6 u;rw [vD (by simpa using this),uG];rfl
 |i+1,hi=>by
  have ih:=Qz u i ag;have e1:2^(64-8*i)=2^(56-8*i)*256:=by rw [show(256:Nat)=2^8 from rfl,<-Nat.pow_add];congr 1;omega
  have e2:u.toNat/2^(64-8*i)=u.toNat/2^(56-8*i)/256:=by rw [e1,Nat.div_div_eq_div_mul]
  have e3:64-8*(i+1)=56-8*i:=ag;have eb:(bh u (56-8*i)).toUInt8=cX (u.toNat/2^(56-8*i)):=by unfold bh;rw [if_pos ag];apply my.1;simp only [oB,sr,j5,nN,np];rw [gq (by omega:56-8*i<2^64),gq (by omega:56-8*i<64)]
  simp only [gz,ih,e3,eb,e2];generalize u.toNat/2^(56-8*i)=m;by_cases hm:m=0
  .subst hm;simp [uG]
  .rw [Ab hm];rw [if_pos];by_cases hq:m/256=0
   .left;intro h;have h2:=congrArg UInt8.toNat h;simp at h2;omega
   .right;exact List.length_pos_iff.2 (Jz hq)
theorem Kx(u:UInt64):gz u 8=mD u.toNat:=by rw [Qz u 8 (by omega)];simp
def hB(u:UInt64):List UInt8:=if u<8 then []else mD u.toNat
def lL(k:UInt64):Int:=if k<8 then(k.toNat:Int)else 8+((lJ k).length:Int)-1
def qz(k:UInt64):List UInt8:=if k<8 then []else lJ k
def gV(k c:UInt64):List UInt8:=dg (16*lL k+lL c)::(qz k++qz c)
theorem n8{k:UInt64}(h:k<8):k.toNat<8:=by simpa [gh]using h
theorem Z0(k c:UInt64)(hk:k<8)(hc:c<8):aQ 21 [.agg [.u64 k,.u64 c]] [] (.sl 0 0 (gV k c).length 1 ab) [aC 5 (gV k c)]:=by
 refine xr ?_;have u:=u9 k;have r:=u9 c;have kk:=l6 k;have F:=l6 c;conv=>whnf
 refine fW _ (aJ rfl ?_);conv=>whnf
 refine zW (cP [] (f67 k)) ?_;refine fW _ (aJ rfl ?_);refine Ik ?_;refine fW _ (aJ rfl ?_);conv=>whnf
 refine zW (du (by simpa using hk)) ?_;refine fW _ (aJ rfl ?_);conv=>whnf
 refine fW _ (aJ rfl ?_);conv=>whnf
 refine zW (du (by simpa using hc)) ?_;refine fW _ (aJ rfl ?_);conv=>whnf
 refine fW _ (aJ rfl ?_);conv=>whnf
 have n1:=n8 hk;have n2:=n8 hc;have e:au (au (16*au (k.toNat:Int))+au (c.toNat:Int))=16*lL k+lL c:=by simp only [lL,if_pos hk,if_pos hc,eI];omega
 refine⟨[3],?_,rfl,rfl,⟨⟨rfl,aY aq ?_⟩,trivial⟩,rfl⟩
 .simp [bG,gV,qz,hk,hc,pH]
 .simp [gV,qz,hk,hc,e]
theorem ZZ(k c:UInt64)(hk:k<8)(hc:¬c<8):aQ 21 [.agg [.u64 k,.u64 c]] [] (.sl 0 0 (gV k c).length 1 af) [aC 5 (gV k c)]:=by
 refine xr ?_;have u:=u9 k;have r:=u9 c;have kk:=l6 k;have F:=l6 c;conv=>whnf
 refine fW _ (aJ rfl ?_);conv=>whnf
 refine zW (cP [] (f67 k)) ?_;refine fW _ (aJ rfl ?_);refine Ik ?_;refine fW _ (aJ rfl ?_);conv=>whnf
 refine zW (du (by simpa using hk)) ?_;refine fW _ (aJ rfl ?_);conv=>whnf
 refine fW _ (aJ rfl ?_);conv=>whnf
 refine zW (eV (by simpa using hc)) ?_;refine fW _ (aJ rfl ?_);refine NM ?_;have n1:=n8 hk;have e:au (au (au (au (16*au (k.toNat:Int))+8)+((lJ c).length:Int))-1)=16*lL k+lL c:=by simp only [lL,if_pos hk,if_neg hc,eI];omega
 refine⟨[4],?_,rfl,rfl,⟨⟨rfl,aY aq ?_⟩,trivial⟩,rfl⟩
 .simp [bG,gV,qz,hk,hc,pH];omega
 .simp [gV,qz,hk,hc,e]
theorem ZY(k c:UInt64)(hk:¬k<8)(hc:c<8):aQ 21 [.agg [.u64 k,.u64 c]] [] (.sl 0 0 (gV k c).length 1 af) [aC 5 (gV k c)]:=by
 refine xr ?_;have u:=u9 k;have r:=u9 c;have kk:=l6 k;have F:=l6 c;conv=>whnf
 refine fW _ (aJ rfl ?_);conv=>whnf
 refine zW (cP [] (f67 k)) ?_;refine fW _ (aJ rfl ?_);refine Ik ?_;refine fW _ (aJ rfl ?_);conv=>whnf
 refine zW (eV (by simpa using hk)) ?_;refine fW _ (aJ rfl ?_);conv=>whnf
 refine zW (du (by simpa using hc)) ?_;refine fW _ (aJ rfl ?_);conv=>whnf
 refine fW _ (aJ rfl ?_);refine NM ?_;have n2:=n8 hc;have e:au (au (16*au (au (8+((lJ k).length:Int))-1))+au (c.toNat:Int))=16*lL k+lL c:=by simp only [lL,if_neg hk,if_pos hc,eI];omega
 refine⟨[4],?_,rfl,rfl,⟨⟨rfl,aY aq ?_⟩,trivial⟩,rfl⟩
 .simp [bG,gV,qz,hk,hc,pH];omega
 .simp [gV,qz,hk,hc,e]
theorem ZX(k c:UInt64)(hk:¬k<8)(hc:¬c<8):aQ 21 [.agg [.u64 k,.u64 c]] [] (.sl 0 0 (gV k c).length 1 af) [aC 5 (gV k c)]:=by
 refine xr ?_;have u:=u9 k;have r:=u9 c;have kk:=l6 k;have F:=l6 c;conv=>whnf
 refine fW _ (aJ rfl ?_);conv=>whnf
 refine zW (cP [] (f67 k)) ?_;refine fW _ (aJ rfl ?_);refine Ik ?_;refine fW _ (aJ rfl ?_);conv=>whnf
 refine zW (eV (by simpa using hk)) ?_;refine fW _ (aJ rfl ?_);conv=>whnf
 refine zW (eV (by simpa using hc)) ?_;refine fW _ (aJ rfl ?_);refine NM ?_;refine⟨⟨aA,aq,by simp [cM];omega⟩,?_⟩;conv=>whnf
 have e:au (au (au (au (16*au (au (8+((lJ k).length:Int))-1))+8)+((lJ c).length:Int))-1)=16*lL k+lL c:=by simp only [lL,if_neg hk,if_neg hc,eI];omega
 refine⟨[5],?_,rfl,rfl,⟨⟨rfl,aY aq ?_⟩,trivial⟩,rfl⟩
 .simp [bG,gV,qz,hk,hc,pH];omega
 .have ht:aB (1+(lJ k).length) (SV.u8 (dg (16*lL k+lL c))::fR SV.u8 (lJ k))=SV.u8 (dg (16*lL k+lL c))::fR SV.u8 (lJ k):=MG aA;simp [gV,qz,hk,hc,e,ht]
def hX(n:UInt64):UInt8:=if n<8 then(n&&&7).toUInt8 else 8|||dg (au (((gz n 8).length:Int)-1))
def hD(n:UInt64):List UInt8:=if n<8 then []else gz n 8
def bF(k c:UInt64):List UInt8:=(oe (oe 0 4|||hX k) 4|||hX c)::(hD k++hD c)
theorem BK{u:UInt64}(h:¬u<8):0<(gz u 8).length:=by rw [Kx];exact List.length_pos_iff.2 (Jz (λe=>h (by simp [gh,e])))
theorem ajG{α:Type}(f:α->SV)(x:SV)(l:List α):(x::l.map f).take (1+l.length)=x::l.map f:=MG (by simp;omega)
theorem Z4(k c:UInt64)(hk:k<8)(hc:c<8):aQ 17 [.agg [.u64 k,.u64 c]] [] (.sl 0 0 (bF k c).length 1 ab) [aC 5 (bF k c)]:=by
 refine xu ?_;have u:=rD k 8;have r:=rD c 8;refine zI ?_;refine xe ?_;refine zl ?_;refine zW (cP [] (BD k hk)) ?_;refine zl ?_;refine zW (cP [] (BD c hc)) ?_;refine zl ?_;refine⟨[1],?_,rfl,rfl,⟨⟨rfl,aY aq ?_⟩,trivial⟩,rfl⟩
 .simp [bG,bF,hD,hk,hc,pH]
 .simp [bF,hD,hX,hk,hc]
theorem Z3(k c:UInt64)(hk:k<8)(hc:¬c<8):aQ 17 [.agg [.u64 k,.u64 c]] [] (.sl 0 0 (bF k c).length 1 af) [aC 5 (bF k c)]:=by
 refine xu ?_;have u:=rD k 8;have r:=rD c 8;have pc:=BK hc;refine zI ?_;refine xe ?_;refine zl ?_;refine zW (cP [] (BD k hk)) ?_;refine zl ?_;refine zW (cP [] (De c hc)) ?_;refine zl ?_;refine zW (du (by simpa using pc)) ?_;refine zl ?_;refine⟨[3],?_,rfl,rfl,⟨⟨rfl,aY aq ?_⟩,trivial⟩,rfl⟩
 .simp [bG,bF,hD,hk,hc,pH];omega
 .simp [bF,hD,hX,hk,hc]
theorem Z2(k c:UInt64)(hk:¬k<8)(hc:c<8):aQ 17 [.agg [.u64 k,.u64 c]] [] (.sl 0 0 (bF k c).length 1 af) [aC 5 (bF k c)]:=by
 refine xu ?_;have u:=rD k 8;have r:=rD c 8;have pk:=BK hk;refine WK ?_;refine zW (cP [] (BD c hc)) ?_;refine zl ?_;refine⟨[3],?_,rfl,rfl,⟨⟨rfl,aY aq ?_⟩,trivial⟩,rfl⟩
 .simp [bG,bF,hD,hk,hc,pH];omega
 .simp [bF,hD,hX,hk,hc]
theorem Z1(k c:UInt64)(hk:¬k<8)(hc:¬c<8):aQ 17 [.agg [.u64 k,.u64 c]] [] (.sl 0 0 (bF k c).length 1 af) [aC 5 (bF k c)]:=by
 refine xu ?_;have u:=rD k 8;have r:=rD c 8;have pk:=BK hk;have pc:=BK hc;refine WK ?_;refine zW (cP [] (De c hc)) ?_;refine zl ?_;refine zW (du (by simpa using pc)) ?_;refine zl ?_;refine⟨[5],?_,rfl,rfl,⟨⟨rfl,aY aq ?_⟩,trivial⟩,rfl⟩
 .simp [bG,bF,hD,hk,hc,pH];omega
 .simp [bF,hD,hX,hk,hc,ajG]
end Go.Sh
