/- Merged for a claim: G11, G2, F5, G12, G13. -/
import Derived.Test.YtkahaemiigimcaaGreatFm8
set_option linter.unusedSimpArgs false
set_option linter.unusedVariables false
set_option maxHeartbeats 8000000
open Bool renaming true->ab,false->af
open List renaming take->aB,drop->aG,replicate->aK,length_append->aW,take_of_length_le->bW,drop_zero->cq,range->cQ,getD_eq_getElem?_getD->dk,getElem?_eq_getElem->dy,map_append->dU,getElem?_take_of_lt->ic,append_assoc->iw,getElem?_drop->iS,append_nil->jz
open And renaming intro->aJ
open Nat renaming le_of_ble_eq_true->cr,mul_one->fS,sub_self->pR
open Int renaming tmod_eq_emod_of_nonneg->sk
open UInt8 renaming xor_zero->vE
namespace Go.Sh
open Go.Proofs
def kP(n:Nat):Nat:=(16-n%16)%16
def jh(b:List UInt8):List UInt8:=b++aK (kP b.length) 0
def lb(n:Nat)(j:Nat):UInt8:=(bh (dr (fO (n:Int)) 3) (8*(7-j))).toUInt8
def jl(n k:Nat):List UInt8:=(cQ k).map (lb n)
def nY(n:Nat):List UInt8:=jl n 8
theorem Dx(n k:Nat):(jl n k).length=k:=od
theorem QV(n:Nat):jl n 0= []:=rfl
theorem QW(n k:Nat):jl n (k+1)=jl n k++ [lb n k]:=Ch
def vF(aad r:List UInt8):Nat->List UInt8
 |0=> []
 |1=>jh aad
 |_=>jh aad++jh r
def Ah(aad r:List UInt8):Nat->List UInt8
 |0=> []
 |1=>nY aad.length
 |_=>nY aad.length++nY r.length
def qH(aad r:List UInt8):List UInt8:=jh aad++jh r++(nY aad.length++nY r.length)
def kq(w:List UInt8)(R:Nat)(r aad u:List UInt8):List UInt8:=iP w R (r++ [0,0,0,1]) (rC (iH w R (aK 16 0) R) (qH aad u))
theorem Bj(b:List UInt8):(jh b).length=b.length+kP b.length:=by unfold jh;simp
theorem v9(n:Nat):kP n<16:=by unfold kP;omega
theorem Sj(n:Nat)(h:n<1000000):(au (16-((n:Int)).tmod 16)).tmod 16=((kP n:Nat):Int):=by
 have h1:((n:Int)).tmod 16=((n%16:Nat):Int):=by rw [sk (by omega)];omega
 have h2:au (16-((n:Int)).tmod 16)=((16-n%16:Nat):Int):=by rw [h1,eI];omega
 unfold kP;rw [h2,sk ag];omega
theorem O6{X b D:List UInt8}(hD:(D.drop 0).take b.length=b):(X++jh b).map SV.u8=aB ((X.length+b.length)*1) (aG 0 (aB (X.length*1) (aG 0 (X.map SV.u8))++aB (b.length*1) (aG 0 (D.map SV.u8))))++aK (kP b.length) (SV.u8 0):=by
 have e1:aB (b.length*1) (aG 0 (D.map SV.u8))=b.map SV.u8:=by rw [fS];exact ru hD
 rw [e1,fS,fS,cq,cq,bW (l:=X.map SV.u8) aq,bW aq];unfold jh;simp
attribute [local irreducible] kP jh jl rC qH iP
theorem f95(n:Nat)(fl:Bool)(w:List UInt8)(R:Nat)(hn:n=4*(R+1))(hw:w.length=16*(R+1))(h7:1<=R)(h8:R<=20)(u aad r A T:List UInt8)(hno:u.length=12)(hA:(A.drop 0).take aad.length=aad)(hT:(T.drop 0).take r.length=r)(hoA:0+aad.length<=A.length)(hoT:0+r.length<=T.length)(ha:aad.length<1000000)(ht:r.length<1000000)(f1 f2:Bool):aM 81 [.p 0 0,.agg (u.map .u8),.sl 2 0 aad.length 1 f1,.sl 3 0 r.length 1 f2] [an (cD.map .u8++ [.sl 1 0 n 4 fl]),ak w,ak A,ak T] (.sl 4 0 16 1 af) [aC 5 (kq w R u aad r)]:=by
 have hse:=PN n fl w R hn hw h7 h8 (aK 16 0) rfl;refine aL (fn:=Tryz.f81) ?_;refine oY ?_;refine bp.weak (cl.virt 9 5 1 rfl) ?_;refine bp.weak (cl.virt 10 5 1 rfl) ?_;refine bT 2 (λi=> [(0,.p 0 0),(5,.p 4 0),(9,.sl 6 0 (vF aad r i.1).length 1 af),(10,.sl 7 0 (Ah aad r i.1).length 1 af),(19,.sl 5 0 2 1 ab),(20,.i 2),(21,.i (i.1:Int))]) (λi=> [an (cD.map .u8++ [.sl 1 0 n 4 fl]),ak w,ak A,ak T,dn u,an [.sl 2 0 aad.length 1 f1,.sl 3 0 r.length 1 f2],aC 5 (vF aad r i.1),aC 5 (Ah aad r i.1)]) 8 ?_ ?_
 .exact EE
 .rintro⟨i,hi⟩;have h3:i=0\/i=1\/i=2:=ag;rcases h3 with rfl|rfl|rfl
  .obtain⟨X,hX⟩:=ax (vF aad r 0);obtain⟨E,hE⟩:=ax (Ah aad r 0);have x7:X.length<2000000:=XP;have U:X++jh aad=vF aad r 1:=by rw [hX];first|rfl|fail
   have O:E++jl (aad).length 8=Ah aad r 1:=by rw [hE];first|rfl|fail
   have I:E.length=8*0:=by rw [hE];first|rfl|fail
   have hpn:=v9 (aad).length;dsimp only;rw [<-hX,<-hE];conv=>whnf
   first|refine du az ?_|fail
   refine zI ?_;refine zW (RD 5 1 8 0 (X.length+(aad).length) (kP (aad).length) af _ (.u8 0) rfl bD bD bD rfl bD bD aw rfl rfl (by first|(simp;omega)) (v:=(au (16-(((aad).length:Int)).tmod 16)).tmod 16) rfl (Sj _ ag) ag (cr rfl)) ?_;refine fH (ι:={m:Nat//m<=8}) (λm=> [(0,.p 0 0),(5,.p 4 0),(9,.sl 6 0 (X++jh aad).length 1 af),(10,.sl 7 0 (E++jl (aad).length (8-m.1)).length 1 af),(12,.sl 2 0 (aad).length 1 f1),(13,.i ((m.1:Int)-1)),(19,.sl 5 0 2 1 ab),(20,.i 2),(21,.i 0)]) (λm=> [an (cD.map .u8++ [.sl 1 0 n 4 fl]),ak w,ak A,ak T,dn u,an [.sl 2 0 aad.length 1 f1,.sl 3 0 r.length 1 f2],aC 5 (X++jh aad),aC 5 (E++jl (aad).length (8-m.1))]) (λ_=>8) (λm=>m.1) ⟨8,ag⟩ ?_ ?_
   .have V:=O6 (X:=X) hA;have hl1:(X++jh aad).length=X.length+(aad).length+kP (aad).length:=by rw [aW,Bj];omega
    have F:E++jl (aad).length (8-8)=E:=by rw [pR,QV,jz]
    have G:(E++jl (aad).length (8-8)).length=E.length:=by rw [F]
    refine bP [0,1,2,3,4,5,9,7] ?_ ?_
    ·(repeat'(first|exact trivial|refine aJ ?_ ?_|fail))<;>first|rfl|exact iQ rfl az (by first|exact hl1|exact G|fail)|fail
    ·(repeat'(first|exact trivial|exact aY (cY _) V|refine aJ ?_ ?_|(refine dM ?_ ?_)))<;>first|exact gw (by exact F)|rfl|exact aY bY az|exact ke bY az rfl|fail
   .rintro⟨m,hm⟩;dsimp only;by_cases hm0:0<m
    .obtain⟨k,rfl⟩:∃k,m=k+1:=⟨m-1,ag⟩;have hlt:decide ((((k+1:Nat):Int)-1)>=0)=ab:=aq;have hk8:au (8*(((k+1:Nat):Int)-1))=((8*k:Nat):Int):=cp;have hp1:au (((k+1:Nat):Int)-1-1)=(k:Int)-1:=cp;obtain⟨Y,hY⟩:=ax (E++jl (aad).length (8-(k+1)));have hYl:Y.length=8*0+(7-k):=by rw [hY,aW,Dx,I];omega
     have hYs:Y++ [(bh (dr (fO ((aad).length:Int)) 3) (8*k)).toUInt8]=E++jl (aad).length (8-k):=by
      rw [hY,show 8-k=(8-(k+1))+1 by omega,QW,iw];have:lb (aad).length (8-(k+1))=(bh (dr (fO ((aad).length:Int)) 3) (8*k)).toUInt8:=by unfold lb;rw [show 7-(8-(k+1))=k by omega]
      rw [this]
     have hap:(E++jl (aad).length (8-k)).map SV.u8=aB (Y.length*1) (aG 0 (Y.map SV.u8))++aB (1*1) (aG 0 [SV.u8 (bh (dr (fO ((aad).length:Int)) 3) (8*k)).toUInt8]):=by rw [Bk rfl,hYs]
     have hal:(E++jl (aad).length (8-k)).length=Y.length+1:=by rw [<-hYs];simp
     exact WC
    .obtain rfl:m=0:=ag;refine zy ?_;refine xl ?_;rw [<-U,<-O];exact EE
  .obtain⟨X,hX⟩:=ax (vF aad r 1);obtain⟨E,hE⟩:=ax (Ah aad r 1);have x7:X.length<2000000:=XP;have U:X++jh r=vF aad r 2:=by rw [hX];first|rfl|fail
   have O:E++jl (r).length 8=Ah aad r 2:=by rw [hE];first|rfl|fail
   have I:E.length=8*1:=by rw [hE];first|exact Dx _ _
   have hpn:=v9 (r).length;dsimp only;rw [<-hX,<-hE];conv=>whnf
   first|refine du az ?_|fail
   refine zI ?_;refine zW (RD 5 1 8 0 (X.length+(r).length) (kP (r).length) af _ (.u8 0) rfl bD bD bD rfl bD bD aw rfl rfl (by first|(simp;omega)) (v:=(au (16-(((r).length:Int)).tmod 16)).tmod 16) rfl (Sj _ ag) ag (cr rfl)) ?_;refine fH (ι:={m:Nat//m<=8}) (λm=> [(0,.p 0 0),(5,.p 4 0),(9,.sl 6 0 (X++jh r).length 1 af),(10,.sl 7 0 (E++jl (r).length (8-m.1)).length 1 af),(12,.sl 3 0 (r).length 1 f2),(13,.i ((m.1:Int)-1)),(19,.sl 5 0 2 1 ab),(20,.i 2),(21,.i 1)]) (λm=> [an (cD.map .u8++ [.sl 1 0 n 4 fl]),ak w,ak A,ak T,dn u,an [.sl 2 0 aad.length 1 f1,.sl 3 0 r.length 1 f2],aC 5 (X++jh r),aC 5 (E++jl (r).length (8-m.1))]) (λ_=>8) (λm=>m.1) ⟨8,ag⟩ ?_ ?_
   .have V:=O6 (X:=X) hT;have hl1:(X++jh r).length=X.length+(r).length+kP (r).length:=by rw [aW,Bj];omega
    have F:E++jl (r).length (8-8)=E:=by rw [pR,QV,jz]
    have G:(E++jl (r).length (8-8)).length=E.length:=by rw [F]
    refine bP [0,1,2,3,4,5,9,7] ?_ ?_
    ·(repeat'(first|exact trivial|refine aJ ?_ ?_|fail))<;>first|rfl|exact iQ rfl az (by first|exact hl1|exact G|fail)|fail
    ·(repeat'(first|exact trivial|exact aY (cY _) V|refine aJ ?_ ?_|(refine dM ?_ ?_)))<;>first|exact gw (by exact F)|rfl|exact aY bY az|exact ke bY az rfl|fail
   .rintro⟨m,hm⟩;dsimp only;by_cases hm0:0<m
    .obtain⟨k,rfl⟩:∃k,m=k+1:=⟨m-1,ag⟩;have hlt:decide ((((k+1:Nat):Int)-1)>=0)=ab:=aq;have hk8:au (8*(((k+1:Nat):Int)-1))=((8*k:Nat):Int):=cp;have hp1:au (((k+1:Nat):Int)-1-1)=(k:Int)-1:=cp;obtain⟨Y,hY⟩:=ax (E++jl (r).length (8-(k+1)));have hYl:Y.length=8*1+(7-k):=by rw [hY,aW,Dx,I];omega
     have hYs:Y++ [(bh (dr (fO ((r).length:Int)) 3) (8*k)).toUInt8]=E++jl (r).length (8-k):=by
      rw [hY,show 8-k=(8-(k+1))+1 by omega,QW,iw];have:lb (r).length (8-(k+1))=(bh (dr (fO ((r).length:Int)) 3) (8*k)).toUInt8:=by unfold lb;rw [show 7-(8-(k+1))=k by omega]
      rw [this]
     have hap:(E++jl (r).length (8-k)).map SV.u8=aB (Y.length*1) (aG 0 (Y.map SV.u8))++aB (1*1) (aG 0 [SV.u8 (bh (dr (fO ((r).length:Int)) 3) (8*k)).toUInt8]):=by rw [Bk rfl,hYs]
     have hal:(E++jl (r).length (8-k)).length=Y.length+1:=by rw [<-hYs];simp
     exact WC
    .obtain rfl:m=0:=ag;refine zy ?_;refine EC ?_;rw [<-U,<-O];exact EE
  .have hpa:=v9 aad.length;have hpt:=v9 r.length;have x6:(qH aad r).length<100000000000000:=by unfold qH nY;simp only [aW,Bj,Dx];omega
   have h6:=f60 (iH w R (aK 16 0) R) (qH aad r) (qH aad r) 0 af (DU w R _ rfl R) aq ag x6;obtain⟨X,hX⟩:=ax (vF aad r 2);obtain⟨E,hE⟩:=ax (Ah aad r 2);have h9:X++E=qH aad r:=by rw [hX,hE];unfold qH;rfl
   have x0:X.length+E.length=(qH aad r).length:=by rw [<-h9];simp
   have hcat:aB (X.length*1) (aG 0 (X.map SV.u8))++aB (E.length*1) (aG 0 (SB.row 5 (E.map SV.u8)).cells)=(qH aad r).map SV.u8:=by
    rw [<-h9,fS,fS,cq,bW aq];show _++aB E.length (aG 0 (E.map SV.u8))=_
    rw [cq,bW aq,dU]
   have hle:0+E.length*1<=(SB.row 5 (E.map SV.u8)).cells.length:=by show _<=(E.map SV.u8).length;simp
   have hby:(X.length+E.length)*cM.byt<=140737488355328:=by show _*1<=_;omega
   obtain⟨hs,Z⟩:=ax (rC (iH w R (aK 16 0) R) (qH aad r));have W:hs.length=16:=by rw [Z];exact Gd _ _
   rw [<-Z]at h6;have h94:=f94 u hno;have h53:=vO n fl w R hn hw h7 h8 (u++ [0,0,0,1]) hs hs 0 aq ag (by simp [hno]) ag ab ab;rw [W]at h53;have x5:iP w R (u++ [0,0,0,1]) hs=kq w R u aad r:=by rw [Z];rfl
   rw [x5]at h53;dsimp only;rw [<-hX,<-hE];refine zy ?_;refine zc ?_;refine zW (aE [0,1] [af,af] ab hse) ?_;refine zl ?_;rw [hcat,x0];conv=>whnf
   refine zW (aE [8] [af] ab h6) ?_;repeat(first|refine zH (cK rfl (by first|rfl|(simp [W];omega))) ?_|refine zH (df rfl (by first|rfl|(simp [W];done)|fail)) ?_|refine aS ?_)
   refine zW (aE [] [] ab h94) ?_;refine zl ?_;refine zW (aE [0,1,10,9] [af,af,af,af,ab] af h53) ?_;refine zc ?_;exact bE [0,1,2,3,11]
end Go.Sh
namespace Go.Sh
open Go.Proofs
def sT(a b:List UInt8):Nat->UInt8
 |0=>0
 |i+1=>sT a b i|||(a.getD i 0^^^b.getD i 0)
theorem aka(a b:List UInt8):sT a b 0=0:=rfl
theorem VF(a b:List UInt8)(i:Nat):sT a b (i+1)=sT a b i|||(a.getD i 0^^^b.getD i 0):=rfl
theorem X4(x y:UInt8):x|||y=0↔x=0/\y=0:=by
 constructor
 .intro h;have h2:x.toBitVec|||y.toBitVec=0#8:=by have:=congrArg UInt8.toBitVec h;simpa using this
  have h3:=BitVec.or_eq_zero_iff.1 h2;exact⟨UInt8.toBitVec_inj.1 h3.1,UInt8.toBitVec_inj.1 h3.2⟩
 .rintro⟨rfl,rfl⟩;rfl
theorem X5(x y:UInt8):x^^^y=0↔x=y:=by
 constructor
 .intro h;have:(x^^^y)^^^y=0^^^y:=by rw [h]
  rwa [UInt8.xor_assoc,UInt8.xor_self,vE,UInt8.zero_xor]at this
 .rintro rfl;exact UInt8.xor_self
theorem Nd(a b:List UInt8):∀n,sT a b n=0↔∀j,j<n->a.getD j 0=b.getD j 0
 |0=>by simp [sT]
 |n+1=>by
  rw [VF,X4,Nd a b n,X5];constructor
  .rintro⟨h1,h2⟩ j hj;by_cases h:j=n
   .subst h;exact h2
   .exact h1 j ag
  .intro h;exact⟨λj hj=>h j ag,h n ag⟩
theorem aj9(a b:List UInt8)(h:a.length=b.length):(sT a b a.length==0)=decide (a=b):=by
 by_cases r:a=b
 .subst r;simp only [decide_true,beq_iff_eq];exact(Nd a a _).2 λ_ _=>rfl
 .simp only [r,decide_false,beq_eq_false_iff_ne];intro hz;apply r;have hz:=(Nd a b _).1 hz;apply List.ext_getElem h;intro j h1 h2;have:=hz j h1;rw [dk,dk,dy h1,dy h2]at this;exact this
theorem O4{A a:List UInt8}{o:Nat}(h:(A.drop o).take a.length=a){i:Nat}(hi:i<a.length):A.getD (o+i) 0=a.getD i 0:=by
 rw [dk,dk];have:((A.drop o).take a.length)[i]?=a[i]?:=by rw [h]
 rw [ic hi,iS]at this;rw [this]
attribute [local irreducible] sT
theorem f96(a b A B:List UInt8)(o q:Nat)(G fb:Bool)(hA:(A.drop o).take a.length=a)(I:o+a.length<=A.length)(hB:(B.drop q).take b.length=b)(F:q+b.length<=B.length)(hl:a.length<100000000000000):aM 56 [.sl 0 o a.length 1 G,.sl 1 q b.length 1 fb] [ak A,ak B] (.b (decide (a=b))) []:=by
 by_cases r:a.length=b.length
 .have g1:((a.length:Int) !=(b.length:Int))=af:=by simp [r]
  have hd:=aj9 a b r;rw [<-hd];rw [<-r]at hB F|-;refine Ig ?_;refine zu ?_;repeat(first|refine zW (bC bY) ?_)
  refine bT a.length (λi=> [(14,.i (i.1:Int)),(13,.i (a.length:Int)),(5,.u8 (sT a b i.1)),(0,.sl 0 o a.length 1 G),(1,.sl 1 q a.length 1 fb)]) (λ_=> [ak A,ak B]) 2 ?_ ?_
  .have h0:=aka a b;refine bP [0,1] ?_ ?_
   ·(repeat'(first|exact trivial|refine aJ ?_ ?_|fail))<;>first|rfl|exact nG (by exact h0)|fail
   .exact zo
  .rintro⟨i,hi⟩;dsimp only;by_cases u:i<a.length
   .have hlt:decide ((i:Int)<(a.length:Int))=ab:=aA;have hp1:=AU i ag;have hst:sT a b (i+1)=sT a b i|||(A.getD (o+i) 0^^^B.getD (q+i) 0):=by rw [VF,O4 hA u];rw [r]at hB u;rw [O4 hB u]
    refine zt ?_;repeat(first|refine zH (cU (i:=o+i) aT ag) ?_|refine zH (cU (i:=q+i) aT ag) ?_|refine zH (bg (m:=i) az) ?_|refine aS ?_)
    refine zC ?_;refine bP [0,1] ?_ ?_
    ·(repeat'(first|exact trivial|refine aJ ?_ ?_|fail))<;>first|exact dh (by first|exact hp1|exact hp1.symm|fail)|rfl|exact nG (by exact hst)|fail
    .exact zo
   .obtain rfl:i=a.length:=ag;have hlt:decide ((a.length:Int)<(a.length:Int))=af:=aq;refine yF ?_;conv=>whnf
    exact jy
 .have g1:((a.length:Int) !=(b.length:Int))=ab:=aA;have hd:decide (a=b)=af:=by simp only [decide_eq_false_iff_not];intro e;exact r (by rw [e])
  rw [hd];refine Ig ?_;refine zu ?_;repeat(first|refine zW (bl g1) ?_)
  exact jy
end Go.Sh
namespace Go.Sh
open Go.Proofs
theorem AN(w:List UInt8)(R:Nat)(c b:List UInt8):(iP w R c b).length=b.length:=by unfold iP;exact od
theorem VA(w:List UInt8)(R:Nat)(c b:List UInt8)(j:Nat)(h:j<b.length):(iP w R c b).getD j 0=fB w R c b j:=by unfold iP;exact tW h
theorem ZC{l m:List UInt8}(hl:l.length=m.length)(h:∀j,j<l.length->l.getD j 0=m.getD j 0):l=m:=by apply List.ext_getElem hl;intro j h1 h2;have:=h j h1;rw [dk,dk,dy h1,dy h2]at this;exact this
theorem VB(w:List UInt8)(R:Nat)(c b:List UInt8):iP w R c (iP w R c b)=b:=by
 apply ZC
 .rw [AN,AN]
 .intro j hj;rw [AN]at hj;rw [VA _ _ _ _ _ hj];rw [AN]at hj;unfold fB;rw [VA _ _ _ _ _ hj];unfold fB;rw [UInt8.xor_assoc,UInt8.xor_self,vE]
def mC(r:List UInt8):List UInt8:=r++ [0,0,0,2]
theorem BZ{r:List UInt8}(h:r.length=12):rK (r++ [0,0,0,1])=mC r:=by
 match r,h with
 | [a,b,c,d,e,f,g,h,i,j,k,l],_=>rfl
def jw(w:List UInt8)(R:Nat)(r u:List UInt8):List UInt8:=iP w R (mC r) u
def gA(w:List UInt8)(R:Nat)(r aad u:List UInt8):List UInt8:=jw w R r u++kq w R r aad (jw w R r u)
theorem TL(w:List UInt8)(R:Nat)(r aad u:List UInt8):(kq w R r aad u).length=16:=by unfold kq;rw [AN,Gd]
theorem DV(w:List UInt8)(R:Nat)(u r:List UInt8):(jw w R u r).length=r.length:=AN ..
theorem AH(w:List UInt8)(R:Nat)(u aad r:List UInt8):(gA w R u aad r).length=r.length+16:=by unfold gA;rw [aW,TL,DV]
attribute [local irreducible] kq jw
theorem aar(key u aad r A D:List UInt8)(hk:key.length=16)(hno:u.length=12)(hA:(A.drop 0).take aad.length=aad)(hD:(D.drop 0).take r.length=r)(I:0+aad.length<=A.length)(O:0+r.length<=D.length)(W:aad.length<1000000)(hp:r.length<1000000)(U f1 f2:Bool):aM 45 [.sl 0 0 16 1 U,.agg (u.map .u8),.sl 1 0 aad.length 1 f1,.sl 2 0 r.length 1 f2] [ak key,ak A,ak D] (.tup [.sl 3 0 (r.length+16) 1 af,.i 0]) [aC 5 (gA (aO key 4 44) 10 u aad r)]:=by
 have hwl:=Cv key;obtain⟨w,hwe⟩:=ax (aO key 4 44);have hn:=Dd U key key 0 hk wJ;rw [<-hwe]at hn hwl|-;have h94:=f94 u hno;have h54:=Ai (u++ [0,0,0,1]) (by simp [hno]);rw [BZ hno]at h54;obtain⟨T,hT⟩:=ax (jw w 10 u r);have F:T.length=r.length:=by rw [hT];exact DV ..
 have h53:=vO 44 af w 10 rfl hwl ag ag (mC u) D r 0 hD O CH ag ab f2;rw [show iP w 10 (mC u) r=T by rw [hT];unfold jw;rfl]at h53;have h95:=f95 44 af w 10 rfl hwl ag ag u aad T A T hno hA aq I ag W ag f1 af;rw [F]at h95;obtain⟨G,hG⟩:=ax (kq w 10 u aad T);have V:G.length=16:=A7;rw [<-hG]at h95;have hse:gA w 10 u aad r=T++G:=by unfold gA;rw [<-hT,<-hG]
 rw [hse];refine aL (fn:=Tryz.f45) ?_;refine zp ?_;refine NH ?_;refine yZ ?_;refine zl ?_;have hcat:(T++G).map SV.u8=aB (r.length*1) (aG 0 (T.map SV.u8))++aB (16*1) (aG 0 (G.map SV.u8)):=by rw [cq,cq,bW aA,bW aA,dU]
 exact bE [0,1,2,9]
theorem aas(key u aad r A D:List UInt8)(hk:key.length=32)(hno:u.length=12)(hA:(A.drop 0).take aad.length=aad)(hD:(D.drop 0).take r.length=r)(I:0+aad.length<=A.length)(O:0+r.length<=D.length)(W:aad.length<1000000)(hp:r.length<1000000)(U f1 f2:Bool):aM 45 [.sl 0 0 32 1 U,.agg (u.map .u8),.sl 1 0 aad.length 1 f1,.sl 2 0 r.length 1 f2] [ak key,ak A,ak D] (.tup [.sl 3 0 (r.length+16) 1 af,.i 0]) [aC 5 (gA (aO key 8 60) 14 u aad r)]:=by
 have hwl:=H8 key;obtain⟨w,hwe⟩:=ax (aO key 8 60);have hn:=FN U key key 0 hk wJ;rw [<-hwe]at hn hwl|-;have h94:=f94 u hno;have h54:=Ai (u++ [0,0,0,1]) (by simp [hno]);rw [BZ hno]at h54;obtain⟨T,hT⟩:=ax (jw w 14 u r);have F:T.length=r.length:=by rw [hT];exact DV ..
 have h53:=vO 60 af w 14 rfl hwl ag ag (mC u) D r 0 hD O CH ag ab f2;rw [show iP w 14 (mC u) r=T by rw [hT];unfold jw;rfl]at h53;have h95:=f95 60 af w 14 rfl hwl ag ag u aad T A T hno hA aq I ag W ag f1 af;rw [F]at h95;obtain⟨G,hG⟩:=ax (kq w 14 u aad T);have V:G.length=16:=A7;rw [<-hG]at h95;have hse:gA w 14 u aad r=T++G:=by unfold gA;rw [<-hT,<-hG]
 rw [hse];refine aL (fn:=Tryz.f45) ?_;refine zp ?_;refine NI ?_;refine yZ ?_;refine zl ?_;have hcat:(T++G).map SV.u8=aB (r.length*1) (aG 0 (T.map SV.u8))++aB (16*1) (aG 0 (G.map SV.u8)):=by rw [cq,cq,bW aA,bW aA,dU]
 exact bE [0,1,2,9]
end Go.Sh
namespace Go.Sh
open Go.Proofs
def gr(s:List UInt8):Nat:=s.length-16
def jD(w:List UInt8)(R:Nat)(r aad s:List UInt8):Bool:=decide (16<=s.length)&&decide (kq w R r aad (s.take (gr s))=s.drop (gr s))
def mN(w:List UInt8)(R:Nat)(r s:List UInt8):List UInt8:=jw w R r (s.take (gr s))
attribute [local irreducible] kq jw
theorem aax(key r aad s A D:List UInt8)(hk:key.length=16)(hs:s.length<16)(u f1 f2:Bool):aM 48 [.sl 0 0 16 1 u,.agg (r.map .u8),.sl 1 0 aad.length 1 f1,.sl 2 0 s.length 1 f2] [ak key,ak A,ak D] (.tup [.slnil,.i 140]) []:=by
 have hn:=Dd u key key 0 hk wJ;have g1:decide (au ((s.length:Int)-16)<0)=ab:=by simp only [eI,decide_eq_true_eq];omega
 refine yR ?_;refine zW (dY [0] [ak key,al (cD.map .u8++ [.sl 5 0 44 4 af]),aC 179 (aO key 4 44)] (.tup [.p 4 0,.i 0]) hn) ?_;exact Xq
theorem aat(key r aad s A D:List UInt8)(hk:key.length=16)(hs:16<=s.length)(hno:r.length=12)(hA:(A.drop 0).take aad.length=aad)(hD:(D.drop 0).take s.length=s)(V:0+aad.length<=A.length)(h6:0+s.length<=D.length)(Z:aad.length<1000000)(hp:s.length<1000000)(I:jD (aO key 4 44) 10 r aad s=af)(W f1 f2:Bool):aM 48 [.sl 0 0 16 1 W,.agg (r.map .u8),.sl 1 0 aad.length 1 f1,.sl 2 0 s.length 1 f2] [ak key,ak A,ak D] (.tup [.slnil,.i 140]) []:=by
 have hwl:=Cv key;obtain⟨w,hwe⟩:=ax (aO key 4 44);have hn:=Dd W key key 0 hk wJ;try rw [<-hwe]
 rw [<-hwe]at hn hwl I;have hcn:s.length=gr s+16:=by unfold gr;omega
 obtain⟨q,hq⟩:=ax (gr s);have h7:s.length=q+16:=by rw [hq];exact hcn
 have g1:decide (au ((s.length:Int)-16)<0)=af:=ub;have hw:au ((s.length:Int)-16)=(q:Int):=cp;have h94:=f94 r hno;have h54:=Ai (r++ [0,0,0,1]) (by simp [hno]);rw [BZ hno]at h54;obtain⟨t,ht⟩:=ax (s.take q);obtain⟨u,hu⟩:=ax (s.drop q);have htl:t.length=q:=IK;have hul:u.length=16:=IM;have F:(D.drop 0).take t.length=t:=by have:(D.drop 0).take q=((D.drop 0).take s.length).take q:=IN;rw [htl,this,hD,ht]
 have hDu:(D.drop q).take u.length=u:=by have:((D.drop 0).take s.length).drop q=(D.drop q).take (s.length-q):=IP;rw [hul,show 16=s.length-q by omega,<-this,hD,hu]
 have h95:=f95 44 af w 10 rfl hwl ag ag r aad t A D hno hA F V ag Z ag f1;simp only [htl]at h95;obtain⟨G,hG⟩:=ax (kq w 10 r aad t);have O:G.length=16:=A7;simp only [<-hG]at h95;have h96:=λf=>f96 G u G D 0 (0+q*1) af f aq ag IQ ag ag
 have U:decide (G=u)=af:=by have:jD w 10 r aad s=decide (G=u):=IS;rw [<-this];exact I
 simp only [U,O,show u.length=s.length-q by omega]at h96;have h53:=vO 44 af w 10 rfl hwl ag ag (mC r) D t 0 F ag CH ag ab;obtain⟨X,hX⟩:=ax (mN w 10 r s);simp only [show iP w 10 (mC r) t=X by rw [hX,ht,hq];unfold mN jw;rfl,htl]at h53;try rw [<-hX,<-hq]
 refine yR ?_;refine NH ?_;exact Xs
theorem aav(key r aad s A D:List UInt8)(hk:key.length=16)(hs:16<=s.length)(hno:r.length=12)(hA:(A.drop 0).take aad.length=aad)(hD:(D.drop 0).take s.length=s)(V:0+aad.length<=A.length)(h6:0+s.length<=D.length)(Z:aad.length<1000000)(hp:s.length<1000000)(I:jD (aO key 4 44) 10 r aad s=ab)(W f1 f2:Bool):aM 48 [.sl 0 0 16 1 W,.agg (r.map .u8),.sl 1 0 aad.length 1 f1,.sl 2 0 s.length 1 f2] [ak key,ak A,ak D] (.tup [.sl 3 0 (gr s) 1 af,.i 0]) [aC 5 (mN (aO key 4 44) 10 r s)]:=by
 have hwl:=Cv key;obtain⟨w,hwe⟩:=ax (aO key 4 44);have hn:=Dd W key key 0 hk wJ;try rw [<-hwe]
 rw [<-hwe]at hn hwl I;have hcn:s.length=gr s+16:=by unfold gr;omega
 obtain⟨q,hq⟩:=ax (gr s);have h7:s.length=q+16:=by rw [hq];exact hcn
 have g1:decide (au ((s.length:Int)-16)<0)=af:=ub;have hw:au ((s.length:Int)-16)=(q:Int):=cp;have h94:=f94 r hno;have h54:=Ai (r++ [0,0,0,1]) (by simp [hno]);rw [BZ hno]at h54;obtain⟨t,ht⟩:=ax (s.take q);obtain⟨u,hu⟩:=ax (s.drop q);have htl:t.length=q:=IK;have hul:u.length=16:=IM;have F:(D.drop 0).take t.length=t:=by have:(D.drop 0).take q=((D.drop 0).take s.length).take q:=IN;rw [htl,this,hD,ht]
 have hDu:(D.drop q).take u.length=u:=by have:((D.drop 0).take s.length).drop q=(D.drop q).take (s.length-q):=IP;rw [hul,show 16=s.length-q by omega,<-this,hD,hu]
 have h95:=f95 44 af w 10 rfl hwl ag ag r aad t A D hno hA F V ag Z ag f1;simp only [htl]at h95;obtain⟨G,hG⟩:=ax (kq w 10 r aad t);have O:G.length=16:=A7;simp only [<-hG]at h95;have h96:=λf=>f96 G u G D 0 (0+q*1) af f aq ag IQ ag ag
 have U:decide (G=u)=ab:=by have:jD w 10 r aad s=decide (G=u):=IS;rw [<-this];exact I
 simp only [U,O,show u.length=s.length-q by omega]at h96;have h53:=vO 44 af w 10 rfl hwl ag ag (mC r) D t 0 F ag CH ag ab;obtain⟨X,hX⟩:=ax (mN w 10 r s);simp only [show iP w 10 (mC r) t=X by rw [hX,ht,hq];unfold mN jw;rfl,htl]at h53;try rw [<-hX,<-hq]
 refine yR ?_;refine NH ?_;refine zF ?_;exact yK
theorem aay(key r aad s A D:List UInt8)(hk:key.length=32)(hs:s.length<16)(u f1 f2:Bool):aM 48 [.sl 0 0 32 1 u,.agg (r.map .u8),.sl 1 0 aad.length 1 f1,.sl 2 0 s.length 1 f2] [ak key,ak A,ak D] (.tup [.slnil,.i 140]) []:=by
 have hn:=FN u key key 0 hk wJ;have g1:decide (au ((s.length:Int)-16)<0)=ab:=by simp only [eI,decide_eq_true_eq];omega
 refine yR ?_;refine zW (dY [0] [ak key,al (cD.map .u8++ [.sl 5 0 60 4 af]),aC 179 (aO key 8 60)] (.tup [.p 4 0,.i 0]) hn) ?_;exact Xq
theorem aau(key r aad s A D:List UInt8)(hk:key.length=32)(hs:16<=s.length)(hno:r.length=12)(hA:(A.drop 0).take aad.length=aad)(hD:(D.drop 0).take s.length=s)(V:0+aad.length<=A.length)(h6:0+s.length<=D.length)(Z:aad.length<1000000)(hp:s.length<1000000)(I:jD (aO key 8 60) 14 r aad s=af)(W f1 f2:Bool):aM 48 [.sl 0 0 32 1 W,.agg (r.map .u8),.sl 1 0 aad.length 1 f1,.sl 2 0 s.length 1 f2] [ak key,ak A,ak D] (.tup [.slnil,.i 140]) []:=by
 have hwl:=H8 key;obtain⟨w,hwe⟩:=ax (aO key 8 60);have hn:=FN W key key 0 hk wJ;try rw [<-hwe]
 rw [<-hwe]at hn hwl I;have hcn:s.length=gr s+16:=by unfold gr;omega
 obtain⟨q,hq⟩:=ax (gr s);have h7:s.length=q+16:=by rw [hq];exact hcn
 have g1:decide (au ((s.length:Int)-16)<0)=af:=ub;have hw:au ((s.length:Int)-16)=(q:Int):=cp;have h94:=f94 r hno;have h54:=Ai (r++ [0,0,0,1]) (by simp [hno]);rw [BZ hno]at h54;obtain⟨t,ht⟩:=ax (s.take q);obtain⟨u,hu⟩:=ax (s.drop q);have htl:t.length=q:=IK;have hul:u.length=16:=IM;have F:(D.drop 0).take t.length=t:=by have:(D.drop 0).take q=((D.drop 0).take s.length).take q:=IN;rw [htl,this,hD,ht]
 have hDu:(D.drop q).take u.length=u:=by have:((D.drop 0).take s.length).drop q=(D.drop q).take (s.length-q):=IP;rw [hul,show 16=s.length-q by omega,<-this,hD,hu]
 have h95:=f95 60 af w 14 rfl hwl ag ag r aad t A D hno hA F V ag Z ag f1;simp only [htl]at h95;obtain⟨G,hG⟩:=ax (kq w 14 r aad t);have O:G.length=16:=A7;simp only [<-hG]at h95;have h96:=λf=>f96 G u G D 0 (0+q*1) af f aq ag IQ ag ag
 have U:decide (G=u)=af:=by have:jD w 14 r aad s=decide (G=u):=IS;rw [<-this];exact I
 simp only [U,O,show u.length=s.length-q by omega]at h96;have h53:=vO 60 af w 14 rfl hwl ag ag (mC r) D t 0 F ag CH ag ab;obtain⟨X,hX⟩:=ax (mN w 14 r s);simp only [show iP w 14 (mC r) t=X by rw [hX,ht,hq];unfold mN jw;rfl,htl]at h53;try rw [<-hX,<-hq]
 refine yR ?_;refine NI ?_;exact Xs
theorem aaw(key r aad s A D:List UInt8)(hk:key.length=32)(hs:16<=s.length)(hno:r.length=12)(hA:(A.drop 0).take aad.length=aad)(hD:(D.drop 0).take s.length=s)(V:0+aad.length<=A.length)(h6:0+s.length<=D.length)(Z:aad.length<1000000)(hp:s.length<1000000)(I:jD (aO key 8 60) 14 r aad s=ab)(W f1 f2:Bool):aM 48 [.sl 0 0 32 1 W,.agg (r.map .u8),.sl 1 0 aad.length 1 f1,.sl 2 0 s.length 1 f2] [ak key,ak A,ak D] (.tup [.sl 3 0 (gr s) 1 af,.i 0]) [aC 5 (mN (aO key 8 60) 14 r s)]:=by
 have hwl:=H8 key;obtain⟨w,hwe⟩:=ax (aO key 8 60);have hn:=FN W key key 0 hk wJ;try rw [<-hwe]
 rw [<-hwe]at hn hwl I;have hcn:s.length=gr s+16:=by unfold gr;omega
 obtain⟨q,hq⟩:=ax (gr s);have h7:s.length=q+16:=by rw [hq];exact hcn
 have g1:decide (au ((s.length:Int)-16)<0)=af:=ub;have hw:au ((s.length:Int)-16)=(q:Int):=cp;have h94:=f94 r hno;have h54:=Ai (r++ [0,0,0,1]) (by simp [hno]);rw [BZ hno]at h54;obtain⟨t,ht⟩:=ax (s.take q);obtain⟨u,hu⟩:=ax (s.drop q);have htl:t.length=q:=IK;have hul:u.length=16:=IM;have F:(D.drop 0).take t.length=t:=by have:(D.drop 0).take q=((D.drop 0).take s.length).take q:=IN;rw [htl,this,hD,ht]
 have hDu:(D.drop q).take u.length=u:=by have:((D.drop 0).take s.length).drop q=(D.drop q).take (s.length-q):=IP;rw [hul,show 16=s.length-q by omega,<-this,hD,hu]
 have h95:=f95 60 af w 14 rfl hwl ag ag r aad t A D hno hA F V ag Z ag f1;simp only [htl]at h95;obtain⟨G,hG⟩:=ax (kq w 14 r aad t);have O:G.length=16:=A7;simp only [<-hG]at h95;have h96:=λf=>f96 G u G D 0 (0+q*1) af f aq ag IQ ag ag
 have U:decide (G=u)=ab:=by have:jD w 14 r aad s=decide (G=u):=IS;rw [<-this];exact I
 simp only [U,O,show u.length=s.length-q by omega]at h96;have h53:=vO 60 af w 14 rfl hwl ag ag (mC r) D t 0 F ag CH ag ab;obtain⟨X,hX⟩:=ax (mN w 14 r s);simp only [show iP w 14 (mC r) t=X by rw [hX,ht,hq];unfold mN jw;rfl,htl]at h53;try rw [<-hX,<-hq]
 refine yR ?_;refine NI ?_;refine zF ?_;exact yK
end Go.Sh
