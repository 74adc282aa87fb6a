/- Merged for a claim: W51, W59, W47. -/
import Derived.Test.YtkahaemiigimcaaGreatFm19
set_option linter.unusedSimpArgs false
set_option linter.unusedVariables false
set_option maxHeartbeats 8000000
open Option renaming some->aa
open Bool renaming true->ab,false->af
open And renaming intro->aJ
open Int renaming toNat->aU,tmod_eq_emod_of_nonneg->sk
open Nat renaming le_refl->bH,zero_le->kD
open UInt8 renaming ofNat->cX
open List renaming getD_eq_getElem?_getD->dk,getElem?_eq_getElem->dy,length_set->fJ,mem_cons_of_mem->jN,mem_of_getElem?->jO,mem_cons_self->kX
namespace Go.Sh
open Go.Proofs
variable{W:List (Nat×UInt64)}{E:List FE}{N j m:Nat}{xB:SV}{S:St}{K:UInt64->List UInt8}
theorem ahn{a c:Int}(h:c≠0):iI .rem (.i a) (.i c)=aa (.i (a.tmod c)):=by simp only [iI,gG,if_neg h]
theorem QL(x:Int){n:Nat}(h0:0<n)(h1:n<=1000):∃i,i<n/\(au (x.tmod n+n)).tmod n=(i:Int):=by
 have a1:=Int.tmod_lt_of_pos x (show(0:Int)<n by omega);have a2:=Int.lt_tmod_of_pos x (show(0:Int)<n by omega);have e:au (x.tmod n+n)=x.tmod n+n:=by rw [eI];omega
 rw [e];have r:=Int.tmod_lt_of_pos (x.tmod n+n) (show(0:Int)<n by omega);have u:=Int.tmod_nonneg (n:Int) (show 0<=x.tmod n+n by omega);exact⟨((x.tmod n+n).tmod n).toNat,ag,ag⟩
theorem ac1(h:cV S K W E N){fs:List FE}(hfs:∀x,x∈S.fs->x∈fs):cV {S with fs:=fs} K W E N:=by
 have e:∀j,({S with fs:=fs}:St).pt j=S.pt j:=λj=>by match j with|0=>rfl|1=>rfl|j+2=>rfl
 refine⟨h.s1,h.s2,h.sb,h.eN,h.fN,h.hN,h.ro,λj hj=>?_,λc hc=>?_,h.op,λk hk=>?_,h.wl⟩
 .have q:=h.pt j hj;rw [e];exact⟨q.dv,q.sm,q.g,q.ep,q.ds,q.srt,q.len,q.hd,q.out,q.own,λy hy=>let r:=q.snd y hy;⟨r.p,r.d,r.g,r.c,r.k0,r.k1⟩,q.rk,λx hx=>(q.rcs x hx).imp id λ⟨a,b,c,d,g1,g2,g3,g4,g5,g6,g7,u⟩=>⟨a,b,c,d,g1,g2,g3,g4,hfs _ g5,hfs _ g6,g7,u⟩⟩
 .obtain⟨e,d,g,ct,g1,g2,g3,g4,g5,g6,g7⟩:=h.fr c hc;exact⟨e,d,g,ct,g1,g2,g3,g4,g5,hfs _ g6,g7⟩
 .obtain⟨e2,d,g,ct,y,g1,g2,g3,g4,g5⟩:=h.sl k hk;exact⟨e2,d,g,ct,y,g1,g2,g3,by rw [e];exact g4,g5⟩
theorem X7:pe Tryz.prog 23 23 5 1 1 (.u8 0):=⟨by kernel_rfl,.inl ⟨5,by kernel_rfl⟩,by kernel_rfl,by kernel_rfl,rfl,by kernel_rfl,by decide⟩
theorem aiO{a:UInt8}{n:Int}(h:n=(m:Int)):iI .shl (.u8 a) (.i n)=aa (.u8 (oe a m)):=by subst h;simp [iI,rp,wq]
theorem aiP(h:m<8)(x:UInt8):x^^^oe (cX (aU 1)) m≠x:=by
 have h1:∀m:Fin 8,oe (cX (aU 1)) m.1≠0:=aw;intro e;have h2:=h1 ⟨m,h⟩;have:x^^^(x^^^oe (cX (aU 1)) m)=x^^^x:=by rw [e]
 rw [<-UInt8.xor_assoc,UInt8.xor_self,UInt8.zero_xor]at this;exact h2 this
theorem ac6{x:Int}(hx:x<9223372036854775808){n:Nat}(h4:4<=n)(h5:n<=1000000){y:Int}(hy:y=if x<0 then 0 else x):∃i m:Nat,i<4/\m<8/\au (au ((n:Int)-1)-(au (y.tdiv 8)).tmod 4)=((n-1-i:Nat):Int)/\y.tmod 8=(m:Int):=by
 have r:0<=y:=by rw [hy];split<;>omega
 have u:y<9223372036854775808:=by rw [hy];split<;>omega
 have e1:au (y.tdiv 8)=y/8:=by rw [Int.tdiv_eq_ediv_of_nonneg r,eI];omega
 have e2:(y/8).tmod 4=y/8%4:=sk ag;have e3:au ((n:Int)-1)=(n:Int)-1:=by rw [eI];omega
 refine⟨(y/8%4).toNat,(y%8).toNat,ag,ag,?_,?_⟩
 .rw [e1,e2,e3,eI];omega
 .rw [sk r];omega
theorem Zn(h:cV S K W E N)(he:S.ep≠0)(hj:j=0\/j=1\/j=2)(w:UInt8)(hw:(w.toNat:Int)%3=j)(O U:Int)(hxB:iG xB=ab):fc Tryz.prog 12 [.p 0 0,.agg [.u8 2,.u8 w,.i O,.i U,xB]] (eG (cF j) (cE j) (S.sw j) [aa (.ext (.fam E))]) λret H=>ret= .b ab/\∃F,(F=S/\S.fr= []\/∃c,c∈S.fr/\Bi S K W E N j c af F)/\H=eG (cF j) (cE j) (F.sw j) [aa (.ext (.fam E))]:=by
 have G:(S.sw j).fr.length<=1000:=by have h1:=h.fN;have h2:=h.hN;rcases hj with rfl|rfl|rfl<;>(show S.fr.length<=1000;omega)
 have r:(S.sw j).fr=S.fr:=by rcases hj with rfl|rfl|rfl<;>rfl
 have q:=fun(c:Pc) (hc:c∈S.fr) (hm:aX c.b∈S.fs)=>RV h he hj hc (pF:=c.b) hm (ch:=af) (.inl ⟨rfl,rfl⟩)
 have hm:∀c,c∈S.fr->aX c.b∈S.fs:=λc hc=>by obtain⟨_,_,_,_,_,_,_,_,_,g6,_⟩:=h.fr c hc;exact g6
 obtain⟨T,hT⟩:=ax (S.sw j);rw [<-hT]at G r q|-;refine NB ?_;unfold eG og kp;refine zE ?_;refine zW (mn (J:= [2,19,20,21]) dw fq bD) ?_;refine zc ?_;refine bp.weak (R0:= [(0,.p 0 0),(3,.p 35 0),(4,.b af),(5,.i (j:Int))]) (H0:=eG (cF j) (cE j) T [aa (.ext (.fam E)),al [.u8 2,.u8 w,.i O,.i U,xB]]) (L0:=36) ?_ ?_
 .skip
  exact zD
 refine oY ?_;by_cases hn:0<T.fr.length
 .obtain⟨i,hi,e1⟩:=QL O hn G;obtain⟨c,hc⟩:∃c,T.fr[i]?=aa c:=⟨_,dy hi⟩;have u:c∈S.fr:=by rw [<-r];exact jO hc
  have q:=q c u (hm c u);have g0:decide ((T.fr.length:Int)>0)=ab:=EG;have nz:(T.fr.length:Int)≠0:=ag;refine WD ?_;refine wu rfl ?_;refine zW (wo (pre:= [_,_,_,_,_]) dw bD) ?_;refine yj ?_;refine HC (zs:= [.p 0 0,.i (j:Int),.agg (rR c),.lit c.b.1,.b af]) (caps:= []) [0,1,2,3,4,5,6,7,8,9,10,11,12,13,14,15,16,17,18,19,20,21,22,23,24,25,26,27,28,29,30,31,32,33,34] bD q rfl rfl rfl rfl rfl rfl rfl ?_ rfl ?_
  .exact bU
  rintro ret H1 ⟨rfl,F,ho,rfl⟩;refine⟨eG (cF j) (cE j) (F.sw j) [aa (.ext (.fam E))],.b ab,?_,rfl,?_⟩
  ·(repeat'(first|exact trivial|refine aJ ?_ ?_))<;>first|rfl|exact oa (Dz rfl rfl rfl _)|exact oa (Dy rfl rfl rfl _)|exact oa (qB _ _)|exact oa (qA _ _)|exact oa (aY (uN _) rfl)|exact oa (jc _ (cY _))|exact Ca (uV rfl rfl rfl _ _ _ _)|exact Ca (ve rfl _ _ _)|fail
  refine y8 ?_;refine⟨.b ab,_,⟨rfl,F,.inr ⟨c,u,ho⟩,rfl⟩,?_⟩;conv=>whnf
  exact zQ
 .have I:S.fr= []:=by rw [<-r];exact List.length_eq_zero_iff.1 (by omega)
  have g0:decide ((T.fr.length:Int)>0)=af:=ox;refine zu ?_;repeat(first|refine zW (bC g0) ?_)
  refine⟨.b ab,_,⟨rfl,S,.inl ⟨rfl,I⟩,by rw [<-hT]⟩,?_⟩;conv=>whnf
  exact zQ
theorem FF{P:Pt}:(S.up j P).ep=S.ep:=by match j with|0=>rfl|1=>rfl|j+2=>rfl
theorem ajg{a c:Int}(hc:c=4):gG .rem (.i a) (.i c)=aa (.i (a.tmod 4)):=by subst hc;rfl
theorem Yr{F:List UInt8}{k:Nat}(hm:m<8)(hk:k<F.length):F[k]?≠aa (F.getD k 0^^^oe (cX (aU 1)) m):=by intro e;rw [dk,dy hk]at e;exact aiP hm _ (Option.some.inj e).symm
theorem ajD(S:St)(hj:j=0\/j=1\/j=2):(S.sw j).fs=S.fs:=by rcases hj with rfl|rfl|rfl<;>rfl
theorem Zr(h:cV S K W E N)(he:S.ep≠0)(hj:j=0\/j=1\/j=2)(w:UInt8)(hw:(w.toNat:Int)%3=j)(I r:Int)(h8:r<9223372036854775808)(hxB:iG xB=ab):fc Tryz.prog 12 [.p 0 0,.agg [.u8 5,.u8 w,.i I,.i r,xB]] (eG (cF j) (cE j) (S.sw j) [aa (.ext (.fam E))]) λret H=>ret= .b ab/\∃u,(∃K2 W2,cV u K2 W2 E N)/\u.ep≠0/\H=eG (cF j) (cE j) (u.sw j) [aa (.ext (.fam E))]:=by
 have h6:(S.sw j).fr.length<=1000:=by have h1:=h.fN;have h2:=h.hN;rcases hj with rfl|rfl|rfl<;>(show S.fr.length<=1000;omega)
 have O:(S.sw j).fr=S.fr:=by rcases hj with rfl|rfl|rfl<;>rfl
 have hm:∀c,c∈S.fr->aX c.b∈S.fs:=λc hc=>by obtain⟨_,_,_,_,_,_,_,_,_,g6,_⟩:=h.fr c hc;exact g6
 obtain⟨T,hT⟩:=ax (S.sw j);rw [<-hT]at h6 O|-;refine NB ?_;unfold eG og kp;refine zE ?_;refine zW (mn (J:= [2,33,34,35,36,37,38]) dw fq bD) ?_;refine zc ?_;refine bp.weak (R0:= [(0,.p 0 0),(3,.p 35 0),(4,.b af),(5,.i (j:Int))]) (H0:=eG (cF j) (cE j) T [aa (.ext (.fam E)),al [.u8 5,.u8 w,.i I,.i r,xB]]) (L0:=36) ?_ ?_
 .skip
  exact zD
 refine oY ?_;by_cases hn:0<T.fr.length
 .obtain⟨i,hi,e1⟩:=QL I hn h6;obtain⟨c,hc⟩:∃c,T.fr[i]?=aa c:=⟨_,dy hi⟩;have G:c∈S.fr:=by rw [<-O];exact jO hc
  have hcb:=hm c G;have hfs:S.fs=T.fs:=by rw [hT];exact((ajD S hj)).symm
  rw [hfs]at hcb;have g0:decide ((T.fr.length:Int)>0)=ab:=EG;have nz:(T.fr.length:Int)≠0:=ag;obtain⟨U,Z⟩:4<=c.b.2.2.length/\c.b.2.2.length<=1000000:=by obtain⟨e,d,g,ct,g1,g2,g3,g4,g5,g6,g7⟩:=h.fr c G;have hl:=Ku h.s1 h.s2 S.b (K (aP e 0 d)) (aP e 0 d) g ct c.t.2.2;have hu:=sC (aV (aP e 0 d) S.b g) ct;have ht:=Co S.s;rw [g4,hl];omega
  refine WD ?_;refine oY ?_;refine zW (afr (p:=c.b) (el:=5) (by_:=1) (q:=33) X7 rfl rfl rfl (kD _) rfl rfl hcb ag (bH _)) ?_;obtain⟨F,hF⟩:=ax (c.b.2.2);refine bp.weak (R0:= [(0,.p 0 0),(3,.p 35 0),(4,.b af),(5,.i (j:Int)),(17,.p 36 0),(18,.sl 37 0 F.length 1 af)]) (H0:=eG (cF j) (cE j) T [aa (.ext (.fam E)),al [.u8 5,.u8 w,.i I,.i r,xB],al (rR c),aC 5 F]) (L0:=38) ?_ ?_
  .subst hF;exact bL [0,1,2,3,4,5,6,7,8,9,10,11,12,13,14,15,16,17,18,19,20,21,22,23,24,25,26,27,28,29,30,31,32,33,34,35,36,38]
  rw [<-hF]at U Z;obtain⟨y,hy⟩:=ax (if r<0 then 0 else r);refine oY ?_;refine bp.weak (R0:= [(0,.p 0 0),(3,.p 35 0),(4,.b af),(5,.i (j:Int)),(17,.p 36 0),(18,.sl 37 0 F.length 1 af),(19,.i y)]) (H0:=eG (cF j) (cE j) T [aa (.ext (.fam E)),al [.u8 5,.u8 w,.i I,.i r,xB],al (rR c),aC 5 F]) (L0:=38) ?_ ?_
  .refine bP [0,1,2,3,4,5,6,7,8,9,10,11,12,13,14,15,16,17,18,19,20,21,22,23,24,25,26,27,28,29,30,31,32,33,34,35,36,37] ?_ ?_
   ·(repeat'(first|exact trivial|exact iQ rfl aq aq|refine aJ ?_ ?_|fail))<;>first|exact dh (by exact hy)|rfl|fail
   .exact bU
  obtain⟨i2,m,h3,h4,e3,e4⟩:=ac6 h8 U Z hy;have f4:(if(F.length:Int)<4 then(F.length:Int)else 4)=4:=by split<;>omega
  have hil:F.length-1-i2<F.length:=ag;refine zu ?_;repeat(first|refine zH (ajg f4) ?_|refine zH (aiO e4) ?_|refine zH (nC (i:=F.length-1-i2) aT) ?_|refine zH (cU (i:=F.length-1-i2) aT ag) ?_|refine zH (bg (m:=F.length-1-i2) aT) ?_|refine aS ?_)
  obtain⟨v,hv⟩:=ax (F.getD (F.length-1-i2) 0^^^oe (cX (aU 1)) m);obtain⟨X,hX⟩:=ax (F.set (F.length-1-i2) v);have h7:X.length=F.length:=by rw [hX,fJ]
  refine bp.weak (R0:= [(0,.p 0 0),(3,.p 35 0),(4,.b af),(5,.i (j:Int)),(17,.p 36 0),(18,.sl 37 0 X.length 1 af)]) (H0:=eG (cF j) (cE j) T [aa (.ext (.fam E)),al [.u8 5,.u8 w,.i I,.i r,xB],al (rR c),aC 5 X]) (L0:=38) ?_ ?_
  .refine bP [0,1,2,3,4,5,6,7,8,9,10,11,12,13,14,15,16,17,18,19,20,21,22,23,24,25,26,27,28,29,30,31,32,33,34,35,36,37] ?_ ?_
   ·(repeat'(first|exact trivial|exact iQ rfl rfl h7|refine aJ ?_ ?_|fail))<;>first|rfl|fail
   ·(repeat'(first|exact trivial|exact Dz rfl rfl rfl _|exact Dy rfl rfl rfl _|exact qB _ _|exact qA _ _|exact uV rfl rfl rfl _ _ _ _|exact ve rfl _ _ _|exact uU rfl rfl rfl|exact aY (uN _) rfl|exact wc _ hxB|exact jc _ (cY _)|exact gw (by rw [hX,hv])|refine aJ ?_ ?_|(refine dM ?_ ?_)))<;>first|rfl|fail
  refine bp.toFs (d:=X) 18 37 33 rfl rfl rfl ?_;intro pF x0;have h9:Oc c.b.2.2 pF.2.2 ab:= .inr ⟨rfl,i2,v,h3,by
   rw [<-hF,hv];exact Yr h4 hil,by rw [x0,hX,hF]⟩
  have q:=RV (ac1 h (fs:=aX pF::S.fs) (λx hx=>jN _ hx)) he hj G (pF:=pF) (kX ..) h9;have eT:St.sw {S with fs:=aX pF::S.fs} j={T with fs:=aX pF::T.fs}:=by rw [hT];rcases hj with rfl|rfl|rfl<;>rfl
  rw [eT]at q;refine wu rfl ?_;refine zW (wo (pre:= [_,_,_,_]) dw bD) ?_;refine yl ?_;refine HC (zs:= [.p 0 0,.i (j:Int),.agg (rR c),.lit pF.1,.b ab]) (caps:= []) [0,1,2,3,4,5,6,7,8,9,10,11,12,13,14,15,16,17,18,19,20,21,22,23,24,25,26,27,28,29,30,31,32,33,34] bD q rfl rfl rfl rfl rfl rfl rfl ?_ rfl ?_
  .exact bU
  rintro ret H1 ⟨rfl,u,ho,rfl⟩;have iv:=RO ho;have ha:u.ep≠0:=by obtain⟨e,d,g,ct,er,R,n,V,fs,op,oc,_,_,_,_,_,rfl⟩:=ho;unfold St.opn;rw [FF];exact he
  refine⟨eG (cF j) (cE j) (u.sw j) [aa (.ext (.fam E))],.b ab,?_,rfl,?_⟩
  ·(repeat'(first|exact trivial|refine aJ ?_ ?_))<;>first|rfl|exact oa (Dz rfl rfl rfl _)|exact oa (Dy rfl rfl rfl _)|exact oa (qB _ _)|exact oa (qA _ _)|exact oa (aY (uN _) rfl)|exact oa (jc _ (cY _))|exact Ca (uV rfl rfl rfl _ _ _ _)|exact Ca (ve rfl _ _ _)|fail
  refine y8 ?_;refine⟨.b ab,_,⟨rfl,u,⟨K,iv⟩,ha,rfl⟩,?_⟩;conv=>whnf
  exact zQ
 .have g0:decide ((T.fr.length:Int)>0)=af:=ox;refine zu ?_;repeat(first|refine zW (bC g0) ?_)
  refine⟨.b ab,_,⟨rfl,S,⟨K,W,h⟩,he,by rw [<-hT]⟩,?_⟩;conv=>whnf
  exact zQ
structure CM(S:St)(P:Pt)(p:Nat)(x:Hd):Prop where
 sm:P.m.sm=ab
 n:P.m.l.length<1000000
 hx:P.m.l[p]?=aa x
 plc:oC P.m.l (aP P.m.ep 0 P.dv) p
 kid:x.kid=aP P.m.ep 0 P.dv
 px:decide (x.kid>bh qZ ((S.b:Int)).toNat)=af
 k0:0<x.key.length
 k1:x.key.length<=1024
 d0:0<(br P.z x).d.length
 d1:(br P.z x).d.length<=1024
 s1:1<=S.s.toNat
 s2:S.s.toNat<=5
 sb:S.b<=16
theorem Zo(hj:j=0\/j=1\/j=2)(S:St)(E:List FE)(w:UInt8)(hw:(w.toNat:Int)%3=j)(n0 bt:Int)(hxB:iG xB=ab)(hin:ji S.x S.y S.z j=ab){p:Nat}{r:Hd}(ho:CM S S.A p r):aQ 12 [.p 0 0,.agg [.u8 3,.u8 w,.i n0,.i bt,xB]] (eG (cF j) (cE j) S [aa (.ext (.fam E))]) (.b ab) (og 4 5 11 12 15 16 19 20 35 36 27 28 31 32 (cF j) (cE j) {S with A:={S.A with z:=aa (mT S.s S.b (br S.A.z r))}} [aa (.ext (.fam E)),al (cT S.s S.b 36 (aa (mT S.s S.b (br S.A.z r)))),ao 5 ((mT S.s S.b (br S.A.z r)).d.map .u8)]):=by
 obtain⟨s,b,x,y,z,g,ep,now,ro,fr,op,oc,sl,sc,nn,A,B,C,V,fs⟩:=S;obtain⟨dv,⟨sm,mg,G,ds,l⟩,zz,R,n⟩:=A;obtain⟨e1,o2,o3,o4,o5,o6,o7,o8,o9,I,O,U,Z⟩:=ho;dsimp only at e1 o2 o3 o4 o5 o6 o7 o8 o9 I O U Z hin;subst e1;have q:=aby o2 o3 (M:= .sl 2 0 ds.length 2 af) (λsel h=>by simp only [bG,h]) (X:=aN ds) (jG ds) nn dv mg G o4 o5 O U b Z o6 o7 o8 (dX R n) zz o9 I;obtain⟨y2,F⟩:=ax (mT s b (br zz r));rw [<-F]at q;dsimp only;rw [<-F];refine wF ?_;obtain⟨er,u⟩:∃er:Int,er=if((br zz r).g==cB b)=ab then 150 else 0:=⟨_,rfl⟩
 rw [<-u]at q;have h2:er=0\/er=150:=by rw [u];split;exact .inr rfl;exact .inl rfl
 refine yC ?_;refine bp.weak (R0:= [(0,.p 0 0),(3,.p 35 0),(4,.b af),(5,.i (j:Int))]) (H0:=eG (cF j) (cE j) ⟨s,b,x,y,z,g,ep,now,ro,fr,op,oc,sl,sc,nn,⟨dv,⟨ab,mg,G,ds,l⟩,zz,R,n⟩,B,C,V,fs⟩ [aa (.ext (.fam E)),al [.u8 3,.u8 w,.i n0,.i bt,xB]]) (L0:=36) ?_ ?_
 .exact zD
 rcases hj with rfl|rfl|rfl<;>rcases h2 with rfl|rfl
 all_goals
  refine r9 ?_;refine zW (aE [10,11,12,9,8,21,22,23,24] [af,af,af,af,af,af,ab,af,af,af,ab] ab q) ?_;repeat(first|refine zW (bl hin) ?_|refine zW (iN hin) ?_|refine aS ?_)
  exact Xg
end Go.Sh
