/- Merged for a claim: U1, U2, U3, M0, Sh30, M7, M1, M2, M6, M3, M4, M5w, M5, M5g, M5gw. -/
import Derived.Test.YtkahaemiigimcaaGreatFm3
set_option linter.unusedSimpArgs false
set_option linter.unusedVariables false
set_option maxHeartbeats 8000000
set_option maxRecDepth 100000
open Option renaming some->aa,none->ah
open Bool renaming true->ab,false->af
open List renaming take->aB,drop->aG,replicate->aK,length_append->aW,take_of_length_le->bW,drop_zero->cq,getD_eq_getElem?_getD->dk,length_map->dm,getElem?_eq_getElem->dy,map_append->dU,length_take->eZ,length_set->fJ,length_drop->fQ,append_assoc->iw,map_take->iU,append_nil->jz,nil_append->jA,length_replicate->kz,drop_drop->ng,take_take->nK,cons_append->oz,map_drop->o0,take_left'->vz,drop_append_of_le_length->wQ,take_append_of_le_length->wS,take_zero->wT,take_succ_eq_append_getElem->Bc
open UInt64 renaming ofNat->aF,toNat_inj->dJ,lt_iff_toNat_lt->gh,toNat_ofNat'->j5,toNat_add->lY,toNat_lt->l6,toNat_div->nL,toNat_mod->nM,toNat_toUInt8->oB,toNat_shiftRight->sr,toNat_mul->uu,toNat_and->wW
open And renaming intro->aJ
open Int renaming toNat->aU,toNat_natCast->mq
open Nat renaming le_refl->bH,mul_one->fS,mod_eq_of_lt->gq,zero_add->ig,min_eq_left->jt,shiftRight_eq_div_pow->np,pow_le_pow_right->uo,zero_mul->uq,div_eq_of_lt->vD
namespace Go.Sh
open Go.Proofs
def oM(h a b c d:Int):Value:= .agg #[.int .u8 h,.int .i64 a,.int .i64 b,.int .i64 c,.int .i64 d]
def ajs:Obj:= .map #[⟨.int .u16 1,oM 1 48 16 10 32,0⟩,⟨.int .u16 2,oM 1 48 16 8 32,1⟩,⟨.int .u16 3,oM 1 48 16 4 32,2⟩,⟨.int .u16 4,oM 1 16 16 16 32,3⟩,⟨.int .u16 5,oM 2 32 32 16 64,4⟩] 5
def iB(h:UInt8)(a b c d:Int):SV:= .agg [.u8 h,.i a,.i b,.i c,.i d]
theorem f114:aQ 76 [] [] (.mp 0) [aa (.ext (.lit ajs))]:=by refine aL (fn:=Tryz.f76) ?_;refine zp ?_;refine zW (GJ rfl) ?_;refine zc ?_;refine zW (DD 0 (.int .u16 1) (oM 1 48 16 10 32) rfl (.inl rfl) (by kernel_rfl:Tryz.prog.underlying 167=aa (.map 22 60)) (by kernel_rfl:Tryz.prog.underlying 22=aa (.int .u16)) rfl rfl rfl rfl rfl rfl rfl rfl) ?_;refine zc ?_;refine zW (DD 0 (.int .u16 2) (oM 1 48 16 8 32) rfl (.inl rfl) (by kernel_rfl:Tryz.prog.underlying 167=aa (.map 22 60)) (by kernel_rfl:Tryz.prog.underlying 22=aa (.int .u16)) rfl rfl rfl rfl rfl rfl rfl rfl) ?_;refine zc ?_;refine zW (DD 0 (.int .u16 3) (oM 1 48 16 4 32) rfl (.inl rfl) (by kernel_rfl:Tryz.prog.underlying 167=aa (.map 22 60)) (by kernel_rfl:Tryz.prog.underlying 22=aa (.int .u16)) rfl rfl rfl rfl rfl rfl rfl rfl) ?_;refine zc ?_;refine zW (DD 0 (.int .u16 4) (oM 1 16 16 16 32) rfl (.inl rfl) (by kernel_rfl:Tryz.prog.underlying 167=aa (.map 22 60)) (by kernel_rfl:Tryz.prog.underlying 22=aa (.int .u16)) rfl rfl rfl rfl rfl rfl rfl rfl) ?_;refine zc ?_;refine zW (DD 0 (.int .u16 5) (oM 2 32 32 16 64) rfl (.inl rfl) (by kernel_rfl:Tryz.prog.underlying 167=aa (.map 22 60)) (by kernel_rfl:Tryz.prog.underlying 22=aa (.int .u16)) rfl rfl rfl rfl rfl rfl rfl rfl) ?_;exact gH
theorem By:aQ 39 [.u16 1] [] (.tup [iB 1 48 16 10 32,.i 0]) []:=by refine yz ?_;refine zW (DE 1 0 (.int .u16 1) (oM 1 48 16 10 32) (iB 1 48 16 10 32) rfl (by kernel_rfl:Tryz.prog.underlying 167=aa (.map 22 60)) (by kernel_rfl:Tryz.prog.underlying 22=aa (.int .u16)) rfl rfl rfl rfl rfl rfl rfl) ?_;exact xU
theorem Bz:aQ 39 [.u16 2] [] (.tup [iB 1 48 16 8 32,.i 0]) []:=by refine yz ?_;refine zW (DE 1 1 (.int .u16 2) (oM 1 48 16 8 32) (iB 1 48 16 8 32) rfl (by kernel_rfl:Tryz.prog.underlying 167=aa (.map 22 60)) (by kernel_rfl:Tryz.prog.underlying 22=aa (.int .u16)) rfl rfl rfl rfl rfl rfl rfl) ?_;exact xU
theorem BA:aQ 39 [.u16 3] [] (.tup [iB 1 48 16 4 32,.i 0]) []:=by refine yz ?_;refine zW (DE 1 2 (.int .u16 3) (oM 1 48 16 4 32) (iB 1 48 16 4 32) rfl (by kernel_rfl:Tryz.prog.underlying 167=aa (.map 22 60)) (by kernel_rfl:Tryz.prog.underlying 22=aa (.int .u16)) rfl rfl rfl rfl rfl rfl rfl) ?_;exact xU
theorem BB:aQ 39 [.u16 4] [] (.tup [iB 1 16 16 16 32,.i 0]) []:=by refine yz ?_;refine zW (DE 1 3 (.int .u16 4) (oM 1 16 16 16 32) (iB 1 16 16 16 32) rfl (by kernel_rfl:Tryz.prog.underlying 167=aa (.map 22 60)) (by kernel_rfl:Tryz.prog.underlying 22=aa (.int .u16)) rfl rfl rfl rfl rfl rfl rfl) ?_;exact xU
theorem BC:aQ 39 [.u16 5] [] (.tup [iB 2 32 32 16 64,.i 0]) []:=by refine yz ?_;refine zW (DE 1 4 (.int .u16 5) (oM 2 32 32 16 64) (iB 2 32 32 16 64) rfl (by kernel_rfl:Tryz.prog.underlying 167=aa (.map 22 60)) (by kernel_rfl:Tryz.prog.underlying 22=aa (.int .u16)) rfl rfl rfl rfl rfl rfl rfl) ?_;exact xU
def pn(k:UInt64)(m:Nat):UInt8:=(bh k (8*m)).toUInt8
def gR(k:UInt64):Nat->UInt64
 |0=>k
 |m+1=>gR k m/256
theorem JB(k:UInt64):∀m,(gR k m).toNat=k.toNat/256^m
 |0=>by show k.toNat=_;simp
 |m+1=>by
  show(gR k m/256).toNat=_
  rw [nL,JB k m];show k.toNat/256^m/256=_
  rw [Nat.div_div_eq_div_mul,Nat.pow_succ]
theorem nQ(k:UInt64)(m:Nat)(hm:m<8):(gR k m%256).toUInt8=pn k m:=by
 unfold pn;apply UInt8.toNat.inj;rw [oB,oB,nM,JB];unfold bh;rw [if_pos ag,sr,j5];have e:8*m%2^64%64=8*m:=ag;rw [e,np];have h2:(2:Nat)^(8*m)=256^m:=by rw [Nat.pow_mul]
 rw [h2];show k.toNat/256^m%256%256=k.toNat/256^m%256
 omega
theorem Fj(k:UInt64)(m:Nat)(hm:8<=m):(gR k m%256).toUInt8=0:=by apply UInt8.toNat.inj;rw [oB,nM,JB];have h1:k.toNat<256^8:=k.toNat_lt;have h2:(256:Nat)^8<=256^m:=uo aw hm;rw [vD ag];rfl
def nP(k:UInt64):Nat->List UInt8
 |0=> []
 |m+1=>nP k m++ [pn k (7-m)]
theorem CV(k:UInt64):∀m,(nP k m).length=m
 |0=>rfl
 |m+1=>by show(nP k m++ [_]).length=_;rw [aW,CV k m];rfl
def wh(s:UInt16):List UInt8:= [(Ck s 8).toUInt8,s.toUInt8]
def dL(t:List UInt8)(k:UInt64)(s:UInt16):List UInt8:=t++nP k 8++wh s
theorem vQ(t:List UInt8)(k:UInt64)(s:UInt16):(dL t k s).length=t.length+10:=by unfold dL wh;rw [aW,aW,CV];rfl
theorem Yj(k:UInt64)(m:Nat):nP k (m+1)=nP k m++ [pn k (7-m)]:=rfl
theorem GY{E b:List UInt8}{n m:Nat}(hn:n=E.length)(hm:m=b.length):(E++b).map SV.u8=aB (n*1) (aG 0 (E.map SV.u8))++aB (m*1) (aG 0 (b.map SV.u8)):=by subst hn;subst hm;rw [fS,fS,cq,cq,bW (l:=b.map SV.u8) A5,bW (l:=E.map SV.u8) A5,dU]
theorem aiq(s:UInt16): [(s/256).toUInt8,(s%256).toUInt8]=wh s:=by
 unfold wh;have e1:(s/256).toUInt8=(Ck s 8).toUInt8:=by apply UInt8.toNat.inj;rw [UInt16.toNat_toUInt8,UInt16.toNat_toUInt8,UInt16.toNat_div];unfold Ck;rw [if_pos aw,UInt16.toNat_shiftRight,np];rfl
 have e2:(s%256).toUInt8=s.toUInt8:=by
  apply UInt8.toNat.inj;rw [UInt16.toNat_toUInt8,UInt16.toNat_toUInt8,UInt16.toNat_mod];show s.toNat%256%256=s.toNat%256
  omega
 rw [e1,e2]
theorem aiV{a:UInt64}{n:Int}{m:Nat}(h:n=(m:Int)):iI .shr (.u64 a) (.i n)=aa (.u64 (bh a m)):=by subst h;simp [iI,rp,tZ]
section
attribute [local irreducible] nP
theorem f116(t:List UInt8)(ht:t.length<1000)(k:UInt64)(s:UInt16):aQ 15 [.s t,.u64 k,.u16 s] [] (.sl 0 0 (t.length+10) 1 af) [aC 5 (dL t k s)]:=by
 refine aL (fn:=Tryz.f15) ?_;refine zp ?_;refine bT 8 (λm=> [(1,.u64 k),(2,.u16 s),(7,.sl 0 0 (t.length+m.1) 1 af),(8,.i (7-(m.1:Int)))]) (λm=> [aC 5 (t++nP k m.1)]) 1 ?_ ?_
 .have hz:t++nP k 0=t:=by rw [show nP k 0= [] by unfold nP;rfl,jz]
  refine yL ?_;exact bL [0]
 .rintro⟨m,hm⟩;dsimp only;have hl:=CV k m;have hs:=Yj k m;obtain⟨Y,hY⟩:=ax (t++nP k m);have r:Y.length=t.length+m:=by rw [hY,aW,hl]
  by_cases hm2:m<8
  .have hge:decide ((7-(m:Int))>=0)=ab:=aA;have u:au (8*(7-(m:Int)))=((8*(7-m):Nat):Int):=cp;have hp:au (7-(m:Int)-1)=7-((m+1:Nat):Int):=cp;have hYs:t++nP k (m+1)=Y++ [pn k (7-m)]:=by rw [hs,hY,iw]
   have hap:=GY (E:=Y) (b:= [pn k (7-m)]) (n:=t.length+m) (m:=1) r.symm rfl;have hp2:t.length+m+1=t.length+(m+1):=ag;rw [<-hY];refine yx ?_;conv=>whnf
   repeat(first|refine zH (aiV u) ?_|refine aS ?_)
   refine xO ?_;rw [hYs];exact bL [2]
  .obtain rfl:m=8:=ag;have hge:decide ((7-((8:Nat):Int))>=0)=af:=aw;have hap:=GY (E:=Y) (b:=wh s) (n:=t.length+8) (m:=2) r.symm rfl;have F:dL t k s=Y++wh s:=by unfold dL;rw [hY]
   rw [<-hY,F];refine xq ?_;refine zI ?_;exact bE [2]
end
theorem f118(t:List UInt8)(ht:t.length<1000)(k:UInt64)(s:UInt16):aQ 25 [.s t,.u64 k,.u16 s] [] (.sl 0 0 (t.length+10) 1 af) [aC 5 (dL t k s)]:=by
 have hD: [(gR k 7%256).toUInt8,(gR k 6%256).toUInt8,(gR k 5%256).toUInt8,(gR k 4%256).toUInt8,(gR k 3%256).toUInt8,(gR k 2%256).toUInt8,(gR k 1%256).toUInt8,(gR k 0%256).toUInt8]=nP k 8:=by rw [nQ k 7 aw,nQ k 6 aw,nQ k 5 aw,nQ k 4 aw,nQ k 3 aw,nQ k 2 aw,nQ k 1 aw,nQ k 0 aw];rfl
 have hS: [(s/256).toUInt8,(s%256).toUInt8]=wh s:=aiq s;have hap:(dL t k s).map SV.u8=aB ((t.length+8)*1) (aG 0 (aB (t.length*1) (aG 0 (t.map SV.u8))++aB (8*1) (aG 0 ([(gR k 7%256).toUInt8,(gR k 6%256).toUInt8,(gR k 5%256).toUInt8,(gR k 4%256).toUInt8,(gR k 3%256).toUInt8,(gR k 2%256).toUInt8,(gR k 1%256).toUInt8,(gR k 0%256).toUInt8].map SV.u8))))++aB (2*1) (aG 0 ([(s/256).toUInt8,(s%256).toUInt8].map SV.u8)):=by rw [hD,hS,<-GY (E:=t) (b:=nP k 8) rfl (CV k 8).symm,<-GY (E:=t++nP k 8) (b:=wh s) (m:=2) (by rw [aW,CV]) rfl];rfl
 have hlt:(t.length+8+2)=t.length+10:=rfl;refine aL (fn:=Tryz.f25) ?_;refine zp ?_;refine vu ?_;refine zW (pC dw fq bD 9) ?_;refine zl ?_;exact bE [4]
def bf(S:List UInt8)(c:UInt64):List UInt8:= [S.getD 0 0,S.getD 1 0,S.getD 2 0,S.getD 3 0,S.getD 4 0^^^pn c 7,S.getD 5 0^^^pn c 6,S.getD 6 0^^^pn c 5,S.getD 7 0^^^pn c 4,S.getD 8 0^^^pn c 3,S.getD 9 0^^^pn c 2,S.getD 10 0^^^pn c 1,S.getD 11 0^^^pn c 0]
theorem FH{l:List UInt8}(h:l.length=12):∃a b c d e f g i j k m n,l= [a,b,c,d,e,f,g,i,j,k,m,n]:=by
 match l,h with
 | [a,b,c,d,e,f,g,i,j,k,m,n],_=>exact⟨a,b,c,d,e,f,g,i,j,k,m,n,rfl⟩
theorem f70(s:UInt16)(kid c:UInt64)(n:Nat)(fl:Bool)(D:List UInt8)(S:List UInt8)(hS:S.length=12):aM 46 [.agg (.u16 s:: .u64 kid:: .sl 0 0 n 1 fl::S.map .u8),.u64 c] [ak D] (.agg ((bf S c).map .u8)) []:=by obtain⟨F,a1,a2,G,I,O,U,V,W,Z,r,u,rfl⟩:=FH hS;refine aL (fn:=Tryz.f46) ?_;refine zp ?_;refine zJ ?_;refine zW (pC dw fq bD 9) ?_;refine zq ?_;exact gH
theorem KW(x:UInt64):(x&&&4294967295).toNat=x.toNat%4294967296:=by rw [wW];exact Nat.and_two_pow_sub_one_eq_mod x.toNat 32
theorem GB(x y:UInt64)(h:x.toNat*y.toNat<18446744073709551616):(x*y).toNat=x.toNat*y.toNat:=by rw [uu];exact gq h
theorem ES(x y:UInt64)(h:x.toNat+y.toNat<18446744073709551616):(x+y).toNat=x.toNat+y.toNat:=by rw [lY];exact gq h
theorem DZ(x:UInt64)(n:Nat)(h:n<64):(bh x n).toNat=x.toNat/2^n:=by unfold bh;rw [if_pos h,sr,j5,show n%2^64%64=n by omega,np]
def BW(x y:UInt64):UInt64:=aF (x.toNat*y.toNat/18446744073709551616)
theorem Re(x y:UInt64):(BW x y).toNat=x.toNat*y.toNat/18446744073709551616:=by have h1:=l6 x;have h2:=l6 y;have:x.toNat*y.toNat<18446744073709551616*18446744073709551616:=Nat.mul_lt_mul'' h1 h2;unfold BW;rw [j5,gq];omega
theorem afh(a b:UInt64):bh a 32*bh b 32+bh (bh a 32*(b&&&4294967295)+bh ((a&&&4294967295)*(b&&&4294967295)) 32) 32+bh ((bh a 32*(b&&&4294967295)+bh ((a&&&4294967295)*(b&&&4294967295)) 32&&&4294967295)+(a&&&4294967295)*bh b 32) 32=BW a b:=by
 have ha:=l6 a;have hb:=l6 b;have a1:=DZ a 32 aw;have a0:=KW a;have O:=DZ b 32 aw;have b0:=KW b;have eA:a.toNat=a.toNat/4294967296*4294967296+a.toNat%4294967296:=ag;have eB:b.toNat=b.toNat/4294967296*4294967296+b.toNat%4294967296:=ag;rw [show(2:Nat)^32=4294967296 from rfl]at a1 O;have lA:a.toNat/4294967296<=4294967295:=ag;have lB:b.toNat/4294967296<=4294967295:=ag;have kA:a.toNat%4294967296<=4294967295:=ag;have kB:b.toNat%4294967296<=4294967295:=ag;apply UInt64.toNat_inj.mp;rw [Re];generalize bh a 32=I at*;generalize a&&&4294967295=A0 at*;generalize bh b 32=B1 at*;generalize b&&&4294967295=B0 at*;generalize a.toNat/4294967296=x1 at*;generalize a.toNat%4294967296=G at*;generalize b.toNat/4294967296=y1 at*;generalize b.toNat%4294967296=y0 at*;have h9:x1*y1<=4294967295*4294967295:=Nat.mul_le_mul lA lB;have h8:x1*y0<=4294967295*4294967295:=Nat.mul_le_mul lA kB;have h7:G*y1<=4294967295*4294967295:=Nat.mul_le_mul kA lB;have h6:G*y0<=4294967295*4294967295:=Nat.mul_le_mul kA kB;have F:=GB I B1 (by rw [a1,O];omega);have u:=GB I B0 (by rw [a1,b0];omega);have r:=GB A0 B1 (by rw [a0,O];omega);have W:=GB A0 B0 (by rw [a0,b0];omega);rw [a1,O]at F;rw [a1,b0]at u;rw [a0,O]at r;rw [a0,b0]at W;have s0:=DZ (A0*B0) 32 aw;rw [show(2:Nat)^32=4294967296 from rfl,W]at s0;have nt:=ES (I*B0) (bh (A0*B0) 32) (by rw [u,s0];omega);rw [u,s0]at nt;generalize I*B0+bh (A0*B0) 32=t at*;have st:=DZ t 32 aw;have mt:=KW t;rw [show(2:Nat)^32=4294967296 from rfl,nt]at st;rw [nt]at mt;have nw:=ES (t&&&4294967295) (A0*B1) (by rw [mt,r];omega);rw [mt,r]at nw;generalize(t&&&4294967295)+A0*B1=w at*;have sw:=DZ w 32 aw;rw [show(2:Nat)^32=4294967296 from rfl,nw]at sw;have Z:a.toNat*b.toNat=x1*y1*18446744073709551616+(x1*y0+G*y1)*4294967296+G*y0:=by rw [eA,eB];grind
 rw [Z];have r1:=ES (I*B1) (bh t 32) (by rw [F,st];omega);rw [F,st]at r1;rw [ES _ _ (by rw [r1,sw];omega),r1,sw];generalize x1*y1=P at*;generalize x1*y0=Q at*;generalize G*y1=U at*;generalize G*y0=V at*;omega
theorem aaF(a b:UInt64):aQ 183 [.u64 a,.u64 b] [] (.tup [.u64 (BW a b),.u64 (a*b)]) []:=by
 have hm:=afh a b;refine aL (fn:=Tryz.f183) ?_;refine zp ?_;refine⟨[],?_,rfl,rfl,?_,rfl⟩
 ·(repeat'(first|(refine wA ?_)|(refine dM ?_ ?_)))<;>first|exact lr (by first|exact hm|exact hm.symm|fail)|rfl|fail
 .exact zo
end Go.Sh
namespace Go.Sh
variable{h:List UInt32}{m:Nat}{a:UInt32}
theorem SN{ρ:bw}{id o sz:Nat}{fl:Bool}{rb:RB}(hr:ρ id=aa rb){bs:List SV}:∀{xs:List SV} {vs:List Value},aD ρ (xs++ .slnil::bs) vs->aD ρ (xs++ .sl id o 0 sz fl::bs) vs
 | [],vs,h=>by
  simp only [jA,aD,av]at h|-;obtain⟨y,ys,rfl,rfl,h2⟩:=h;exact⟨_,ys,rfl,⟨rb,ah,0,hr,rfl,bH _,λ_=>rfl,.inl rfl⟩,h2⟩
 |a::xs,vs,h=>by
  simp only [oz,aD]at h|-;obtain⟨y,ys,rfl,h1,h2⟩:=h;exact⟨y,ys,rfl,h1,SN hr h2⟩
theorem bV.nil{P:Program}{f:Nat}{ret:SV}{H0 H1:HL}(xs:List SV){bs:List SV}{id o sz:Nat}{fl:Bool}{b:SB}(h:bV P f (xs++ .sl id o 0 sz fl::bs) H0 ret H1)(hid:hk H0 id=aa b):bV P f (xs++ .slnil::bs) H0 ret H1:=by refine⟨h.fn,λn ρ w vs hv hH hS hf=>h.call n ρ w vs ?_ hH hS hf⟩;rw [kJ]at hid;obtain⟨rb,hr,_⟩:=hH id b hid;exact SN hr hv
open Go.Proofs
theorem f152(a b:UInt64):aQ 149 [.u64 a,.u64 b] [] (.tup [.u64 (BW a b),.u64 (a*b)]) []:=by have r:=aaF a b;refine aL (fn:=Tryz.f149) ?_;refine zM ?_;refine zW (aE [] [] ab r) ?_;exact gI
theorem ahq{c:UInt8}{l:List UInt8}{b n:Nat}(hl:l.length=n)(hb:b<=n)(hm:m<=b)(r:b+m<=n):(aK (b+m) c++l.drop (b+m)).map SV.u8=bN ((aK b c++l.drop b).map SV.u8) (0+b*1) (.agg (aB (m*1) (aB ((b-0)*1) (aG (0+0*1) ((aK b c++l.drop b).map SV.u8))))):=by
 have h1:aB (m*1) (aB ((b-0)*1) (aG (0+0*1) ((aK b c++l.drop b).map SV.u8)))=(aK m c).map SV.u8:=by rw [fS,Nat.sub_zero,fS,uq,ig,cq,nK,jt hm,<-iU,wS (by rw [kz];exact hm),List.take_replicate,jt hm]
 have h2:aG (b+m) (aK b c)= []:=by rw [List.drop_eq_nil_iff,kz];omega
 rw [h1];show _=aB (0+b*1) ((aK b c++l.drop b).map SV.u8)++(aK m c).map SV.u8++aG (0+b*1+((aK m c).map SV.u8).length) ((aK b c++l.drop b).map SV.u8)
 rw [dm,kz,ig,fS,<-iU,<-o0,vz aq,List.drop_append,kz,h2,jA,show b+m-b=m by omega,ng,<-dU,<-dU,List.replicate_append_replicate]
theorem FM(c:UInt8)(n:Nat)(x0:1<=n)(hn:n<=8192)(f:Bool):aM 116 [.sl 0 0 1 1 f,.i (n:Int)] [an [.u8 c]] (.sl 1 0 n 1 ab) [aC 5 (aK n c)]:=by
 have e0:((n:Int)==0)=af:=aA;have e1:decide ((n:Int)<0)=af:=aq;have h6:fO (n:Int)=aF n:=by unfold fO;congr 1;omega
 have u:(fO (n:Int)).toNat=n:=by rw [h6,j5];omega
 have G:fO ((1:Nat):Int)=1:=rfl;have r:=f152 (fO ((1:Nat):Int)) (fO (n:Int));have U:BW (fO ((1:Nat):Int)) (fO (n:Int))=0:=by apply dJ.1;rw [Re,u,G];show 1*n/18446744073709551616=0;omega
 have V:fO ((1:Nat):Int)*fO (n:Int)=fO (n:Int):=by rw [G,UInt64.one_mul]
 rw [U,V]at r;have e2:decide (fO (n:Int)>aF (aU 9223372036854775807))=af:=by rw [decide_eq_false_iff_not];intro hgt;have h:=gh.1 hgt;rw [u]at h;have h9:(aF (aU 9223372036854775807)).toNat=9223372036854775807:=aw;omega
 refine aL (fn:=Tryz.f116) ?_;refine zE ?_;refine zW (Cn (j:=16) dw fq bD) ?_;refine zl ?_;first|intro _
 refine zL ?_;refine zW (aE [] [] ab r) ?_;refine zc ?_;first|refine eV (by exact e2) ?_|fail
 refine zL ?_;have h7:au ((fO (n:Int)).toNat:Int)=(n:Int):=by rw [u];simp only [eI];omega
 have e3:decide ((n:Int)>8192)=af:=aA;rw [h7];first|refine eV (by exact e3) ?_|fail
 conv=>whnf
 refine ajE (n:=n) (T:=tt) (fn:=Tryz.f150) (t:=23) (e:=5) dw bD rfl ⟨rfl,rfl,rfl⟩ rfl rfl rfl rfl ag (by kernel_rfl:Tryz.prog.funcs[150]?=aa Tryz.f150) bD bD bD bD bD ?_;intro l hl;refine zI ?_;have W:((n:Int)).toNat=n:=mq n;refine fH (ι:={b:Nat//1<=b/\b<=n}) (λb=> [(7,.i n),(8,.i n),(9,.sl 1 0 n 1 ab),(10,.i (b.1:Int))]) (λb=> [an [.u8 c],aC 5 (aK b.1 c++l.drop b.1)]) (λ_=>2) (λb=>n-b.1) ⟨1,ag,ag⟩ ?_ ?_
 .dsimp only;have F:min 1 (n-0)=1:=ag;have I:decide (n=n)=ab:=aq;rw [W,F,I];have Z:(aK 1 c++l.drop 1).map SV.u8=bN (l.map SV.u8) (0+0*1) (.agg (aB (1*1) (aB (1*1) (aG 0 [SV.u8 c])))):=by
   show _=aB 0 (l.map SV.u8)++ [SV.u8 c]++aG 1 (l.map SV.u8)
   rw [wT,dU,o0];rfl
  refine bP [0,1] ?_ ?_
  .exact zo
  ·(repeat'(first|exact trivial|exact aY (cY _) Z|refine aJ ?_ ?_|(refine dM ?_ ?_)))<;>first|rfl|fail
 .rintro⟨b,h8,hb⟩;dsimp only;by_cases ha:b<n
  .have hlt:decide ((b:Int)<(n:Int))=ab:=aA;refine zt ?_;refine zl ?_;have O:¬((n:Int)<(b:Int)):=ag;rw [if_neg O];repeat(first|refine zH (oG (m:=b) rfl az) ?_|refine aS ?_)
   rw [mq];obtain⟨m,hm⟩:=ax (min (b-0) (n-b));have hst:=ahq (c:=c) (l:=l) (b:=b) (n:=n) (m:=m) hl hb ag ag;rw [<-hm];have hp:au ((b:Int)+(m:Int))=((b+m:Nat):Int):=cp;refine⟨⟨b+m,ag,ag⟩,dt,?_⟩;dsimp only;refine bP [0,1] ?_ ?_
   .exact bU
   ·(repeat'(first|exact trivial|exact aY (cY _) hst|refine aJ ?_ ?_|(refine dM ?_ ?_)))<;>first|rfl|fail
  .obtain rfl:b=n:=ag;have hlt:decide ((b:Int)<(b:Int))=af:=aq;refine yF ?_;conv=>whnf
   have hd:l.drop b= []:=by rw [List.drop_eq_nil_iff];omega
   rw [hd,jz];exact jy
def oo(x:UInt32)(n:Nat):UInt32:=kf x n|||mU x (32-n)
def re(x:UInt32)(a b c:Nat):UInt32:=oo x a^^^oo x b^^^oo x c
def oS(x:UInt32)(a b c:Nat):UInt32:=oo x a^^^oo x b^^^kf x c
def mW(b:List UInt8):Nat->List UInt32
 |0=>aK 64 0
 |i+1=>(mW b i).set (i/4) (mU ((mW b i).getD (i/4) 0) 8|||(b.getD i 0).toUInt32)
def dS(b:List UInt8):Nat->List UInt32
 |0=>mW b 64
 |t+1=>(dS b t).set (t+16) (oS ((dS b t).getD (t+14) 0) 17 19 10+(dS b t).getD (t+9) 0+oS ((dS b t).getD (t+1) 0) 7 18 3+(dS b t).getD t 0)
def Ho(x:List UInt32)(k w:UInt32):List UInt32:=
 let p:=x.getD 7 0+re (x.getD 4 0) 6 11 25+((x.getD 4 0&&&x.getD 5 0)^^^(~~~(x.getD 4 0)&&&x.getD 6 0))+k+w
 let q:=re (x.getD 0 0) 2 13 22+((x.getD 0 0&&&x.getD 1 0)^^^(x.getD 0 0&&&x.getD 2 0)^^^(x.getD 1 0&&&x.getD 2 0))
 [p+q,x.getD 0 0,x.getD 1 0,x.getD 2 0,x.getD 3 0+p,x.getD 4 0,x.getD 5 0,x.getD 6 0]
def mi(k:List UInt32)(h:List UInt32)(b:List UInt8):Nat->List UInt32
 |0=>h
 |t+1=>Ho (mi k h b t) (k.getD t 0) ((dS b (64-16)).getD t 0)
def kZ(h x:List UInt32):Nat->List UInt32
 |0=>h
 |i+1=>(kZ h x i).set i ((kZ h x i).getD i 0+x.getD i 0)
def nR(k:List UInt32)(h:List UInt32)(b:List UInt8):List UInt32:=kZ h (mi k h b 64) 8
def fX(k h:List UInt32)(D:List UInt8):Nat->List UInt32
 |0=>h
 |j+1=>nR k (fX k h D j) ((D.drop (64*j)).take 64)
theorem Er(b:List UInt8):∀i,(mW b i).length=64
 |0=>kz
 |i+1=>by unfold mW;rw [fJ];exact Er b i
theorem AR(b:List UInt8):∀i,(dS b i).length=64
 |0=>Er b _
 |i+1=>by unfold dS;rw [fJ];exact AR b i
theorem SX{k:List UInt32}(r:h.length=8)(b:List UInt8):∀i,(mi k h b i).length=8
 |0=>r
 |i+1=>rfl
theorem EU{h:List UInt32}(r:h.length=8)(x:List UInt32):∀i,(kZ h x i).length=8
 |0=>r
 |i+1=>by unfold kZ;rw [fJ];exact EU r x i
theorem YY(k:List UInt32)(r:h.length=8)(b:List UInt8):(nR k h b).length=8:=EU r _ _
theorem Bn(k:List UInt32){h:List UInt32}(r:h.length=8)(D:List UInt8):∀j,(fX k h D j).length=8
 |0=>r
 |j+1=>YY k (Bn k r D j) _
def d9(n:Nat):Nat:=(56+(64-1)*(n+1))%64
def jv(n:Nat):Nat->List UInt8
 |0=>aK (2*4) 0
 |i+1=>(jv n i).set (2*4-1-i) (bh (dr (aF n) 3) (8*i)).toUInt8
def vT(n:Nat):List UInt8:=jv n 8
def mP(T:List UInt8):List UInt8:=T++ [128]++aK (d9 T.length) 0++vT T.length
def jE(h:List UInt32):Nat->List UInt8
 |0=> []
 |m+1=>jE h m++ [(kf (h.getD (m/4) 0) (8*(4-1-m%4))).toUInt8]
def At(h:List UInt32):List UInt8:=jE h (8*4)
def oI(k h:List UInt32)(T:List UInt8):List UInt8:=At (fX k h (mP T) ((mP T).length/64))
def oq(x:UInt64)(n:Nat):UInt64:=bh x n|||dr x (64-n)
def rh(x:UInt64)(a b c:Nat):UInt64:=oq x a^^^oq x b^^^oq x c
def oT(x:UInt64)(a b c:Nat):UInt64:=oq x a^^^oq x b^^^bh x c
def mX(b:List UInt8):Nat->List UInt64
 |0=>aK 80 0
 |i+1=>(mX b i).set (i/8) (dr ((mX b i).getD (i/8) 0) 8|||(b.getD i 0).toUInt64)
def dT(b:List UInt8):Nat->List UInt64
 |0=>mX b 128
 |t+1=>(dT b t).set (t+16) (oT ((dT b t).getD (t+14) 0) 19 61 6+(dT b t).getD (t+9) 0+oT ((dT b t).getD (t+1) 0) 1 8 7+(dT b t).getD t 0)
def Hp(x:List UInt64)(k w:UInt64):List UInt64:=
 let p:=x.getD 7 0+rh (x.getD 4 0) 14 18 41+((x.getD 4 0&&&x.getD 5 0)^^^(~~~(x.getD 4 0)&&&x.getD 6 0))+k+w
 let q:=rh (x.getD 0 0) 28 34 39+((x.getD 0 0&&&x.getD 1 0)^^^(x.getD 0 0&&&x.getD 2 0)^^^(x.getD 1 0&&&x.getD 2 0))
 [p+q,x.getD 0 0,x.getD 1 0,x.getD 2 0,x.getD 3 0+p,x.getD 4 0,x.getD 5 0,x.getD 6 0]
def mj(k:List UInt64)(h:List UInt64)(b:List UInt8):Nat->List UInt64
 |0=>h
 |t+1=>Hp (mj k h b t) (k.getD t 0) ((dT b (80-16)).getD t 0)
def k9(h x:List UInt64):Nat->List UInt64
 |0=>h
 |i+1=>(k9 h x i).set i ((k9 h x i).getD i 0+x.getD i 0)
def nS(k:List UInt64)(h:List UInt64)(b:List UInt8):List UInt64:=k9 h (mj k h b 80) 8
def fY(k h:List UInt64)(D:List UInt8):Nat->List UInt64
 |0=>h
 |j+1=>nS k (fY k h D j) ((D.drop (128*j)).take 128)
theorem Es(b:List UInt8):∀i,(mX b i).length=80
 |0=>kz
 |i+1=>by unfold mX;rw [fJ];exact Es b i
theorem AS(b:List UInt8):∀i,(dT b i).length=80
 |0=>Es b _
 |i+1=>by unfold dT;rw [fJ];exact AS b i
theorem SY{k h:List UInt64}(r:h.length=8)(b:List UInt8):∀i,(mj k h b i).length=8
 |0=>r
 |i+1=>rfl
theorem EV{h:List UInt64}(r:h.length=8)(x:List UInt64):∀i,(k9 h x i).length=8
 |0=>r
 |i+1=>by unfold k9;rw [fJ];exact EV r x i
theorem YZ(k:List UInt64){h:List UInt64}(r:h.length=8)(b:List UInt8):(nS k h b).length=8:=EV r _ _
theorem Bo(k:List UInt64){h:List UInt64}(r:h.length=8)(D:List UInt8):∀j,(fY k h D j).length=8
 |0=>r
 |j+1=>YZ k (Bo k r D j) _
def eC(n:Nat):Nat:=(112+(128-1)*(n+1))%128
def i9(n:Nat):Nat->List UInt8
 |0=>aK (2*8) 0
 |i+1=>(i9 n i).set (2*8-1-i) (bh (dr (aF n) 3) (8*i)).toUInt8
def vU(n:Nat):List UInt8:=i9 n 8
def mQ(T:List UInt8):List UInt8:=T++ [128]++aK (eC T.length) 0++vU T.length
def jF(h:List UInt64):Nat->List UInt8
 |0=> []
 |m+1=>jF h m++ [(bh (h.getD (m/8) 0) (8*(8-1-m%8))).toUInt8]
def Au(h:List UInt64):List UInt8:=jF h (8*8)
def oJ(k h:List UInt64)(T:List UInt8):List UInt8:=Au (fY k h (mQ T) ((mQ T).length/128))
theorem afg{n:Int}(h:n=(m:Int)):iI .shr (.u32 a) (.i n)=aa (.u32 (kf a m)):=by subst h;simp [iI,rp,tZ]
theorem afd{n:Int}(h:n=(m:Int)):iI .shl (.u32 a) (.i n)=aa (.u32 (mU a m)):=by subst h;simp [iI,rp,wq]
theorem K3{a:UInt64}{n:Int}(h:n=(m:Int)):iI .shr (.u64 a) (.i n)=aa (.u64 (bh a m)):=by subst h;simp [iI,rp,tZ]
theorem afe{a:UInt64}{n:Int}(h:n=(m:Int)):iI .shl (.u64 a) (.i n)=aa (.u64 (dr a m)):=by subst h;simp [iI,rp,wq]
def kM(ih r:Nat):List SV:= [.sl ih 0 8 1 af,.sl r 0 64 1 af,.i 4,.i 2,.i 13,.i 22,.i 6,.i 11,.i 25,.i 7,.i 18,.i 3,.i 17,.i 19,.i 10]
def kN(ih r:Nat):List SV:= [.sl ih 0 8 1 ab,.sl r 0 80 1 ab,.i 8,.i 28,.i 34,.i 39,.i 14,.i 18,.i 41,.i 1,.i 8,.i 7,.i 19,.i 61,.i 6]
theorem f162(x:UInt32)(n:Nat)(hn:n<=32)(hl r:List UInt32):aM 200 [.p 0 0,.u32 x,.i (n:Int)] [an (kM 1 2),jK hl,jK r] (.u32 (oo x n)) []:=by
 have h:au (au (8*4)-(n:Int))=((32-n:Nat):Int):=cp;have e:(kf x (n:Int).toNat|||mU x (32-n))=oo x n:=by rw [mq];rfl
 refine aL (fn:=Tryz.f200) ?_;refine zM ?_;refine⟨_,afd h,?_⟩;refine zL ?_;rw [e];exact kU
theorem f155(x:UInt32)(a b c:Nat)(u:a<=32)(hb:b<=32)(hc:c<=32)(hl r:List UInt32):aM 194 [.p 0 0,.u32 x,.agg [.i (a:Int),.i (b:Int),.i (c:Int)]] [an (kM 1 2),jK hl,jK r] (.u32 (re x a b c)) []:=by unfold re;have q1:=f162 x a u hl r;have q2:=f162 x b hb hl r;have q3:=f162 x c hc hl r;refine aL (fn:=Tryz.f194) ?_;exact WH
theorem f154(x:UInt32)(a b c:Nat)(u:a<=32)(hb:b<=32)(hl r:List UInt32):aM 193 [.p 0 0,.u32 x,.agg [.i (a:Int),.i (b:Int),.i (c:Int)]] [an (kM 1 2),jK hl,jK r] (.u32 (oS x a b c)) []:=by
 unfold oS;have q1:=f162 x a u hl r;have q2:=f162 x b hb hl r;have e:kf x (c:Int).toNat=kf x c:=by rw [mq]
 refine aL (fn:=Tryz.f193) ?_;refine yA ?_;rw [e];exact kU
theorem f163(x:UInt64)(n:Nat)(hn:n<=64)(hl r:List UInt64):aM 201 [.p 0 0,.u64 x,.i (n:Int)] [an (kN 1 2),eJ hl,eJ r] (.u64 (oq x n)) []:=by
 have h:au (au (8*8)-(n:Int))=((64-n:Nat):Int):=cp;have e:(bh x (n:Int).toNat|||dr x (64-n))=oq x n:=by rw [mq];rfl
 refine aL (fn:=Tryz.f201) ?_;refine zM ?_;refine⟨_,afe h,?_⟩;refine zL ?_;rw [e];exact kU
theorem f157(x:UInt64)(a b c:Nat)(u:a<=64)(hb:b<=64)(hc:c<=64)(hl r:List UInt64):aM 196 [.p 0 0,.u64 x,.agg [.i (a:Int),.i (b:Int),.i (c:Int)]] [an (kN 1 2),eJ hl,eJ r] (.u64 (rh x a b c)) []:=by unfold rh;have q1:=f163 x a u hl r;have q2:=f163 x b hb hl r;have q3:=f163 x c hc hl r;refine aL (fn:=Tryz.f196) ?_;exact WH
theorem f156(x:UInt64)(a b c:Nat)(u:a<=64)(hb:b<=64)(hl r:List UInt64):aM 195 [.p 0 0,.u64 x,.agg [.i (a:Int),.i (b:Int),.i (c:Int)]] [an (kN 1 2),eJ hl,eJ r] (.u64 (oT x a b c)) []:=by
 unfold oT;have q1:=f163 x a u hl r;have q2:=f163 x b hb hl r;have e:bh x (c:Int).toNat=bh x c:=by rw [mq]
 refine aL (fn:=Tryz.f195) ?_;refine yA ?_;rw [e];exact kU
def fL:List UInt64:= [7640891576956012808,13503953896175478587,4354685564936845355,11912009170470909681,
 5840696475078001361,11170449401992604703,2270897969802886507,6620516959819538809]
def gQ:List UInt64:= [4794697086780616226,8158064640168781261,13096744586834688815,16840607885511220156,
 4131703408338449720,6480981068601479193,10538285296894168987,12329834152419229976,
 15566598209576043074,1334009975649890238,2608012711638119052,6128411473006802146,
 8268148722764581231,9286055187155687089,11230858885718282805,13951009754708518548,
 16472876342353939154,17275323862435702243,1135362057144423861,2597628984639134821,
 3308224258029322869,5365058923640841347,6679025012923562964,8573033837759648693,
 10970295158949994411,12119686244451234320,12683024718118986047,13788192230050041572,
 14330467153632333762,15395433587784984357,489312712824947311,1452737877330783856,
 2861767655752347644,3322285676063803686,5560940570517711597,5996557281743188959,
 7280758554555802590,8532644243296465576,9350256976987008742,10552545826968843579,
 11727347734174303076,12113106623233404929,14000437183269869457,14369950271660146224,
 15101387698204529176,15463397548674623760,17586052441742319658,1182934255886127544,
 1847814050463011016,2177327727835720531,2830643537854262169,3796741975233480872,
 4115178125766777443,5681478168544905931,6601373596472566643,7507060721942968483,
 8399075790359081724,8693463985226723168,9568029438360202098,10144078919501101548,
 10430055236837252648,11840083180663258601,13761210420658862357,14299343276471374635,
 14566680578165727644,15097957966210449927,16922976911328602910,17689382322260857208,
 500013540394364858,748580250866718886,1242879168328830382,1977374033974150939,
 2944078676154940804,3659926193048069267,4368137639120453308,4836135668995329356,
 5532061633213252278,6448918945643986474,6902733635092675308,7801388544844847127]
def up(x:UInt64):UInt32:=(bh x 32).toUInt32
def j9:List UInt32:=fL.map up
def iD:List UInt32:=(gQ.take 64).map up
def kH:List UInt64:=fL
def i7:List UInt64:=gQ
theorem Qt:j9.length=8:=rfl
theorem ac7:iD.length=64:=rfl
theorem Qu:kH.length=8:=rfl
theorem ac8:i7.length=80:=rfl
theorem f137:aQ 178 [] [] (.sl 0 0 8 1 ab) [dC 24 fL]:=by refine aL (fn:=Tryz.f178) ?_;refine zM ?_;exact gH
theorem f138:aQ 179 [] [] (.sl 0 0 80 1 ab) [dC 24 gQ]:=by refine aL (fn:=Tryz.f179) ?_;refine zM ?_;exact gH
theorem akc(L:List UInt64)(i:Nat)(h:i<L.length):(L.take (i+1)).map up=(L.take i).map up++ [up (L.getD i 0)]:=by rw [Bc h,dU,dk,dy h];rfl
theorem f136(L:List UInt64)(n:Nat)(hn:n<=L.length)(u:n<1000)(f:Bool):aM 177 [.sl 0 0 n 1 f] [eJ L] (.sl 1 0 n 1 af) [jZ 255 ((L.take n).map up)]:=by
 refine aL (fn:=Tryz.f177) ?_;refine zp ?_;refine bp.weak (cl.virt 3 255 1 rfl) ?_;refine bT n (λi=> [(3,.sl 1 0 i.1 1 af),(6,.sl 0 0 n 1 f),(7,.i n),(8,.i (i.1:Int))]) (λi=> [eJ L,jZ 255 ((L.take i.1).map up)]) 2 ?_ ?_
 .exact bL [0,1]
 .rintro⟨i,hi⟩;dsimp only;have hl:((L.take i).map up).length=i:=NR;by_cases r:i<n
  .have hlt:decide ((i:Int)<(n:Int))=ab:=aA;have hs:=akc L i ag;have hp:au ((i:Int)+1)=((i+1:Nat):Int):=cp;refine zt ?_;repeat(first|refine zH (qC (i:=i) aT ag) ?_|refine zH (bg (m:=i) az) ?_|refine zN ⟨by first|(simp [hl];omega)|fail,by first|(simp [hl];done)|fail,NS⟩ ?_|refine aS ?_)
   refine zC ?_;have hap:((L.take (i+1)).map up).map SV.u32=aB (i*1) (aG 0 (((L.take i).map up).map SV.u32))++aB (1*1) (aG 0 [SV.u32 (up (L.getD i 0))]):=by rw [hs,dU,fS,cq,bW (l:=((L.take i).map up).map SV.u32) (by rw [dm,hl];exact bH _)];rfl
   refine bP [0,3] ?_ ?_
   .exact bU
   ·(repeat'(first|exact trivial|exact aY (Ss _) hap|refine aJ ?_ ?_|fail))<;>first|rfl|exact aY bY az|fail
  .obtain rfl:i=n:=ag;have hlt:decide ((i:Int)<(i:Int))=af:=aq;refine yF ?_;conv=>whnf
   exact jy
theorem f101:aQ 145 [] [] (.p 0 0) [al (kM 1 2),jZ 255 j9,jZ 255 iD]:=by have q1:=f136 fL 8 aw aw ab;have q2:=f136 gQ 64 aw aw af;have e1:(fL.take 8).map up=j9:=rfl;have e2:(gQ.take 64).map up=iD:=rfl;rw [e1]at q1;rw [e2]at q2;refine aL (fn:=Tryz.f145) ?_;refine zp ?_;refine zW (aE [] [ab] af f137) ?_;refine zW (aE [0] [af,ab] af q1) ?_;refine zW (aE [] [ab] af f138) ?_;refine zl ?_;refine zW (aE [2] [af,ab] af q2) ?_;refine zc ?_;exact bE [4,1,3]
theorem f103:aQ 147 [] [] (.p 0 0) [al (kN 1 2),dC 24 kH,dC 24 i7]:=by refine aL (fn:=Tryz.f147) ?_;refine zp ?_;refine zW (aE [] [ab] af f137) ?_;refine zW (aE [] [ab] af f138) ?_;refine zc ?_;exact bE [2,0,1]
theorem ajL:∀i:Nat,i<64->au ((i:Int).tdiv 4)=((i/4:Nat):Int):=by decide+kernel
theorem ajM:∀i:Nat,i<128->au ((i:Int).tdiv 8)=((i/8:Nat):Int):=by decide+kernel
theorem t6(i:Nat)(h:i<1000):au ((i:Int)+1)=((i+1:Nat):Int):=by simp only [eI];omega
theorem ot(t a:Nat)(h:t<1000)(r:a<=16):au (((t+16:Nat):Int)-(a:Int))=((t+(16-a):Nat):Int):=by simp only [eI];omega
theorem Bx{α:Type}{l:List α}(h:l.length=8):∃a b c d e f g i,l= [a,b,c,d,e,f,g,i]:=by
 match l,h with
 | [a,b,c,d,e,f,g,i],_=>exact⟨a,b,c,d,e,f,g,i,rfl⟩
theorem akD(b:List UInt8):mW b 0=aK 64 0:=rfl
theorem akC(b:List UInt8)(i:Nat):mW b (i+1)=(mW b i).set (i/4) (mU ((mW b i).getD (i/4) 0) (aF (aU 8)).toNat|||(b.getD i 0).toUInt32):=rfl
theorem akp(b:List UInt8):dS b 0=mW b 64:=rfl
theorem ako(b:List UInt8)(t:Nat):dS b (t+1)=(dS b t).set (t+16) (oS ((dS b t).getD (t+14) 0) 17 19 10+(dS b t).getD (t+9) 0+oS ((dS b t).getD (t+1) 0) 7 18 3+(dS b t).getD t 0):=rfl
theorem S1(k h:List UInt32)(b:List UInt8):mi k h b 0=h:=rfl
theorem SZ(k h:List UInt32)(b:List UInt8)(t:Nat):mi k h b (t+1)=Ho (mi k h b t) (k.getD t 0) ((dS b (64-16)).getD t 0):=rfl
theorem On(h x:List UInt32):kZ h x 0=h:=rfl
theorem Om(h x:List UInt32)(i:Nat):kZ h x (i+1)=(kZ h x i).set i ((kZ h x i).getD i 0+x.getD i 0):=rfl
theorem OZ(k h:List UInt32)(b:List UInt8):nR k h b=kZ h (mi k h b 64) 8:=rfl
section
attribute [local irreducible] mW dS mi kZ nR re oS
theorem f139(h k:List UInt32)(b:List UInt8)(r:h.length=8)(hk:k.length=64)(hb:b.length=64)(fl:Bool):aQ 180 [.p 0 0,.sl 3 0 64 1 fl] [an (kM 1 2),jZ 255 h,jK k,ak b] (.tup []) [an (kM 1 2),jZ 255 (nR k h b),jK k,ak b]:=by
 rw [OZ];refine aL (fn:=Tryz.f180) ?_;refine zp ?_;repeat(first|refine zN ⟨ag,aw⟩ ?_|refine zf ?_)
 refine bT 64 (λi=> [(0,.p 0 0),(1,.sl 3 0 64 1 fl),(4,.sl 4 0 64 1 ab),(24,.i 64),(25,.i (i.1:Int))]) (λi=> [an (kM 1 2),jZ 255 h,jK k,ak b,jZ 255 (mW b i.1)]) 5 ?_ ?_
 .have hz:=akD b;exact wE
 .rintro⟨i,hi⟩;dsimp only;have hwl:=Er b i;by_cases u:i<64
  .have hd:=ajL i u;have I:i/4<64:=ag;have hlt:decide ((i:Int)<64)=ab:=aA;have hp:=t6 i ag;have hs:=akC b i;refine zt ?_;repeat(first|refine zH (bg (m:=i/4) aT) ?_|refine zH (ME (i:=i/4) aT) ?_|refine zH (wm (i:=i/4) aT ag) ?_|refine zH (cU (i:=i) aT ag) ?_|refine zH (bg (m:=i) az) ?_|refine aS ?_)
   refine xI ?_;rw [hs];exact yH
  .obtain rfl:i=64:=ag;refine zy ?_;refine fH (ι:={t:Nat//t<=64-16}) (λt=> [(0,.p 0 0),(4,.sl 4 0 64 1 ab),(6,.i ((t.1+16:Nat):Int))]) (λt=> [an (kM 1 2),jZ 255 h,jK k,ak b,jZ 255 (dS b t.1)]) (λ_=>5) (λt=>64-t.1) ⟨0,ag⟩ ?_ ?_
   .have hz:=akp b;exact wE
   .rintro⟨t,ht⟩;dsimp only;have hwl:=AR b t;by_cases O:t<64-16
    .have hlt:decide (((t+16:Nat):Int)<64)=ab:=aA;have F:au (((t+16:Nat):Int)-2)=((t+14:Nat):Int):=ot t 2 ag ag;have h9:au (((t+16:Nat):Int)-7)=((t+9:Nat):Int):=ot t 7 ag ag;have h1:au (((t+16:Nat):Int)-15)=((t+1:Nat):Int):=ot t 15 ag ag;have h0:au (((t+16:Nat):Int)-16)=((t:Nat):Int):=ot t 16 ag ag;have hp:au (((t+16:Nat):Int)+1)=((t+1+16:Nat):Int):=cp;have hs:=ako b t;obtain⟨X,hX⟩:=ax (dS b t);rw [<-hX]at hs hwl|-;have qa:=f154 (X.getD (t+14) 0) 17 19 10 ag ag h k;have qb:=f154 (X.getD (t+1) 0) 7 18 3 ag ag h k;refine zt ?_;repeat(first|refine zH (wm (i:=t+14) aT ag) ?_|refine zH (bg (m:=t+14) aT) ?_|refine aS ?_)
     refine Is ?_;repeat(first|refine zH (wm (i:=t+9) aT ag) ?_|refine zH (bg (m:=t+9) aT) ?_|refine zH (wm (i:=t+1) aT ag) ?_|refine zH (bg (m:=t+1) aT) ?_|refine aS ?_)
     refine zW (aE [0,1,2] [af,af,af] ab qb) ?_;repeat(first|refine zH (wm (i:=t) aT ag) ?_|refine zH (bg (m:=t) aT) ?_|refine zH (ME (i:=t+16) aT) ?_|refine zH (bg (m:=t+16) az) ?_|refine aS ?_)
     refine yP ?_;rw [hs];exact yH
    .obtain rfl:t=64-16:=ag;refine zy ?_;refine zl ?_;refine bT 64 (λt=> [(0,.p 0 0),(4,.sl 4 0 64 1 ab),(7,.p 5 0),(108,.sl 2 0 64 1 af),(109,.i 64),(110,.i (t.1:Int))]) (λt=> [an (kM 1 2),jZ 255 h,jK k,ak b,jZ 255 (dS b (64-16)),akT (mi k h b t.1)]) 6 ?_ ?_
     .have hz:=S1 k h b;refine yL ?_;obtain⟨h0,h1,h2,h3,h4,h5,W,Z,rfl⟩:=Bx r;exact t7
     .rintro⟨t,ht⟩;dsimp only;have hrl:=SX (k:=k) r b t;by_cases U:t<64
      .have hlt:decide ((t:Int)<64)=ab:=aA;have hs:=SZ k h b t;have hp:=t6 t ag;obtain⟨X,hX⟩:=ax (mi k h b t);obtain⟨Y,hY⟩:=ax (dS b (64-16));rw [<-hX,<-hY]at hs;rw [<-hX]at hrl;rw [<-hY]at hwl;rw [<-hX,<-hY];clear hX hY;obtain⟨V,x1,x2,x3,x4,x5,x6,x7,rfl⟩:=Bx hrl;have qa:=f155 x4 6 11 25 ag ag ag h k;have qb:=f155 V 2 13 22 ag ag ag h k;refine zt ?_;refine Xi ?_;refine Is ?_;refine Xi ?_;exact WN
      .obtain rfl:t=64:=ag;refine zy ?_;refine bT 8 (λi=> [(0,.p 0 0),(7,.p 5 0),(189,.i (i.1:Int))]) (λi=> [an (kM 1 2),jZ 255 (kZ h (mi k h b 64) i.1),jK k,ak b,ah,jK (mi k h b 64)]) 6 ?_ ?_
       .have hz:=On h (mi k h b 64);refine yL ?_;exact t7
       .rintro⟨i,hi⟩;dsimp only;have hal:=EU r (mi k h b 64) i;by_cases G:i<8
        .have hlt:decide ((i:Int)<8)=ab:=aA;have hs:=Om h (mi k h b 64) i;have hp:=t6 i ag;refine zt ?_;repeat(first|refine zH (ME (i:=i) aT) ?_|refine zH (wm (i:=i) (by first|rfl|omega|(simp;done)|fail) ag) ?_|refine zH (bg (m:=i) az) ?_|refine aS ?_)
         refine xI ?_;rw [hs];exact t7
        .obtain rfl:i=8:=ag;refine zy ?_;exact bE [0,1,2,3]
end
theorem akF(b:List UInt8):mX b 0=aK 80 0:=rfl
theorem akE(b:List UInt8)(i:Nat):mX b (i+1)=(mX b i).set (i/8) (dr ((mX b i).getD (i/8) 0) (aF (aU 8)).toNat|||(b.getD i 0).toUInt64):=rfl
theorem akx(b:List UInt8):dT b 0=mX b 128:=rfl
theorem akw(b:List UInt8)(t:Nat):dT b (t+1)=(dT b t).set (t+16) (oT ((dT b t).getD (t+14) 0) 19 61 6+(dT b t).getD (t+9) 0+oT ((dT b t).getD (t+1) 0) 1 8 7+(dT b t).getD t 0):=rfl
theorem S5(k h:List UInt64)(b:List UInt8):mj k h b 0=h:=rfl
theorem S4(k h:List UInt64)(b:List UInt8)(t:Nat):mj k h b (t+1)=Hp (mj k h b t) (k.getD t 0) ((dT b (80-16)).getD t 0):=rfl
theorem Oq(h x:List UInt64):k9 h x 0=h:=rfl
theorem Oo(h x:List UInt64)(i:Nat):k9 h x (i+1)=(k9 h x i).set i ((k9 h x i).getD i 0+x.getD i 0):=rfl
theorem O0(k h:List UInt64)(b:List UInt8):nS k h b=k9 h (mj k h b 80) 8:=rfl
section
attribute [local irreducible] mX dT mj k9 nS rh oT
theorem f140(h k:List UInt64)(b:List UInt8)(r:h.length=8)(hk:k.length=80)(hb:b.length=128)(fl:Bool):aQ 181 [.p 0 0,.sl 3 0 128 1 fl] [an (kN 1 2),dC 24 h,eJ k,ak b] (.tup []) [an (kN 1 2),dC 24 (nS k h b),eJ k,ak b]:=by
 rw [O0];refine aL (fn:=Tryz.f181) ?_;refine zp ?_;repeat(first|refine zN ⟨ag,aw⟩ ?_|refine zf ?_)
 refine bT 128 (λi=> [(0,.p 0 0),(1,.sl 3 0 128 1 fl),(4,.sl 4 0 80 1 ab),(24,.i 128),(25,.i (i.1:Int))]) (λi=> [an (kN 1 2),dC 24 h,eJ k,ak b,dC 24 (mX b i.1)]) 5 ?_ ?_
 .have hz:=akF b;exact wE
 .rintro⟨i,hi⟩;dsimp only;have hwl:=Es b i;by_cases u:i<128
  .have hd:=ajM i u;have I:i/8<80:=ag;have hlt:decide ((i:Int)<128)=ab:=aA;have hp:=t6 i ag;have hs:=akE b i;refine zt ?_;repeat(first|refine zH (bg (m:=i/8) aT) ?_|refine zH (D4 (i:=i/8) aT) ?_|refine zH (qC (i:=i/8) aT ag) ?_|refine zH (cU (i:=i) aT ag) ?_|refine zH (bg (m:=i) az) ?_|refine aS ?_)
   refine xI ?_;rw [hs];exact yH
  .obtain rfl:i=128:=ag;refine zy ?_;refine fH (ι:={t:Nat//t<=80-16}) (λt=> [(0,.p 0 0),(4,.sl 4 0 80 1 ab),(6,.i ((t.1+16:Nat):Int))]) (λt=> [an (kN 1 2),dC 24 h,eJ k,ak b,dC 24 (dT b t.1)]) (λ_=>5) (λt=>80-t.1) ⟨0,ag⟩ ?_ ?_
   .have hz:=akx b;exact wE
   .rintro⟨t,ht⟩;dsimp only;have hwl:=AS b t;by_cases O:t<80-16
    .have hlt:decide (((t+16:Nat):Int)<80)=ab:=aA;have F:au (((t+16:Nat):Int)-2)=((t+14:Nat):Int):=ot t 2 ag ag;have h9:au (((t+16:Nat):Int)-7)=((t+9:Nat):Int):=ot t 7 ag ag;have h1:au (((t+16:Nat):Int)-15)=((t+1:Nat):Int):=ot t 15 ag ag;have h0:au (((t+16:Nat):Int)-16)=((t:Nat):Int):=ot t 16 ag ag;have hp:au (((t+16:Nat):Int)+1)=((t+1+16:Nat):Int):=cp;have hs:=akw b t;obtain⟨X,hX⟩:=ax (dT b t);rw [<-hX]at hs hwl|-;have qa:=f156 (X.getD (t+14) 0) 19 61 6 ag ag h k;have qb:=f156 (X.getD (t+1) 0) 1 8 7 ag ag h k;refine zt ?_;repeat(first|refine zH (qC (i:=t+14) aT ag) ?_|refine zH (bg (m:=t+14) aT) ?_|refine aS ?_)
     refine Is ?_;repeat(first|refine zH (qC (i:=t+9) aT ag) ?_|refine zH (bg (m:=t+9) aT) ?_|refine zH (qC (i:=t+1) aT ag) ?_|refine zH (bg (m:=t+1) aT) ?_|refine aS ?_)
     refine zW (aE [0,1,2] [af,af,af] ab qb) ?_;repeat(first|refine zH (qC (i:=t) aT ag) ?_|refine zH (bg (m:=t) aT) ?_|refine zH (D4 (i:=t+16) aT) ?_|refine zH (bg (m:=t+16) az) ?_|refine aS ?_)
     refine yP ?_;rw [hs];exact yH
    .obtain rfl:t=80-16:=ag;refine zy ?_;refine zl ?_;refine bT 80 (λt=> [(0,.p 0 0),(4,.sl 4 0 80 1 ab),(7,.p 5 0),(108,.sl 2 0 80 1 ab),(109,.i 80),(110,.i (t.1:Int))]) (λt=> [an (kN 1 2),dC 24 h,eJ k,ak b,dC 24 (dT b (80-16)),akS (mj k h b t.1)]) 6 ?_ ?_
     .have hz:=S5 k h b;refine yL ?_;obtain⟨h0,h1,h2,h3,h4,h5,W,Z,rfl⟩:=Bx r;exact t7
     .rintro⟨t,ht⟩;dsimp only;have hrl:=SY (k:=k) r b t;by_cases U:t<80
      .have hlt:decide ((t:Int)<80)=ab:=aA;have hs:=S4 k h b t;have hp:=t6 t ag;obtain⟨X,hX⟩:=ax (mj k h b t);obtain⟨Y,hY⟩:=ax (dT b (80-16));rw [<-hX,<-hY]at hs;rw [<-hX]at hrl;rw [<-hY]at hwl;rw [<-hX,<-hY];clear hX hY;obtain⟨V,x1,x2,x3,x4,x5,x6,x7,rfl⟩:=Bx hrl;have qa:=f157 x4 14 18 41 ag ag ag h k;have qb:=f157 V 28 34 39 ag ag ag h k;refine zt ?_;refine yi ?_;refine Is ?_;refine yi ?_;exact WN
      .obtain rfl:t=80:=ag;refine zy ?_;refine bT 8 (λi=> [(0,.p 0 0),(7,.p 5 0),(189,.i (i.1:Int))]) (λi=> [an (kN 1 2),dC 24 (k9 h (mj k h b 80) i.1),eJ k,ak b,ah,eJ (mj k h b 80)]) 6 ?_ ?_
       .have hz:=Oq h (mj k h b 80);refine yL ?_;exact t7
       .rintro⟨i,hi⟩;dsimp only;have hal:=EV r (mj k h b 80) i;by_cases G:i<8
        .have hlt:decide ((i:Int)<8)=ab:=aA;have hs:=Oo h (mj k h b 80) i;have hp:=t6 i ag;refine zt ?_;repeat(first|refine zH (D4 (i:=i) aT) ?_|refine zH (qC (i:=i) (by first|rfl|omega|(simp;done)|fail) ag) ?_|refine zH (bg (m:=i) az) ?_|refine aS ?_)
         refine xI ?_;rw [hs];exact t7
        .obtain rfl:i=8:=ag;refine zy ?_;exact bE [0,1,2,3]
end
theorem OE(k h:List UInt32)(D:List UInt8)(a:Nat):∀b,fX k h D (a+b)=fX k (fX k h D a) (D.drop (64*a)) b
 |0=>rfl
 |b+1=>by
  show nR k (fX k h D (a+b)) ((D.drop (64*(a+b))).take 64)=nR k (fX k (fX k h D a) (D.drop (64*a)) b) (((D.drop (64*a)).drop (64*b)).take 64)
  rw [OE k h D a b,ng,Nat.mul_add]
theorem OG(k h:List UInt32)(D X:List UInt8):∀j,64*j<=D.length->fX k h (D++X) j=fX k h D j
 |0,_=>rfl
 |j+1,hj=>by
  show nR k (fX k h (D++X) j) (((D++X).drop (64*j)).take 64)=nR k (fX k h D j) ((D.drop (64*j)).take 64)
  rw [OG k h D X j ag,wQ ag,wS aA]
def jd(T:List UInt8):List UInt8:=T.drop (64*(T.length/64))
def qE(k h:List UInt32)(T:List UInt8):List UInt32:=fX k h T (T.length/64)
theorem Hl(T:List UInt8):(jd T).length=T.length%64:=by unfold jd;rw [fQ];omega
theorem ajk(k:List UInt32)(r:h.length=8)(T:List UInt8):(qE k h T).length=8:=Bn k r _ _
theorem aaW(k h:List UInt32)(T X:List UInt8)(j:Nat):fX k (qE k h T) (jd T++X) j=fX k h (T++X) (T.length/64+j):=by have h1:64*(T.length/64)<=T.length:=ag;rw [OE,OG k h T X _ h1,wQ h1];rfl
theorem Kg(k h:List UInt32)(T X:List UInt8):fX k (qE k h T) (jd T++X) ((jd T++X).length/64)=qE k h (T++X):=by rw [aaW];unfold qE;congr 1;rw [aW,aW,Hl];omega
theorem PY(T X:List UInt8):(jd T++X).drop (64*((jd T++X).length/64))=jd (T++X):=by
 have h1:64*(T.length/64)<=T.length:=ag;have e:jd T++X=(T++X).drop (64*(T.length/64)):=by rw [wQ h1];rfl
 rw [e,ng];unfold jd;congr 1;rw [fQ,aW];omega
theorem ajo(k h:List UInt32):qE k h []=h:=rfl
theorem aht:jd []= []:=rfl
theorem ag3(T:List UInt8):d9 (jd T).length=d9 T.length:=by rw [Hl];unfold d9;omega
theorem BQ(n:Nat):∀i,(jv n i).length=8
 |0=>kz
 |i+1=>by unfold jv;rw [fJ];exact BQ n i
def pA(T:List UInt8):List UInt8:=jd T++ [128]++aK (d9 T.length) 0++vT T.length
theorem adt(T:List UInt8):(pA T).length=64*((pA T).length/64):=by
 have h:(pA T).length=T.length%64+1+d9 T.length+8:=by unfold pA vT;rw [aW,aW,aW,BQ,Hl,kz];rfl
 have h2:(pA T).length%64=0:=by rw [h];unfold d9;omega
 omega
theorem adv(k h:List UInt32)(T:List UInt8):At (fX k (qE k h T) (pA T) ((pA T).length/64))=oI k h T:=by
 have e:pA T=jd T++([128]++aK (d9 T.length) 0++vT T.length):=by unfold pA;simp only [iw]
 have e2:T++([128]++aK (d9 T.length) 0++vT T.length)=mP T:=by unfold mP;simp only [iw]
 unfold oI;rw [e,Kg,e2];rfl
theorem GO(h:List UInt32):∀m,(jE h m).length=m
 |0=>rfl
 |m+1=>by unfold jE;rw [aW,GO h m];rfl
theorem acA(k h:List UInt32)(T:List UInt8):(oI k h T).length=32:=GO _ _
theorem agN{r j:Nat}(h:j<d9 r):(r+1+j+8)%64≠0:=by unfold d9 at h;omega
theorem Sk(r:Nat):(r+1+d9 r+8)%64=0:=by unfold d9;omega
theorem OF(k h:List UInt64)(D:List UInt8)(a:Nat):∀b,fY k h D (a+b)=fY k (fY k h D a) (D.drop (128*a)) b
 |0=>rfl
 |b+1=>by
  show nS k (fY k h D (a+b)) ((D.drop (128*(a+b))).take 128)=nS k (fY k (fY k h D a) (D.drop (128*a)) b) (((D.drop (128*a)).drop (128*b)).take 128)
  rw [OF k h D a b,ng,Nat.mul_add]
theorem OH(k h:List UInt64)(D X:List UInt8):∀j,128*j<=D.length->fY k h (D++X) j=fY k h D j
 |0,_=>rfl
 |j+1,hj=>by
  show nS k (fY k h (D++X) j) (((D++X).drop (128*j)).take 128)=nS k (fY k h D j) ((D.drop (128*j)).take 128)
  rw [OH k h D X j ag,wQ ag,wS aA]
def je(T:List UInt8):List UInt8:=T.drop (128*(T.length/128))
def qF(k h:List UInt64)(T:List UInt8):List UInt64:=fY k h T (T.length/128)
theorem Hm(T:List UInt8):(je T).length=T.length%128:=by unfold je;rw [fQ];omega
theorem ajl(k:List UInt64){h:List UInt64}(r:h.length=8)(T:List UInt8):(qF k h T).length=8:=Bo k r _ _
theorem aaX(k h:List UInt64)(T X:List UInt8)(j:Nat):fY k (qF k h T) (je T++X) j=fY k h (T++X) (T.length/128+j):=by have h1:128*(T.length/128)<=T.length:=ag;rw [OF,OH k h T X _ h1,wQ h1];rfl
theorem Kh(k h:List UInt64)(T X:List UInt8):fY k (qF k h T) (je T++X) ((je T++X).length/128)=qF k h (T++X):=by rw [aaX];unfold qF;congr 1;rw [aW,aW,Hm];omega
theorem PZ(T X:List UInt8):(je T++X).drop (128*((je T++X).length/128))=je (T++X):=by
 have h1:128*(T.length/128)<=T.length:=ag;have e:je T++X=(T++X).drop (128*(T.length/128)):=by rw [wQ h1];rfl
 rw [e,ng];unfold je;congr 1;rw [fQ,aW];omega
theorem ajp(k h:List UInt64):qF k h []=h:=rfl
theorem ahu:je []= []:=rfl
theorem ag4(T:List UInt8):eC (je T).length=eC T.length:=by rw [Hm];unfold eC;omega
theorem BR(n:Nat):∀i,(i9 n i).length=16
 |0=>kz
 |i+1=>by unfold i9;rw [fJ];exact BR n i
def pB(T:List UInt8):List UInt8:=je T++ [128]++aK (eC T.length) 0++vU T.length
theorem adu(T:List UInt8):(pB T).length=128*((pB T).length/128):=by
 have h:(pB T).length=T.length%128+1+eC T.length+16:=by unfold pB vU;rw [aW,aW,aW,BR,Hm,kz];rfl
 have h2:(pB T).length%128=0:=by rw [h];unfold eC;omega
 omega
theorem adw(k h:List UInt64)(T:List UInt8):Au (fY k (qF k h T) (pB T) ((pB T).length/128))=oJ k h T:=by
 have e:pB T=je T++([128]++aK (eC T.length) 0++vU T.length):=by unfold pB;simp only [iw]
 have e2:T++([128]++aK (eC T.length) 0++vU T.length)=mQ T:=by unfold mQ;simp only [iw]
 unfold oJ;rw [e,Kh,e2];rfl
theorem GP(h:List UInt64):∀m,(jF h m).length=m
 |0=>rfl
 |m+1=>by unfold jF;rw [aW,GP h m];rfl
theorem acB(k h:List UInt64)(T:List UInt8):(oJ k h T).length=64:=GP _ _
theorem agO{r j:Nat}(h:j<eC r):(r+1+j+16)%128≠0:=by unfold eC at h;omega
theorem Sl(r:Nat):(r+1+eC r+16)%128=0:=by unfold eC;omega
theorem aj2(a b:Nat)(h:a+b<2^62):aF a+fO (b:Int)=aF (a+b):=by
 have:fO (b:Int)=aF b:=by unfold fO;congr 1;omega
 rw [this,<-UInt64.ofNat_add]
attribute [local irreducible] nS
theorem JX(h k:List UInt64)(D:List UInt8)(o:Nat)(r:h.length=8)(hk:k.length=80)(ho:o+128<=D.length)(fl:Bool):aQ 181 [.p 0 0,.sl 3 o 128 1 fl] [an (kN 1 2),dC 24 h,eJ k,ak D] (.tup []) [an (kN 1 2),dC 24 (nS k h ((D.drop o).take 128)),eJ k,ak D]:=
 have hl:((D.drop o).take 128).length=128:=(by rw [eZ,fQ];omega)
 (f140 h k ((D.drop o).take 128) r hk hl fl).sub 3 o (D.map .u8) (((D.drop o).take 128).map .u8) 4 rfl rfl (by rw [dm,hl,<-o0,<-iU]) (cY _) (cY _) aw ⟨.inr ⟨rfl,rfl⟩,.inl rfl,trivial⟩ rfl
  ⟨.inr (.inr rfl),.inr (.inl bI),.inr (.inl bI),.inl rfl,trivial⟩ ⟨.inr (.inr rfl),.inr (.inl bI),.inr (.inl bI),.inl rfl,trivial⟩
theorem Jp(k h:List UInt64)(D:List UInt8)(j:Nat):fY k h D (j+1)=nS k (fY k h D j) ((D.drop (128*j)).take 128):=rfl
theorem Jr(k h:List UInt64)(D:List UInt8):fY k h D 0=h:=rfl
theorem Br{E b:List UInt8}{o n:Nat}(hn:n=E.length-o)(hm:m=b.length):aB (n*1) (aG o (E.map SV.u8))++aB (m*1) (aG 0 (b.map SV.u8))=(E.drop o++b).map SV.u8:=by subst hn;subst hm;rw [fS,fS,cq,bW (l:=b.map SV.u8) A5,bW NT,dU,o0]
theorem agC(H:List UInt64):jF H (8*0)= []:=rfl
theorem agA(H:List UInt64)(i m:Nat)(hm:m<8):jF H (8*i+(m+1))=jF H (8*i+m)++ [(bh (H.getD i 0) (8*(7-m))).toUInt8]:=by
 show jF H (8*i+m)++ [(bh (H.getD ((8*i+m)/8) 0) (8*(8-1-(8*i+m)%8))).toUInt8]=_
 rw [show(8*i+m)/8=i by omega,show 8-1-(8*i+m)%8=7-m by omega]
theorem agy(H:List UInt64):Au H=jF H (8*8):=rfl
theorem adP(N:Nat):i9 N 0=aK 16 0:=rfl
theorem adN(N i:Nat):i9 N (i+1)=(i9 N i).set (15-i) (bh (dr (aF N) (aF (aU 3)).toNat) (8*i)).toUInt8:=rfl
theorem ads(T:List UInt8):je T++ [128]++aK (eC T.length) 0++i9 T.length 8=pB T:=rfl
attribute [local irreducible] fY qF je oJ eC jF Au i9 pB
end Go.Sh
namespace Go.Sh
open Go.Proofs
attribute [local irreducible] nR
theorem JW(h k:List UInt32)(D:List UInt8)(o:Nat)(r:h.length=8)(hk:k.length=64)(ho:o+64<=D.length)(fl:Bool):aQ 180 [.p 0 0,.sl 3 o 64 1 fl] [an (kM 1 2),jZ 255 h,jK k,ak D] (.tup []) [an (kM 1 2),jZ 255 (nR k h ((D.drop o).take 64)),jK k,ak D]:=
 have hl:((D.drop o).take 64).length=64:=(by rw [eZ,fQ];omega)
 (f139 h k ((D.drop o).take 64) r hk hl fl).sub 3 o (D.map .u8) (((D.drop o).take 64).map .u8) 4 rfl rfl (by rw [dm,hl,<-o0,<-iU]) (cY _) (cY _) aw ⟨.inr ⟨rfl,rfl⟩,.inl rfl,trivial⟩ rfl
  ⟨.inr (.inr rfl),.inr (.inl bI),.inr (.inl bI),.inl rfl,trivial⟩ ⟨.inr (.inr rfl),.inr (.inl bI),.inr (.inl bI),.inl rfl,trivial⟩
theorem Jo(k h:List UInt32)(D:List UInt8)(j:Nat):fX k h D (j+1)=nR k (fX k h D j) ((D.drop (64*j)).take 64):=rfl
theorem Jq(k h:List UInt32)(D:List UInt8):fX k h D 0=h:=rfl
theorem Bq{E b:List UInt8}{o n m:Nat}(hn:n=E.length-o)(hm:m=b.length):aB (n*1) (aG o (E.map SV.u8))++aB (m*1) (aG 0 (b.map SV.u8))=(E.drop o++b).map SV.u8:=by subst hn;subst hm;rw [fS,fS,cq,bW (l:=b.map SV.u8) A5,bW NT,dU,o0]
theorem agB(H:List UInt32):jE H (4*0)= []:=rfl
theorem agz(H:List UInt32)(i m:Nat)(hm:m<4):jE H (4*i+(m+1))=jE H (4*i+m)++ [(kf (H.getD i 0) (8*(3-m))).toUInt8]:=by
 show jE H (4*i+m)++ [(kf (H.getD ((4*i+m)/4) 0) (8*(4-1-(4*i+m)%4))).toUInt8]=_
 rw [show(4*i+m)/4=i by omega,show 4-1-(4*i+m)%4=3-m by omega]
theorem agx(H:List UInt32):At H=jE H (4*8):=rfl
theorem adO(N:Nat):jv N 0=aK 8 0:=rfl
theorem adM(N i:Nat):jv N (i+1)=(jv N i).set (7-i) (bh (dr (aF N) (aF (aU 3)).toNat) (8*i)).toUInt8:=rfl
theorem adr(T:List UInt8):jd T++ [128]++aK (d9 T.length) 0++jv T.length 8=pA T:=rfl
attribute [local irreducible] fX qE jd oI d9 jE At jv pA
end Go.Sh
namespace Go.Sh
open Go.Proofs
theorem ahr:aG 0 ([]:List UInt8)=jd []:=aht.symm
theorem ajm(k h:List UInt32):qE k h []=h:=ajo k h
attribute [local irreducible] nR fX qE jd oI d9 jE At jv pA kO
end Go.Sh
namespace Go.Sh
open Go.Proofs
theorem ahs:aG 0 ([]:List UInt8)=je []:=ahu.symm
theorem ajn(k h:List UInt64):qF k h []=h:=ajp k h
attribute [local irreducible] nS fY qF je oJ eC jF Au i9 pB kO
end Go.Sh
