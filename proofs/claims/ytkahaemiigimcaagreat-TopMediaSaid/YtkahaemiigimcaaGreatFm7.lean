/- Merged for a claim: E4, E5. -/
import Derived.Test.YtkahaemiigimcaaGreatFm6
set_option linter.unusedSimpArgs false
set_option linter.unusedVariables false
set_option maxHeartbeats 8000000
open Option renaming some->aa,none->ah
open Bool renaming true->ab,false->af
open List renaming take->aB,drop->aG,replicate->aK,length_append->aW,take_of_length_le->bW,drop_zero->cq,length_map->dm,map_append->dU,map->fR,nil_append->jA,length_replicate->kz,drop_append_of_le_length->wQ,take_zero->wT
open And renaming intro->aJ
open Nat renaming le_of_ble_eq_true->cr
open Exists renaming intro->fW
open Int renaming tmod_eq_emod_of_nonneg->sk
namespace Go.Sh
open Go.Proofs
variable{key:List UInt8}
theorem f47(fl:Bool)(w:List UInt8)(R:Nat)(hR:w.length=16*(R+1))(hR1:1<=R)(hR2:R<=20)(b0 b1 b2 b3 b4 b5 b6 b7 b8 b9 h6 h7 h8 h9 ha x0:UInt8):aM 118 [.p 0 0,.agg ([b0,b1,b2,b3,b4,b5,b6,b7,b8,b9,h6,h7,h8,h9,ha,x0].map .u8)] [aa (pV (4*(R+1)) fl),aa (pW w)] (.agg ((iH w R [b0,b1,b2,b3,b4,b5,b6,b7,b8,b9,h6,h7,h8,h9,ha,x0] R).map .u8)) []:=by
 have hl:=tY;obtain⟨nW,hnW⟩:=ax (4*(R+1));rw [<-hnW];unfold pV pW;refine aL (fn:=Tryz.f118) ?_;refine oY ?_;refine wD ?_;repeat(first|refine zH (lR m0) ?_|refine zH (bg (m:=0) az) ?_|refine zH (oG (m:=0) rfl az) ?_|refine zH (oG (m:=4) rfl az) ?_|refine zH (lQ (i:=0) az II) ?_|refine aS ?_)
 refine xN ?_;repeat(first|refine zH (lR m0) ?_|refine zH (bg (m:=0) az) ?_|refine zH (bg (m:=1) az) ?_|refine zH (oG (m:=4) rfl az) ?_|refine zH (oG (m:=8) rfl az) ?_|refine zH (lQ (i:=4) az II) ?_|refine aS ?_)
 refine xN ?_;repeat(first|refine zH (lR m0) ?_|refine zH (bg (m:=1) az) ?_|refine zH (bg (m:=2) az) ?_|refine zH (oG (m:=8) rfl az) ?_|refine zH (oG (m:=12) rfl az) ?_|refine zH (lQ (i:=8) az II) ?_|refine aS ?_)
 refine xN ?_;repeat(first|refine zH (lR m0) ?_|refine zH (bg (m:=2) az) ?_|refine zH (bg (m:=3) az) ?_|refine zH (oG (m:=12) rfl az) ?_|refine zH (oG (m:=16) rfl az) ?_|refine zH (lQ (i:=12) az II) ?_|refine aS ?_)
 refine NA ?_;refine fH (ι:={n:Nat//1<=n/\n<=R+1}) (λn=> [(2,.p 2 0),(4,.p 4 0),(5,.p 5 0),(6,.p 6 0),(8,.p 7 0)]) (λn=> [an (cD.map .u8++ [.sl 1 0 nW 4 fl]),ak w,al [.p 0 0],al ([b0,b1,b2,b3,b4,b5,b6,b7,b8,b9,h6,h7,h8,h9,ha,x0].map .u8),al (aK 16 (.u8 0)),al (aK 16 (.u8 0)),dn (iH w R [b0,b1,b2,b3,b4,b5,b6,b7,b8,b9,h6,h7,h8,h9,ha,x0] (n.1-1)),al [.i (n.1:Int)]]) (λ_=>8) (λn=>R+1-n.1) ⟨1,ag⟩ ?_ ?_
 .exact EE
 .rintro⟨n,hn1,hn2⟩;have cx:=DU w R [b0,b1,b2,b3,b4,b5,b6,b7,b8,b9,h6,h7,h8,h9,ha,x0] rfl (n-1);obtain⟨st,hst⟩:=ax (iH w R [b0,b1,b2,b3,b4,b5,b6,b7,b8,b9,h6,h7,h8,h9,ha,x0] (n-1));rw [<-hst]at cx;obtain⟨s0,s1,s2,s3,W,Z,s6,s7,U,V,I,O,r,u,F,G,rfl⟩:=Bw cx;dsimp only;rw [<-hst];have h48:=f48 nW ag fl w;unfold pV pW at h48;refine zL ?_;refine zW (aE [0,1] [af,af] af h48) ?_;refine zc ?_;have hq:((nW/4:Nat):Int)-1=(R:Int):=ag;rw [hq]at h48;refine⟨λhc=>?_,λhc=>?_⟩
  .have hc':n<=R:=by have h2:decide ((n:Int)<=((nW/4:Nat):Int)-1)=ab:=hc;rw [hq]at h2;simp at h2;omega
   conv=>whnf
   refine zq ?_;have x7:=f87 nW fl w [s0,s1,s2,s3,W,Z,s6,s7,U,V,I,O,r,u,F,G];unfold pV pW at x7;refine zW (aE [0,1] [af,af,af,af] af x7) ?_;refine bp.weak (R0:= [(2,.p 2 0),(4,.p 4 0),(5,.p 5 0),(6,.p 6 0),(8,.p 7 0),(48,.fn 185 [.p 9 0,.p 8 0])]) (H0:= [an (cD.map .u8++ [.sl 1 0 nW 4 fl]),ak w,al [.p 0 0],al ([b0,b1,b2,b3,b4,b5,b6,b7,b8,b9,h6,h7,h8,h9,ha,x0].map .u8),al (aK 16 (.u8 0)),al (aK 16 (.u8 0)),al ([s0,s1,s2,s3,W,Z,s6,s7,U,V,I,O,r,u,F,G].map .u8),al [.i (n:Int)],al [.p 0 0],al ([s0,s1,s2,s3,W,Z,s6,s7,U,V,I,O,r,u,F,G].map .u8)]) (L0:=10) ?_ ?_
   .exact bL [0,1,2,3,4,5,6,7,9,10]
   refine SD (ps:= [49,50]) rfl rfl rfl (by kernel_rfl:Tryz.prog.funcs[185]?=aa Tryz.f185) rfl rfl rfl rfl ?_;refine mV dw fq bD ?_;have hf84:=λa b c d=>f84 a b c d nW fl w
   unfold pV pW at hf84;conv=>whnf
   have hw0:au (au (4*(n:Int))+0)=((4*n+0:Nat):Int):=H5 n 0 ag ag;have hw1:au (au (4*(n:Int))+1)=((4*n+1:Nat):Int):=H5 n 1 ag ag;have hw2:au (au (4*(n:Int))+2)=((4*n+2:Nat):Int):=H5 n 2 ag ag;have hw3:au (au (4*(n:Int))+3)=((4*n+3:Nat):Int):=H5 n 3 ag ag;by_cases hlast:n<R
   .have hlt:decide ((n:Int)<(R:Int))=ab:=aA;refine wD ?_;refine yX ?_;refine rO 10 [0,1,2,6,7] [af,af,af,af,ab,ab] (rV (ps:= [49,50]) (N:=Tryz.f118.ntmps) (R0:= [(2,.p 3 0),(6,.p 4 0),(8,.p 5 0)]) (args0:= [.i 0,.agg ((rI [s0,s1,s2,s3,W,Z,s6,s7,U,V,I,O,r,u,F,G] 0).map .u8)]) (ex:= .normal) (H0t:= [an (cD.map .u8++ [.sl 2 0 nW 4 fl]),ak w,al [.p 1 0],dn ([s0,s1,s2,s3,W,Z,s6,s7,U,V,I,O,r,u,F,G]),al [.i (n:Int)]]) (H1t:= [an (cD.map .u8++ [.sl 2 0 nW 4 fl]),ak w,al [.p 1 0],dn (eO af w n [s0,s1,s2,s3,W,Z,s6,s7,U,V,I,O,r,u,F,G] 0++ [W,Z,s6,s7,U,V,I,O,r,u,F,G]),al [.i (n:Int)]]) (.inl rfl) rfl rfl rfl ?_) rfl rfl ⟨⟨rfl,rfl⟩,zo,rfl,?_⟩
    .refine xb ?_;repeat(first|refine zH (cK rfl az) ?_|refine zH (df rfl az) ?_|refine zH (lR m0) ?_|refine zH (bg (m:=4*n+0) aT) ?_|refine zH (lQ (i:=4*(4*n+0)) aT ag) ?_|refine aS ?_)
     exact Xw
    conv=>whnf
    refine yX ?_;refine rO 10 [0,1,2,6,7] [af,af,af,af,ab,ab] (rV (ps:= [49,50]) (N:=Tryz.f118.ntmps) (R0:= [(2,.p 3 0),(6,.p 4 0),(8,.p 5 0)]) (args0:= [.i 1,.agg ((rI [s0,s1,s2,s3,W,Z,s6,s7,U,V,I,O,r,u,F,G] 1).map .u8)]) (ex:= .normal) (H0t:= [an (cD.map .u8++ [.sl 2 0 nW 4 fl]),ak w,al [.p 1 0],dn (eO af w n [s0,s1,s2,s3,W,Z,s6,s7,U,V,I,O,r,u,F,G] 0++ [W,Z,s6,s7,U,V,I,O,r,u,F,G]),al [.i (n:Int)]]) (H1t:= [an (cD.map .u8++ [.sl 2 0 nW 4 fl]),ak w,al [.p 1 0],dn (eO af w n [s0,s1,s2,s3,W,Z,s6,s7,U,V,I,O,r,u,F,G] 0++eO af w n [s0,s1,s2,s3,W,Z,s6,s7,U,V,I,O,r,u,F,G] 1++ [U,V,I,O,r,u,F,G]),al [.i (n:Int)]]) (.inl rfl) rfl rfl rfl ?_) rfl rfl ⟨⟨rfl,rfl⟩,zo,rfl,?_⟩
    .refine xb ?_;repeat(first|refine zH (cK rfl az) ?_|refine zH (df rfl az) ?_|refine zH (lR m0) ?_|refine zH (bg (m:=4*n+1) aT) ?_|refine zH (lQ (i:=4*(4*n+1)) aT ag) ?_|refine aS ?_)
     exact Xx
    conv=>whnf
    refine yX ?_;refine rO 10 [0,1,2,6,7] [af,af,af,af,ab,ab] (rV (ps:= [49,50]) (N:=Tryz.f118.ntmps) (R0:= [(2,.p 3 0),(6,.p 4 0),(8,.p 5 0)]) (args0:= [.i 2,.agg ((rI [s0,s1,s2,s3,W,Z,s6,s7,U,V,I,O,r,u,F,G] 2).map .u8)]) (ex:= .normal) (H0t:= [an (cD.map .u8++ [.sl 2 0 nW 4 fl]),ak w,al [.p 1 0],dn (eO af w n [s0,s1,s2,s3,W,Z,s6,s7,U,V,I,O,r,u,F,G] 0++eO af w n [s0,s1,s2,s3,W,Z,s6,s7,U,V,I,O,r,u,F,G] 1++ [U,V,I,O,r,u,F,G]),al [.i (n:Int)]]) (H1t:= [an (cD.map .u8++ [.sl 2 0 nW 4 fl]),ak w,al [.p 1 0],dn (eO af w n [s0,s1,s2,s3,W,Z,s6,s7,U,V,I,O,r,u,F,G] 0++eO af w n [s0,s1,s2,s3,W,Z,s6,s7,U,V,I,O,r,u,F,G] 1++eO af w n [s0,s1,s2,s3,W,Z,s6,s7,U,V,I,O,r,u,F,G] 2++ [r,u,F,G]),al [.i (n:Int)]]) (.inl rfl) rfl rfl rfl ?_) rfl rfl ⟨⟨rfl,rfl⟩,zo,rfl,?_⟩
    .refine xb ?_;repeat(first|refine zH (cK rfl az) ?_|refine zH (df rfl az) ?_|refine zH (lR m0) ?_|refine zH (bg (m:=4*n+2) aT) ?_|refine zH (lQ (i:=4*(4*n+2)) aT ag) ?_|refine aS ?_)
     exact Xy
    conv=>whnf
    refine yX ?_;refine rO 10 [0,1,2,6,7] [af,af,af,af,ab,ab] (rV (ps:= [49,50]) (N:=Tryz.f118.ntmps) (R0:= [(2,.p 3 0),(6,.p 4 0),(8,.p 5 0)]) (args0:= [.i 3,.agg ((rI [s0,s1,s2,s3,W,Z,s6,s7,U,V,I,O,r,u,F,G] 3).map .u8)]) (ex:= .normal) (H0t:= [an (cD.map .u8++ [.sl 2 0 nW 4 fl]),ak w,al [.p 1 0],dn (eO af w n [s0,s1,s2,s3,W,Z,s6,s7,U,V,I,O,r,u,F,G] 0++eO af w n [s0,s1,s2,s3,W,Z,s6,s7,U,V,I,O,r,u,F,G] 1++eO af w n [s0,s1,s2,s3,W,Z,s6,s7,U,V,I,O,r,u,F,G] 2++ [r,u,F,G]),al [.i (n:Int)]]) (H1t:= [an (cD.map .u8++ [.sl 2 0 nW 4 fl]),ak w,al [.p 1 0],dn (eO af w n [s0,s1,s2,s3,W,Z,s6,s7,U,V,I,O,r,u,F,G] 0++eO af w n [s0,s1,s2,s3,W,Z,s6,s7,U,V,I,O,r,u,F,G] 1++eO af w n [s0,s1,s2,s3,W,Z,s6,s7,U,V,I,O,r,u,F,G] 2++eO af w n [s0,s1,s2,s3,W,Z,s6,s7,U,V,I,O,r,u,F,G] 3++ []),al [.i (n:Int)]]) (.inl rfl) rfl rfl rfl ?_) rfl rfl ⟨⟨rfl,rfl⟩,zo,rfl,?_⟩
    .refine xb ?_;repeat(first|refine zH (cK rfl az) ?_|refine zH (df rfl az) ?_|refine zH (lR m0) ?_|refine zH (bg (m:=4*n+3) aT) ?_|refine zH (lQ (i:=4*(4*n+3)) aT ag) ?_|refine aS ?_)
     refine NA ?_;exact Ey
    refine zI ?_;have x5:(iH w R [b0,b1,b2,b3,b4,b5,b6,b7,b8,b9,h6,h7,h8,h9,ha,x0] (n+1-1)).map SV.u8=(eO af w n [s0,s1,s2,s3,W,Z,s6,s7,U,V,I,O,r,u,F,G] 0++eO af w n [s0,s1,s2,s3,W,Z,s6,s7,U,V,I,O,r,u,F,G] 1++eO af w n [s0,s1,s2,s3,W,Z,s6,s7,U,V,I,O,r,u,F,G] 2++eO af w n [s0,s1,s2,s3,W,Z,s6,s7,U,V,I,O,r,u,F,G] 3++ []).map SV.u8:=by
     obtain⟨m,rfl⟩:∃m,n=m+1:=⟨n-1,ag⟩;show(sO (decide (m+1=R)) w (m+1) (iH w R [b0,b1,b2,b3,b4,b5,b6,b7,b8,b9,h6,h7,h8,h9,ha,x0] m)).map SV.u8=_
     have e:iH w R [b0,b1,b2,b3,b4,b5,b6,b7,b8,b9,h6,h7,h8,h9,ha,x0] m= [s0,s1,s2,s3,W,Z,s6,s7,U,V,I,O,r,u,F,G]:=hst.symm;rw [e,show decide (m+1=R)=af from by simp;omega];simp [sO]
    have x6:=VP n ag;refine⟨⟨n+1,ag⟩,dt,?_⟩;refine bP [0,1,2,3,4,5,6,15] ?_ ?_
    .exact zo
    ·(repeat'(first|exact trivial|refine aJ ?_ ?_|(refine dM ?_ ?_)))<;>first|rfl|exact dh (by first|rfl|exact x6.symm|fail)|exact aY bY (by first|rfl|exact x5|fail)|exact ke bY az rfl|fail
   .have hlt:decide ((n:Int)<(R:Int))=af:=aA;refine wD ?_;refine yX ?_;refine rO 10 [0,1,2,6,7] [af,af,af,af,ab,ab] (rV (ps:= [49,50]) (N:=Tryz.f118.ntmps) (R0:= [(2,.p 3 0),(6,.p 4 0),(8,.p 5 0)]) (args0:= [.i 0,.agg ((rI [s0,s1,s2,s3,W,Z,s6,s7,U,V,I,O,r,u,F,G] 0).map .u8)]) (ex:= .normal) (H0t:= [an (cD.map .u8++ [.sl 2 0 nW 4 fl]),ak w,al [.p 1 0],dn ([s0,s1,s2,s3,W,Z,s6,s7,U,V,I,O,r,u,F,G]),al [.i (n:Int)]]) (H1t:= [an (cD.map .u8++ [.sl 2 0 nW 4 fl]),ak w,al [.p 1 0],dn (eO ab w n [s0,s1,s2,s3,W,Z,s6,s7,U,V,I,O,r,u,F,G] 0++ [W,Z,s6,s7,U,V,I,O,r,u,F,G]),al [.i (n:Int)]]) (.inl rfl) rfl rfl rfl ?_) rfl rfl ⟨⟨rfl,rfl⟩,zo,rfl,?_⟩
    .refine zY ?_;repeat(first|refine zH (cK rfl az) ?_|refine zH (lR m0) ?_|refine zW (bC hlt) ?_|refine zH (bg (m:=4*n+0) aT) ?_|refine zH (lQ (i:=4*(4*n+0)) aT ag) ?_|refine aS ?_)
     exact Xw
    conv=>whnf
    refine yX ?_;refine rO 10 [0,1,2,6,7] [af,af,af,af,ab,ab] (rV (ps:= [49,50]) (N:=Tryz.f118.ntmps) (R0:= [(2,.p 3 0),(6,.p 4 0),(8,.p 5 0)]) (args0:= [.i 1,.agg ((rI [s0,s1,s2,s3,W,Z,s6,s7,U,V,I,O,r,u,F,G] 1).map .u8)]) (ex:= .normal) (H0t:= [an (cD.map .u8++ [.sl 2 0 nW 4 fl]),ak w,al [.p 1 0],dn (eO ab w n [s0,s1,s2,s3,W,Z,s6,s7,U,V,I,O,r,u,F,G] 0++ [W,Z,s6,s7,U,V,I,O,r,u,F,G]),al [.i (n:Int)]]) (H1t:= [an (cD.map .u8++ [.sl 2 0 nW 4 fl]),ak w,al [.p 1 0],dn (eO ab w n [s0,s1,s2,s3,W,Z,s6,s7,U,V,I,O,r,u,F,G] 0++eO ab w n [s0,s1,s2,s3,W,Z,s6,s7,U,V,I,O,r,u,F,G] 1++ [U,V,I,O,r,u,F,G]),al [.i (n:Int)]]) (.inl rfl) rfl rfl rfl ?_) rfl rfl ⟨⟨rfl,rfl⟩,zo,rfl,?_⟩
    .refine zY ?_;repeat(first|refine zH (cK rfl az) ?_|refine zH (lR m0) ?_|refine zW (bC hlt) ?_|refine zH (bg (m:=4*n+1) aT) ?_|refine zH (lQ (i:=4*(4*n+1)) aT ag) ?_|refine aS ?_)
     exact Xx
    conv=>whnf
    refine yX ?_;refine rO 10 [0,1,2,6,7] [af,af,af,af,ab,ab] (rV (ps:= [49,50]) (N:=Tryz.f118.ntmps) (R0:= [(2,.p 3 0),(6,.p 4 0),(8,.p 5 0)]) (args0:= [.i 2,.agg ((rI [s0,s1,s2,s3,W,Z,s6,s7,U,V,I,O,r,u,F,G] 2).map .u8)]) (ex:= .normal) (H0t:= [an (cD.map .u8++ [.sl 2 0 nW 4 fl]),ak w,al [.p 1 0],dn (eO ab w n [s0,s1,s2,s3,W,Z,s6,s7,U,V,I,O,r,u,F,G] 0++eO ab w n [s0,s1,s2,s3,W,Z,s6,s7,U,V,I,O,r,u,F,G] 1++ [U,V,I,O,r,u,F,G]),al [.i (n:Int)]]) (H1t:= [an (cD.map .u8++ [.sl 2 0 nW 4 fl]),ak w,al [.p 1 0],dn (eO ab w n [s0,s1,s2,s3,W,Z,s6,s7,U,V,I,O,r,u,F,G] 0++eO ab w n [s0,s1,s2,s3,W,Z,s6,s7,U,V,I,O,r,u,F,G] 1++eO ab w n [s0,s1,s2,s3,W,Z,s6,s7,U,V,I,O,r,u,F,G] 2++ [r,u,F,G]),al [.i (n:Int)]]) (.inl rfl) rfl rfl rfl ?_) rfl rfl ⟨⟨rfl,rfl⟩,zo,rfl,?_⟩
    .refine zY ?_;repeat(first|refine zH (cK rfl az) ?_|refine zH (lR m0) ?_|refine zW (bC hlt) ?_|refine zH (bg (m:=4*n+2) aT) ?_|refine zH (lQ (i:=4*(4*n+2)) aT ag) ?_|refine aS ?_)
     exact Xy
    conv=>whnf
    refine yX ?_;refine rO 10 [0,1,2,6,7] [af,af,af,af,ab,ab] (rV (ps:= [49,50]) (N:=Tryz.f118.ntmps) (R0:= [(2,.p 3 0),(6,.p 4 0),(8,.p 5 0)]) (args0:= [.i 3,.agg ((rI [s0,s1,s2,s3,W,Z,s6,s7,U,V,I,O,r,u,F,G] 3).map .u8)]) (ex:= .normal) (H0t:= [an (cD.map .u8++ [.sl 2 0 nW 4 fl]),ak w,al [.p 1 0],dn (eO ab w n [s0,s1,s2,s3,W,Z,s6,s7,U,V,I,O,r,u,F,G] 0++eO ab w n [s0,s1,s2,s3,W,Z,s6,s7,U,V,I,O,r,u,F,G] 1++eO ab w n [s0,s1,s2,s3,W,Z,s6,s7,U,V,I,O,r,u,F,G] 2++ [r,u,F,G]),al [.i (n:Int)]]) (H1t:= [an (cD.map .u8++ [.sl 2 0 nW 4 fl]),ak w,al [.p 1 0],dn (eO ab w n [s0,s1,s2,s3,W,Z,s6,s7,U,V,I,O,r,u,F,G] 0++eO ab w n [s0,s1,s2,s3,W,Z,s6,s7,U,V,I,O,r,u,F,G] 1++eO ab w n [s0,s1,s2,s3,W,Z,s6,s7,U,V,I,O,r,u,F,G] 2++eO ab w n [s0,s1,s2,s3,W,Z,s6,s7,U,V,I,O,r,u,F,G] 3++ []),al [.i (n:Int)]]) (.inl rfl) rfl rfl rfl ?_) rfl rfl ⟨⟨rfl,rfl⟩,zo,rfl,?_⟩
    .refine zY ?_;repeat(first|refine zH (cK rfl az) ?_|refine zH (lR m0) ?_|refine zW (bC hlt) ?_|refine zH (bg (m:=4*n+3) aT) ?_|refine zH (lQ (i:=4*(4*n+3)) aT ag) ?_|refine aS ?_)
     refine NA ?_;exact Ey
    refine zI ?_;have x5:(iH w R [b0,b1,b2,b3,b4,b5,b6,b7,b8,b9,h6,h7,h8,h9,ha,x0] (n+1-1)).map SV.u8=(eO ab w n [s0,s1,s2,s3,W,Z,s6,s7,U,V,I,O,r,u,F,G] 0++eO ab w n [s0,s1,s2,s3,W,Z,s6,s7,U,V,I,O,r,u,F,G] 1++eO ab w n [s0,s1,s2,s3,W,Z,s6,s7,U,V,I,O,r,u,F,G] 2++eO ab w n [s0,s1,s2,s3,W,Z,s6,s7,U,V,I,O,r,u,F,G] 3++ []).map SV.u8:=by
     obtain⟨m,rfl⟩:∃m,n=m+1:=⟨n-1,ag⟩;show(sO (decide (m+1=R)) w (m+1) (iH w R [b0,b1,b2,b3,b4,b5,b6,b7,b8,b9,h6,h7,h8,h9,ha,x0] m)).map SV.u8=_
     have e:iH w R [b0,b1,b2,b3,b4,b5,b6,b7,b8,b9,h6,h7,h8,h9,ha,x0] m= [s0,s1,s2,s3,W,Z,s6,s7,U,V,I,O,r,u,F,G]:=hst.symm;rw [e,show decide (m+1=R)=ab from by simp;omega];simp [sO]
    have x6:=VP n ag;refine⟨⟨n+1,ag⟩,dt,?_⟩;refine bP [0,1,2,3,4,5,6,15] ?_ ?_
    .exact zo
    ·(repeat'(first|exact trivial|refine aJ ?_ ?_|(refine dM ?_ ?_)))<;>first|rfl|exact dh (by first|rfl|exact x6.symm|fail)|exact aY bY (by first|rfl|exact x5|fail)|exact ke bY az rfl|fail
  .have hc':n=R+1:=by have h2:decide ((n:Int)<=((nW/4:Nat):Int)-1)=af:=hc;rw [hq]at h2;simp at h2;omega
   subst hc';conv=>whnf
   refine yl ?_;have hres:iH w R [b0,b1,b2,b3,b4,b5,b6,b7,b8,b9,h6,h7,h8,h9,ha,x0] R= [s0,s1,s2,s3,W,Z,s6,s7,U,V,I,O,r,u,F,G]:=hst.symm;rw [hres];refine wD ?_;repeat(first|refine zH (cK rfl az) ?_|refine zH (df rfl az) ?_|refine zH (bg (m:=0) az) ?_|refine zH (oG (m:=0) rfl az) ?_|refine zH (bg (m:=1) az) ?_|refine zH (bg (m:=2) az) ?_|refine zH (bg (m:=3) az) ?_|refine zH (oG (m:=4) rfl az) ?_|refine zH (oG (m:=8) rfl az) ?_|refine zH (oG (m:=12) rfl az) ?_|refine zN ⟨cr rfl,cr rfl,cr rfl,cr rfl⟩ ?_|refine aS ?_)
   exact jy
@[simp] theorem ak1(i o n z:Nat)(f:Bool):(SV.sl i o n z f).cells= [.sl i o n z f]:=rfl
@[simp] theorem akX(i o:Nat):(SV.p i o).cells= [.p i o]:=rfl
@[simp] theorem ak2:SV.slnil.cells= [.slnil]:=rfl
def Nk:List UInt8->List UInt8->List UInt8
 | [a,b,c,d],[a2,b2,c2,d2]=> [a^^^a2,b^^^b2,c^^^c2,d^^^d2]
 |_,_=> []
def dE(w:List UInt8)(i:Nat):List UInt8:= [w.getD (4*i) 0,w.getD (4*i+1) 0,w.getD (4*i+2) 0,w.getD (4*i+3) 0]
def fE:Nat->UInt8
 |0=>1
 |k+1=>iz (fE k)
def TG:List UInt8->List UInt8
 | [a,b,c,d]=> [sb a,sb b,sb c,sb d]
 |l=>l
def S6(p:UInt8):List UInt8->List UInt8
 | [a,b,c,d]=> [sb b^^^p,sb c,sb d,sb a]
 |l=>l
def nV(key:List UInt8)(n i:Nat)(w:List UInt8):List UInt8:=
 if i<n then dE key i
 else Nk (if i%n=0 then S6 (fE ((i-1)/n)) (dE w (i-1))else if n=8/\i%n=4 then TG (dE w (i-1))else dE w (i-1)) (dE w (i-n))
def aO(key:List UInt8)(n:Nat):Nat->List UInt8
 |0=> []
 |i+1=>aO key n i++nV key n i (aO key n i)
theorem adb(key:List UInt8)(n i:Nat)(w:List UInt8):(nV key n i w).length=4:=by
 unfold nV;split
 .rfl
 .split
  .rfl
  .split<;>rfl
theorem vr(key:List UInt8)(n:Nat):∀i,(aO key n i).length=4*i
 |0=>rfl
 |i+1=>by simp only [aO,aW,adb,vr key n i];omega
def cH(key:List UInt8)(n:Nat):Nat->HL
 |0=> [ak key,al (cD.map .u8++ [.slnil])]
 |i+1=> [ak key,al (cD.map .u8++ [.sl 2 0 (i+1) 4 af]),aC 179 (aO key n (i+1))]
def cL:Nat->Nat
 |0=>2
 |_+1=>3
theorem Tk:nB (λi=>(fR (λf:Nat×Nat×Nat=>(f.fst,f.snd.snd)) [(0,128,256),(256,133,1)])[i]?) (SV.agg (aK 256 (SV.u8 0)++ [SV.slnil])).cells [(0,SV.agg (fR SV.u8 cD))]=aa (cD.map .u8++ [.slnil]):=by
 have hl:=tY;have hr:(aK 256 (SV.u8 0)).length=256:=kz;show(if(SV.agg (fR SV.u8 cD)).isTup=af/\(SV.agg (fR SV.u8 cD)).cells.length=256/\0+256<=(aK 256 (SV.u8 0)++ [SV.slnil]).length then aa (bN (aK 256 (SV.u8 0)++ [SV.slnil]) 0 (.agg (cD.map .u8)))else ah)=_
 rw [if_pos ⟨rfl,by show(fR SV.u8 cD).length=256;rw [dm,hl],by rw [aW,hr];decide⟩];show aa ((aK 256 (SV.u8 0)++ [SV.slnil]).take 0++cD.map .u8++(aK 256 (SV.u8 0)++ [SV.slnil]).drop (0+(cD.map SV.u8).length))=_
 rw [wT,jA,dm,hl,wQ (by rw [hr];decide),List.drop_of_length_le (by rw [hr];decide)];rfl
theorem VO(n:Nat)(h:n<=1000):au ((n:Int)+1)=((n+1:Nat):Int):=by simp only [eI];omega
theorem VN(n:Nat)(h:n<=1000):au (((n+1:Nat):Int)-1)=(n:Int):=by simp only [eI];omega
theorem VQ(n k:Nat)(h:n<=1000)(hk:k<=n):au ((n:Int)-(k:Int))=((n-k:Nat):Int):=by simp only [eI];omega
theorem H4(n:Nat)(h:n<=1000):au (4*(n:Int))=((4*n:Nat):Int):=by simp only [eI];omega
theorem VM(n:Nat)(h:n<=1000):au (au (4*(n:Int))+4)=((4*n+4:Nat):Int):=by simp only [eI];omega
theorem HO(n k:Nat):((n:Int)).tmod (k:Int)=((n%k:Nat):Int):=by rw [sk (by omega)];omega
theorem QM{n i:Nat}(h:¬i+1<n)(hz:(i+1)%n=0):(aO key n (i+1+1)).map SV.u8=(aO key n (i+1)).map .u8++ [.u8 (sb ((aO key n (i+1)).getD (4*i+1) 0)^^^fE ((i+1-1)/n)^^^(aO key n (i+1)).getD (4*(i+1-n)) 0),.u8 (sb ((aO key n (i+1)).getD (4*i+2) 0)^^^(aO key n (i+1)).getD (4*(i+1-n)+1) 0),.u8 (sb ((aO key n (i+1)).getD (4*i+3) 0)^^^(aO key n (i+1)).getD (4*(i+1-n)+2) 0),.u8 (sb ((aO key n (i+1)).getD (4*i) 0)^^^(aO key n (i+1)).getD (4*(i+1-n)+3) 0)]:=by
 show(aO key n (i+1)++nV key n (i+1) (aO key n (i+1))).map SV.u8=_
 unfold nV;rw [if_neg h,if_pos hz,dU];rfl
theorem ade{n i:Nat}(h:¬i+1<n)(hz:(i+1)%n≠0)(r:n=8/\(i+1)%n=4):(aO key n (i+1+1)).map SV.u8=(aO key n (i+1)).map .u8++ [.u8 (sb ((aO key n (i+1)).getD (4*i) 0)^^^(aO key n (i+1)).getD (4*(i+1-n)) 0),.u8 (sb ((aO key n (i+1)).getD (4*i+1) 0)^^^(aO key n (i+1)).getD (4*(i+1-n)+1) 0),.u8 (sb ((aO key n (i+1)).getD (4*i+2) 0)^^^(aO key n (i+1)).getD (4*(i+1-n)+2) 0),.u8 (sb ((aO key n (i+1)).getD (4*i+3) 0)^^^(aO key n (i+1)).getD (4*(i+1-n)+3) 0)]:=by
 show(aO key n (i+1)++nV key n (i+1) (aO key n (i+1))).map SV.u8=_
 unfold nV;rw [if_neg h,if_neg hz,if_pos r,dU];rfl
theorem QN{n i:Nat}(h:¬i+1<n)(hz:(i+1)%n≠0)(r:¬(n=8/\(i+1)%n=4)):(aO key n (i+1+1)).map SV.u8=(aO key n (i+1)).map .u8++ [.u8 ((aO key n (i+1)).getD (4*i) 0^^^(aO key n (i+1)).getD (4*(i+1-n)) 0),.u8 ((aO key n (i+1)).getD (4*i+1) 0^^^(aO key n (i+1)).getD (4*(i+1-n)+1) 0),.u8 ((aO key n (i+1)).getD (4*i+2) 0^^^(aO key n (i+1)).getD (4*(i+1-n)+2) 0),.u8 ((aO key n (i+1)).getD (4*i+3) 0^^^(aO key n (i+1)).getD (4*(i+1-n)+3) 0)]:=by
 show(aO key n (i+1)++nV key n (i+1) (aO key n (i+1))).map SV.u8=_
 unfold nV;rw [if_neg h,if_neg hz,if_neg r,dU];rfl
theorem AD{sel:List Nat}{w:List UInt8}{X:List SV}{k:Nat}{a b c d:UInt8}(hk:w.length=k*4)(hX:X=w.map .u8++ [.u8 a,.u8 b,.u8 c,.u8 d]):bu sel X=aa (aB (k*4) (aG 0 (w.map .u8))++ [SV.u8 a,.u8 b,.u8 c,.u8 d]):=by subst hX;rw [cq,bW aA];exact DN (cY _) rfl
theorem Nh(key:List UInt8)(n:Nat):aO key n 0= []:=rfl
theorem Cw(key:List UInt8)(n i:Nat):aO key n (i+1)=aO key n i++nV key n i (aO key n i):=rfl
attribute [irreducible] aO
theorem Z6(fl:Bool)(key:List UInt8)(hk:key.length=16):aM 49 [.sl 0 0 16 1 fl] [ak key] (.tup [.p 1 0,.i 0]) [al (cD.map .u8++ [.sl 2 0 44 4 af]),aC 179 (aO key 4 44)]:=by
 have hl:=tY;refine Wf ?_;refine fW _ (aJ Tk ?_);conv=>whnf
 refine fH (ι:={i:Nat//i<=44}) (λi=> [(0,.sl 0 0 16 1 fl),(4,.i 4),(5,.p 1 0),(6,.u8 (fE ((i.1-1)/4))),(25,.i 44),(26,.i (i.1:Int))]) (λi=>cH key 4 i.1) (λi=>cL i.1) (λi=>44-i.1) ⟨0,ag⟩ ?_ ?_
 .refine bP [0,1] ?_ ?_
  ·(repeat'(first|exact trivial|refine aJ ?_ ?_|fail))<;>first|rfl|exact nG (by first|(simp [fE];done)|fail)|fail
  .exact zo
 .rintro⟨i,hi⟩;have hwl:=vr key 4 i;rcases i with _|i
  .dsimp only [cH,cL];refine xn ?_;have u:aO key 4 (0+1)=dE key 0:=by rw [Cw,Nh];unfold nV;rw [if_pos (by decide)];rfl
   refine⟨⟨1,ag⟩,aq,?_⟩;refine bP [0,1,3] ?_ ?_
   .exact zo
   ·(repeat'(first|exact trivial|refine aJ ?_ ?_|fail))<;>first|rfl|exact aY bY az|exact ke bY az rfl|exact(by rw [u];rfl)|fail
  .dsimp only [cH,cL];conv=>whnf
   refine⟨λhc=>?_,λhc=>?_⟩
   .have I:i+1<44:=ov;have hp1:=VO (i+1) ag;have O:=VN i ag;have h4:=H4 (i+1) ag;have G:=VM (i+1) ag;by_cases hin:i+1<4
    .have hlt:decide (((i+1:Nat):Int)<4)=ab:=aA;refine yu ?_;have r:(aO key 4 (i+1+1)).map SV.u8=(aO key 4 (i+1)).map SV.u8++ [.u8 (key.getD (4*(i+1)) 0),.u8 (key.getD (4*(i+1)+1) 0),.u8 (key.getD (4*(i+1)+2) 0),.u8 (key.getD (4*(i+1)+3) 0)]:=by rw [Cw key 4 (i+1)];unfold nV;rw [if_pos hin];simp [dE]
     have hpw:fE ((i+1+1-1)/4)=fE ((i+1-1)/4):=by rw [show(i+1+1-1)/4=(i+1-1)/4 from by omega]
     have U:aB ((i+1)*4) ((aO key 4 (i+1)).map SV.u8)=(aO key 4 (i+1)).map SV.u8:=by rw [bW];simp;omega
     refine yU ?_;refine bP [0,1,4] ?_ ?_
     .exact bU
     ·(repeat'(first|exact trivial|refine aJ ?_ ?_|fail))<;>first|rfl|exact aY bY az|exact ke bY az rfl|exact AD ag r|fail
    .have hlt:decide (((i+1:Nat):Int)<4)=af:=aA;refine xQ ?_;have hf84:=λa b c d=>f84 a b c d (i+1) af (aO key 4 (i+1))
     unfold pV pW at hf84;have hs:au (((i+1:Nat):Int)-4)=((i+1-4:Nat):Int):=VQ (i+1) 4 ag ag;have htm:(((i+1:Nat):Int)).tmod 4=(((i+1)%4:Nat):Int):=HO (i+1) 4;by_cases hz:(i+1)%4=0
     .have hm:((((i+1:Nat):Int)).tmod 4==0)=ab:=by rw [htm,hz];rfl
      refine xm ?_;refine zW (cP [] (f85 (fE ((i+1-1)/4)))) ?_;refine xW ?_;have hpw:fE ((i+1+1-1)/4)=iz (fE ((i+1-1)/4)):=by rw [show(i+1+1-1)/4=(i+1-1)/4+1 from by omega];rfl
      refine yU ?_;refine bP [0,1,5] ?_ ?_
      .exact bU
      ·(repeat'(first|exact trivial|refine aJ ?_ ?_|fail))<;>first|rfl|exact aY bY az|exact ke bY az rfl|exact AD ag (QM hin hz)|fail
     .have hm:((((i+1:Nat):Int)).tmod 4==0)=af:=A6;refine eV hm ?_;have hpw:fE ((i+1+1-1)/4)=fE ((i+1-1)/4):=by rw [show(i+1+1-1)/4=(i+1-1)/4 from by omega]
      by_cases F:4=8/\(i+1)%4=4
      .skip
       exact absurd F.1 aw
      .skip
       conv=>whnf
       refine xW ?_;refine yU ?_;refine bP [0,1,5] ?_ ?_
       .exact bU
       ·(repeat'(first|exact trivial|refine aJ ?_ ?_|fail))<;>first|rfl|exact aY bY az|exact ke bY az rfl|exact AD ag (QN hin hz F)|fail
   .obtain rfl:i=44-1:=ov;conv=>whnf
    exact kU
theorem Z7(fl:Bool)(key:List UInt8)(hk:key.length=32):aM 49 [.sl 0 0 32 1 fl] [ak key] (.tup [.p 1 0,.i 0]) [al (cD.map .u8++ [.sl 2 0 60 4 af]),aC 179 (aO key 8 60)]:=by
 have hl:=tY;refine Wf ?_;refine fW _ (aJ Tk ?_);conv=>whnf
 refine fH (ι:={i:Nat//i<=60}) (λi=> [(0,.sl 0 0 32 1 fl),(4,.i 8),(5,.p 1 0),(6,.u8 (fE ((i.1-1)/8))),(25,.i 60),(26,.i (i.1:Int))]) (λi=>cH key 8 i.1) (λi=>cL i.1) (λi=>60-i.1) ⟨0,ag⟩ ?_ ?_
 .refine bP [0,1] ?_ ?_
  ·(repeat'(first|exact trivial|refine aJ ?_ ?_|fail))<;>first|rfl|exact nG (by first|(simp [fE];done)|fail)|fail
  .exact zo
 .rintro⟨i,hi⟩;have hwl:=vr key 8 i;rcases i with _|i
  .dsimp only [cH,cL];refine xn ?_;have F:aO key 8 (0+1)=dE key 0:=by rw [Cw,Nh];unfold nV;rw [if_pos (by decide)];rfl
   refine⟨⟨1,ag⟩,aq,?_⟩;refine bP [0,1,3] ?_ ?_
   .exact zo
   ·(repeat'(first|exact trivial|refine aJ ?_ ?_|fail))<;>first|rfl|exact aY bY az|exact ke bY az rfl|exact(by rw [F];rfl)|fail
  .dsimp only [cH,cL];conv=>whnf
   refine⟨λhc=>?_,λhc=>?_⟩
   .have O:i+1<60:=ov;have hp1:=VO (i+1) ag;have U:=VN i ag;have h4:=H4 (i+1) ag;have I:=VM (i+1) ag;by_cases hin:i+1<8
    .have hlt:decide (((i+1:Nat):Int)<8)=ab:=aA;refine yu ?_;have u:(aO key 8 (i+1+1)).map SV.u8=(aO key 8 (i+1)).map SV.u8++ [.u8 (key.getD (4*(i+1)) 0),.u8 (key.getD (4*(i+1)+1) 0),.u8 (key.getD (4*(i+1)+2) 0),.u8 (key.getD (4*(i+1)+3) 0)]:=by rw [Cw key 8 (i+1)];unfold nV;rw [if_pos hin];simp [dE]
     have hpw:fE ((i+1+1-1)/8)=fE ((i+1-1)/8):=by rw [show(i+1+1-1)/8=(i+1-1)/8 from by omega]
     have V:aB ((i+1)*4) ((aO key 8 (i+1)).map SV.u8)=(aO key 8 (i+1)).map SV.u8:=by rw [bW];simp;omega
     refine yU ?_;refine bP [0,1,4] ?_ ?_
     .exact bU
     ·(repeat'(first|exact trivial|refine aJ ?_ ?_|fail))<;>first|rfl|exact aY bY az|exact ke bY az rfl|exact AD ag u|fail
    .have hlt:decide (((i+1:Nat):Int)<8)=af:=aA;refine xQ ?_;have hf84:=λa b c d=>f84 a b c d (i+1) af (aO key 8 (i+1))
     unfold pV pW at hf84;have hs:au (((i+1:Nat):Int)-8)=((i+1-8:Nat):Int):=VQ (i+1) 8 ag ag;have htm:(((i+1:Nat):Int)).tmod 8=(((i+1)%8:Nat):Int):=HO (i+1) 8;by_cases hz:(i+1)%8=0
     .have hm:((((i+1:Nat):Int)).tmod 8==0)=ab:=by rw [htm,hz];rfl
      refine xm ?_;refine zW (cP [] (f85 (fE ((i+1-1)/8)))) ?_;repeat(first|refine zH (cK rfl az) ?_|refine zH (lR wH) ?_|refine zH (bg (m:=i+1-8) aT) ?_|refine zH (lQ (i:=4*(i+1-8)) aT ag) ?_|refine aS ?_)
      refine zK ?_;have hpw:fE ((i+1+1-1)/8)=iz (fE ((i+1-1)/8)):=by rw [show(i+1+1-1)/8=(i+1-1)/8+1 from by omega];rfl
      refine yU ?_;refine bP [0,1,5] ?_ ?_
      .exact bU
      ·(repeat'(first|exact trivial|refine aJ ?_ ?_|fail))<;>first|rfl|exact aY bY az|exact ke bY az rfl|exact AD ag (QM hin hz)|fail
     .have hm:((((i+1:Nat):Int)).tmod 8==0)=af:=A6;refine eV hm ?_;have hpw:fE ((i+1+1-1)/8)=fE ((i+1-1)/8):=by rw [show(i+1+1-1)/8=(i+1-1)/8 from by omega]
      by_cases G:8=8/\(i+1)%8=4
      .skip
       have r:((((i+1:Nat):Int)).tmod 8==4)=ab:=by rw [htm,G.2];rfl
       conv=>whnf
       repeat(first|refine zH (cK rfl az) ?_|refine zW (bl r) ?_|refine zf ?_)
       refine zW (aE [1,2] [af,af] ab (hf84 _ _ _ _)) ?_;repeat(first|refine zH (cK rfl az) ?_|refine zH (df rfl az) ?_|refine zH (lR wH) ?_|refine zH (bg (m:=i+1-8) aT) ?_|refine zH (lQ (i:=4*(i+1-8)) aT ag) ?_|refine aS ?_)
       refine zK ?_;refine yU ?_;refine bP [0,1,5] ?_ ?_
       .exact bU
       ·(repeat'(first|exact trivial|refine aJ ?_ ?_|fail))<;>first|rfl|exact aY bY az|exact ke bY az rfl|exact AD ag (ade hin hz G)|fail
      .skip
       have r:((((i+1:Nat):Int)).tmod 8==4)=af:=A6;conv=>whnf
       repeat(first|refine zH (cK rfl az) ?_|refine zH (lR wH) ?_|refine zW (bC r) ?_|refine zH (bg (m:=i+1-8) aT) ?_|refine zH (lQ (i:=4*(i+1-8)) aT ag) ?_|refine aS ?_)
       refine zK ?_;refine yU ?_;refine bP [0,1,5] ?_ ?_
       .exact bU
       ·(repeat'(first|exact trivial|refine aJ ?_ ?_|fail))<;>first|rfl|exact aY bY az|exact ke bY az rfl|exact AD ag (QN hin hz G)|fail
   .obtain rfl:i=60-1:=ov;conv=>whnf
    exact kU
end Go.Sh
