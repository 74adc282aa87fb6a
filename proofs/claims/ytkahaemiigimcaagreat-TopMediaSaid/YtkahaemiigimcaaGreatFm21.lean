/- Merged for a claim: W52, W53. -/
import Derived.Test.YtkahaemiigimcaaGreatFm20
set_option linter.unusedSimpArgs false
set_option linter.unusedVariables false
set_option maxHeartbeats 8000000
open Option renaming some->aa,none->ah
open Bool renaming true->ab,false->af
open UInt64 renaming ofNat->aF
open And renaming intro->aJ
open Int renaming toNat->aU
open List renaming length_append->aW,mem_cons_self->kX
open Nat renaming le_of_ble_eq_true->cr
open Prod renaming fst->iW
namespace Go.Sh
open Go.Proofs
variable{E:List FE}{j:Nat}{pT:cC}
theorem abv{l:List Hd}(hn:l.length<1000000){p:Nat}{x:Hd}(hx:l[p]?=aa x)(n:Nat)(X:List UInt8)(nn dv g:UInt8)(ep:UInt64)(hp:oC l (aP ep 0 dv) p)(hk:x.kid=aP ep 0 dv){s:UInt16}(h1:1<=s.toNat)(h2:s.toNat<=5)(b:Nat)(hb:b<=16)(hpx:decide (x.kid>bh qZ ((b:Int)).toNat)=af)(r:0<x.key.length)(hl1:x.key.length<=1024)(mo:Obj)(z:Option il)(hd0:0<(br z x).d.length)(hd1:(br z x).d.length<=1024)(hc:((br z x).c+aF (aU 1)==aF (aU 0))=af)(hP:pT.2.2.length<=400)(hm:aX pT∈E){F:List UInt8}(u:F=bF (aV x.kid b (br z x).g) (br z x).c++mA s (dR s (aV x.kid b (br z x).g) (br z x).d) (bf (dP s (aV x.kid b (br z x).g) (br z x).d) (br z x).c) (bF (aV x.kid b (br z x).g) (br z x).c) pT.2.2):aQ 34 [.p 5 0,.slnil,.lit pT.1] [an (bA 1 3 (.sl 2 0 n 2 af) dv ab g ep l.length),an (aI l),an (aN X),an [.fn 28 [.p 4 0]],an [.u8 nn],al (db 0 6 s b (fV z) (fv 7 z)),aa (.ext (.lit mo)),al (cT s b 8 z),aC 5 (dG z),aa (.ext (.fam E))] (.tup [.sl 12 0 F.length 1 af,.i 0]) [an (bA 1 3 (.sl 2 0 n 2 af) dv ab g ep l.length),an (aI l),an (aN X),an [.fn 28 [.p 4 0]],an [.u8 nn],al (db 0 6 s b (br z x).p (.p 10 0)),aa (.ext (.lit mo)),ah,ah,aa (.ext (.fam E)),al (cT s b 11 (aa {br z x with c:=(br z x).c+aF (aU 1)})),ao 5 ((br z x).d.map .u8),aC 5 F]:=by
 have q:=abu hn hx (uW n) (jG X) nn dv g ep hp hk h1 h2 b hb hpx r hl1 mo z hd0 hd1 hc pT.2.2 ag af;have hl:(bF (aV x.kid b (br z x).g) (br z x).c).length+(pT.2.2.length+dH s)=F.length:=by rw [u,aW,Bp h1 h2]
 rw [hl,<-u]at q;refine bV.lend [.p 5 0,.slnil] (bs:= []) 9 13 q (.inl rfl) hm rfl aw rfl rfl ?_ ?_ (cr rfl) (λid b h hb=>?_)
 .skip
  (repeat'(first|exact trivial|refine aJ ?_ ?_))<;>first|exact .inl rfl|exact .inr (.inl rfl)|exact .inr (.inl (jG _))|exact .inr (.inl (u5 _))|exact .inr (.inl (cY _))|exact .inr (.inr rfl)|exact .inr (.inr (Gv rfl rfl rfl _ _ _ _))|exact .inr (.inr (Hv rfl _ _ _))
 .skip
  (repeat'(first|exact trivial|refine aJ ?_ ?_))<;>first|exact .inl rfl|exact .inr (.inl rfl)|exact .inr (.inl (jG _))|exact .inr (.inl (u5 _))|exact .inr (.inl (cY _))|exact .inr (.inr rfl)|fail
 .match id,h with
  |0,h=>exact .inr h
  |1,h=>exact .inr h
  |2,h=>exact .inr h
  |3,h=>exact .inr h
  |4,h=>exact .inr h
  |5,h=>cases h;cases hb
  |6,h=>cases h;cases hb
  |7,h=>cases h
  |8,h=>cases h
  |9,h=>exact .inl rfl
  |10,h=>cases h;cases hb
  |11,h=>cases h;cases hb
  |12,h=>cases h;cases hb
  |id+13,h=>simp [hg]at h
theorem Zl(hj:j=0\/j=1\/j=2)(T:St)(w:UInt8)(hw:(w.toNat:Int)%3=j)(n0 bt:Int)(h9:aX pT∈E)(hP:pT.2.2.length<=400)(hin:ji T.x T.y T.z j=ab){p:Nat}{r:Hd}(ho:CM T T.A p r)(hc:((br T.A.z r).c+aF (aU 1)==aF (aU 0))=af)(I:uz Tryz.prog 69 T.sl)(hno:¬pI (aV r.kid T.b (br T.A.z r).g) (br T.A.z r).c∈T.sl.map iW)(h8:T.fr.length<=1000):fc Tryz.prog 12 [.p 0 0,.agg [.u8 1,.u8 w,.i n0,.i bt,.lit pT.1]] (eG (cF j) (cE j) T [aa (.ext (.fam E))]) λret H=>ret= .b ab/\∃pF:cC,pF.2.2=bF (aV r.kid T.b (br T.A.z r).g) (br T.A.z r).c++mA T.s (dR T.s (aV r.kid T.b (br T.A.z r).g) (br T.A.z r).d) (bf (dP T.s (aV r.kid T.b (br T.A.z r).g) (br T.A.z r).d) (br T.A.z r).c) (bF (aV r.kid T.b (br T.A.z r).g) (br T.A.z r).c) pT.2.2/\H=og 4 35 11 12 15 16 19 20 36 37 27 28 31 32 (cF j) (cE j) {T with fr:=T.fr++ [(⟨j,pF,pT⟩:Pc)],sl:=T.sl++ [(pI (aV r.kid T.b (br T.A.z r).g) (br T.A.z r).c,T.sc)],sc:=T.sc+1,fs:=aX pF::T.fs,A:={T.A with z:=aa {br T.A.z r with c:=(br T.A.z r).c+aF (aU 1)}}} [aa (.ext (.fam E)),ao 106 (i5 (T.fr++ [(⟨j,pF,pT⟩:Pc)])),al (cT T.s T.b 37 (aa {br T.A.z r with c:=(br T.A.z r).c+aF (aU 1)})),ao 5 ((br T.A.z r).d.map .u8)]:=by
 obtain⟨s,b,x,y,z,g,ep,now,ro,fr,op,oc,sl,sc,nn,A,B,C,V,fs⟩:=T;obtain⟨dv,⟨sm,mg,W,ds,l⟩,u,R,n⟩:=A;obtain⟨e1,o2,o3,o4,o5,o6,o7,o8,o9,Z,O,U,h6⟩:=ho;dsimp only at e1 o2 o3 o4 o5 o6 o7 o8 o9 Z O U h6 hin hc I hno h8;subst e1;dsimp only;obtain⟨F,hF⟩:=ax (bF (aV r.kid b (br u r).g) (br u r).c++mA s (dR s (aV r.kid b (br u r).g) (br u r).d) (bf (dP s (aV r.kid b (br u r).g) (br u r).d) (br u r).c) (bF (aV r.kid b (br u r).g) (br u r).c) pT.2.2);have q:=abv o2 o3 ds.length ds nn dv mg W o4 o5 O U b h6 o6 o7 o8 (dX R n) u o9 Z hc hP h9 hF;have hT:fg F=aa ((bF (aV r.kid b (br u r).g) (br u r).c).length,aV r.kid b (br u r).g,(br u r).c):=by rw [hF];exact BJ _ _ _
 have h7:F.length<1000000000:=by have h1:=sC (aV r.kid b (br u r).g) (br u r).c;have h2:=Co s;rw [hF,aW,Bp O U];omega
 rw [<-hF];obtain⟨y2,ha⟩:=ax (br u r);rw [<-ha]at q hT hno|-;refine wF ?_;refine NB ?_;refine zE ?_;refine zW (mn (J:= [2,8]) dw fq bD) ?_;refine zc ?_;refine bp.weak (R0:= [(0,.p 0 0),(3,.p 35 0),(4,.b af),(5,.i (j:Int))]) (H0:=eG (cF j) (cE j) ⟨s,b,x,y,z,g,ep,now,ro,fr,op,oc,sl,sc,nn,⟨dv,⟨ab,mg,W,ds,l⟩,u,R,n⟩,B,C,V,fs⟩ [aa (.ext (.fam E)),al [.u8 1,.u8 w,.i n0,.i bt,.lit pT.1]]) (L0:=36) ?_ ?_
 .exact zD
 rcases hj with rfl|rfl|rfl
 all_goals
  refine r9 ?_;refine zW (aE [10,11,12,9,8,21,22,23,24,34] [af,af,af,af,af,af,ab,af,af,af,af,ab,ab] af q) ?_;refine zc ?_;refine bp.toFs (d:=F) 7 38 33 rfl rfl rfl ?_;intro pF G;have qt:=MH (p:=pF) (Y:= .ar V (aX pF::fs)) (.inr ⟨V,rfl⟩) (kX ..) (by rw [G];exact hT) (by rw [G];exact h7);refine zu ?_;repeat(first|refine zW (bC ((congrArg (λa=>a !=((0:Int)==0)) hin).trans rfl)) ?_|refine aS ?_)
  refine zW (aE [33] [ab] ab qt) ?_;refine zq ?_;refine zW (La 7 af (pI _ _) QQ I (KK _ _) ⟨λh=>(by cases h),λh=>absurd h hno⟩ rfl (by kernel_rfl:Tryz.prog.underlying 55=aa (.map 69 103)) rfl rfl rfl rfl bD) ?_;refine zq ?_;refine zW (RI 7 (pI _ _) rfl QQ I (KK _ _) hno rfl (by kernel_rfl:Tryz.prog.underlying 55=aa (.map 69 103)) rfl rfl rfl rfl rfl) ?_;refine zc ?_;refine zN ⟨by show 0+fr.length*3<=(i5 fr).length;rw [F7];omega,cr rfl,by show(fr.length+1)*56<=_;omega⟩ ?_;refine zl ?_;refine⟨.b ab,_,⟨rfl,pF,G,rfl⟩,?_⟩;conv=>whnf
  refine⟨[0,1,2,3,4,5,6,7,8,9,10,11,12,13,14,15,16,17,18,19,20,21,22,23,24,25,26,27,28,29,30,31,32,33,34,42,36,37],?_,rfl,rfl,?_,rfl⟩
  .exact zo
  ·(repeat'(first|exact trivial|exact qB _ _|exact qA _ _|exact uV rfl rfl rfl _ _ _ _|exact ve rfl _ _ _|exact uU rfl rfl rfl|exact aY (uN _) (acf _ _ rfl)|refine aJ ?_ ?_|(refine dM ?_ ?_)))<;>first|rfl|exact iQ rfl az kW|exact aY bY az|fail
theorem abx(n:Nat)(X:List UInt8)(nn dv g:UInt8)(ep:UInt64)(s:UInt16)(b:Nat)(mo:Obj)(z:Option il)(hm:aX pT∈E):aM 34 [.p 5 0,.slnil,.lit pT.1] [an (bA 1 3 (.sl 2 0 n 2 af) dv ab g ep 0),an [],an (aN X),an [.fn 28 [.p 4 0]],an [.u8 nn],al (db 0 6 s b (fV z) (fv 7 z)),aa (.ext (.lit mo)),al (cT s b 8 z),aC 5 (dG z),aa (.ext (.fam E))] (.tup [.slnil,.i 6]) []:=by
 have q:=abw (uW n) (jG X) nn dv g ep s b mo z pT.2.2 af;refine bV.lend [.p 5 0,.slnil] (bs:= []) 9 10 q (.inl rfl) hm rfl aw rfl rfl ?_ ?_ (cr rfl) (λid b h hb=>?_)
 .skip
  exact bU
 .skip
  exact bU
 .by_cases e:id=9
  .exact .inl e
  .exact .inr h
theorem Zm(hj:j=0\/j=1\/j=2)(T:St)(w:UInt8)(hw:(w.toNat:Int)%3=j)(U O:Int)(G:aX pT∈E)(hin:ji T.x T.y T.z j=af)(F:T.A.m.sm=ab)(hl:T.A.m.l= []):aQ 12 [.p 0 0,.agg [.u8 1,.u8 w,.i U,.i O,.lit pT.1]] (eG (cF j) (cE j) T [aa (.ext (.fam E))]) (.b ab) (eG (cF j) (cE j) T [aa (.ext (.fam E))]):=by
 obtain⟨s,b,x,y,z,g,ep,now,ro,fr,op,oc,sl,sc,nn,A,B,C,V,fs⟩:=T;obtain⟨dv,⟨sm,I,r,ds,l⟩,u,R,n⟩:=A;dsimp only at F hl hin;subst F hl;try dsimp only
 have q:=abx ds.length ds nn dv I r s b (dX R n) u G;refine wF ?_;refine yC ?_;refine bp.weak (R0:= [(0,.p 0 0),(3,.p 35 0),(4,.b af),(5,.i (j:Int))]) (H0:=eG (cF j) (cE j) ⟨s,b,x,y,z,g,ep,now,ro,fr,op,oc,sl,sc,nn,⟨dv,⟨ab,I,r,ds,[]⟩,u,R,n⟩,B,C,V,fs⟩ [aa (.ext (.fam E)),al [.u8 1,.u8 w,.i U,.i O,.lit pT.1]]) (L0:=36) ?_ ?_
 .exact zD
 rcases hj with rfl|rfl|rfl
 all_goals
  refine r9 ?_;refine oN [10,11,12,9,8,21,22,23,24,34] [an (bA 11 9 (.sl 12 0 ds.length 2 af) dv ab I r 0),an [],an (aN ds),an [.fn 28 [.p 8 0]],an [.u8 nn],al (db 10 22 s b (fV u) (fv 23 u)),aa (.ext (.lit (dX R n))),al (cT s b 24 u),aC 5 (dG u),aa (.ext (.fam E))] (.tup [.slnil,.i 6]) (q) rfl rfl ⟨⟨rfl,az⟩,bU,XW,az,?_⟩;conv=>whnf
  repeat(first|refine zW (bC ((congrArg (λa=>a !=((6:Int)==0)) hin).trans rfl)) ?_|refine aS ?_)
  exact zQ
theorem Zp(hj:j=0\/j=1\/j=2)(T:St)(w:UInt8)(hw:(w.toNat:Int)%3=j)(O I:Int){xB:SV}(hxB:iG xB=ab)(hin:ji T.x T.y T.z j=af)(F:T.A.m.sm=ab)(hl:T.A.m.l= []):aQ 12 [.p 0 0,.agg [.u8 3,.u8 w,.i O,.i I,xB]] (eG (cF j) (cE j) T [aa (.ext (.fam E))]) (.b ab) (og 4 5 11 12 15 16 19 20 35 36 27 28 31 32 (cF j) (cE j) T [aa (.ext (.fam E)),al (cT T.s T.b 36 T.A.z),aC 5 (dG T.A.z)]):=by
 obtain⟨s,b,x,y,z,g,ep,now,ro,fr,op,oc,sl,sc,nn,A,B,C,V,fs⟩:=T;obtain⟨dv,⟨sm,G,r,ds,l⟩,u,R,n⟩:=A;dsimp only at F hl hin;subst F hl;try dsimp only
 have q:=abz (uW ds.length) (jG ds) nn dv G r s b (dX R n) u;refine wF ?_;refine yC ?_;refine bp.weak (R0:= [(0,.p 0 0),(3,.p 35 0),(4,.b af),(5,.i (j:Int))]) (H0:=eG (cF j) (cE j) ⟨s,b,x,y,z,g,ep,now,ro,fr,op,oc,sl,sc,nn,⟨dv,⟨ab,G,r,ds,[]⟩,u,R,n⟩,B,C,V,fs⟩ [aa (.ext (.fam E)),al [.u8 3,.u8 w,.i O,.i I,xB]]) (L0:=36) ?_ ?_
 .exact zD
 rcases hj with rfl|rfl|rfl
 all_goals
  refine r9 ?_;refine oN [10,11,12,9,8,21,22,23,24] [an (bA 11 9 (.sl 12 0 ds.length 2 af) dv ab G r 0),an [],an (aN ds),an [.fn 28 [.p 8 0]],an [.u8 nn],al (db 10 22 s b (fV u) (fv 36 u)),aa (.ext (.lit (dX R n))),ah,ah,al (cT s b 37 u),aC 5 (dG u)] (.i 6) (q) rfl rfl ⟨⟨rfl,az⟩,bU,XW,NY,?_⟩;conv=>whnf
  repeat(first|refine zW (bC hin) ?_|refine zW (cO hin) ?_|refine zW (bl ((congrArg (λa=> !a) hin).trans rfl)) ?_|refine zW (iN ((congrArg (λa=> !a) hin).trans rfl)) ?_|refine aS ?_)
  exact Xg
end Go.Sh
