/- Merged for a claim: W43, W44, Y6, W48, W54, W60, W55, W56. -/
import Derived.Test.YtkahaemiigimcaaGreatFm21
set_option linter.unusedSimpArgs false
set_option linter.unusedVariables false
set_option maxHeartbeats 8000000
set_option maxRecDepth 4000
open Option renaming some->aa,none->ah
open Bool renaming true->ab,false->af
open UInt64 renaming ofNat->aF,toNat_inj->dJ,lt_iff_toNat_lt->gh,toNat_add->lY,le_iff_toNat_le->oA
open And renaming intro->aJ
open Int renaming toNat->aU
open List renaming length_append->aW,take_of_length_le->bW,length_map->dm,getElem?_eq_getElem->dy,mem_cons->gy,getElem?_drop->iS,nil_append->jA,mem_cons_of_mem->jN,mem_of_getElem?->jO,mem_cons_self->kX,mem_append->mu,mem_map->mw,take_append_drop->nJ,length_nil->oZ,mem_of_mem_take->qS
open Nat renaming le_refl->bH,le_trans->jP,zero_le->kD
open UInt8 renaming ofNat->cX
namespace Go.Sh
open Go.Proofs
variable{H0:HL}{W:List (Nat×UInt64)}{E:List FE}{l:List Hd}{args:List SV}{f j:Nat}{o:Oe}{xB:SV}{S:St}{Φ:St->Prop}{K:UInt64->List UInt8}
theorem ajX(k:Nat)(hk:k=0\/k=1\/k=2)(g:UInt8)(ep now:UInt64)(nd U:Nat)(x y z x1 u F:Bool)(hx:x1=if k=0 then !x else x)(hy:u=if k=1 then !y else y)(hz:F=if k=2 then !z else z){ds:List UInt8}(h8:ds=nu x1 u F)(r:ds∈jI){e2:UInt64}(x7:e2=ep+aF (aU 1))(h6:decide (e2<aF (aU 1))=af)(h7:decide (e2>aF (aU 1099511627776))=af)(he:CL e2)(nn:UInt8)(a b c:Mb)(ha:a.Ok e2)(hb:b.Ok e2)(hc:c.Ok e2){n1 n2 I:UInt8}(hn1:n1=nv ds 0 nn)(hn2:n2=nv ds 1 n1)(hn3:I=nv ds 2 n2){la lb lc LA LB LC:List Hd}(hla:la=Ag a.l e2 now ds 0 nn)(hlb:lb=Ag b.l e2 now ds 1 n1)(hlc:lc=Ag c.l e2 now ds 2 n2){E:List Oe}(hE:E=(([]++ka ds 0 nn)++ka ds 1 n1)++ka ds 2 n2)(ta:EP e2 0 E la)(tb:EP e2 1 E lb)(tc:EP e2 2 E lc)(hA:LA=gg e2 0 E la)(hB:LB=gg e2 1 E lb)(hC:LC=gg e2 2 E lc):aQ 33 [.p 0 0,.i (k:Int)] [al (kg 1 2 3 4 5 6 7 g ep now nd U),an [.p 10 0,.p 14 0,.p 18 0],aa (.ext .nm),ao 4 (eW x y z),aa (.ext .nm),aa (.ext .nm),aa (.ext .nm),aa (.ext .nm),al [.u8 nn],an [.fn 28 [.p 8 0]],al (a.c 11 9 12 0),ao 164 (aI a.l),ao 94 (aN a.ds),an [.fn 28 [.p 8 0]],al (b.c 15 13 16 1),ao 164 (aI b.l),ao 94 (aN b.ds),an [.fn 28 [.p 8 0]],al (c.c 19 17 20 2),ao 164 (aI c.l),ao 94 (aN c.ds)] (.tup []) [al (kg 1 2 3 21 5 6 7 5 e2 now ds.length U),an [.p 10 0,.p 14 0,.p 18 0],aa (.ext .nm),ao 4 (eW x1 u F),aa (.ext .nm),aa (.ext .nm),aa (.ext .nm),aa (.ext .nm),al [.u8 I],an [.fn 28 [.p 8 0]],al (bA 23 9 (.sl 22 0 ds.length 2 af) 0 ab 5 e2 LA.length),ah,ah,an [.fn 28 [.p 8 0]],al (bA 25 13 (.sl 24 0 ds.length 2 af) 1 ab 5 e2 LB.length),ah,ah,an [.fn 28 [.p 8 0]],al (bA 27 17 (.sl 26 0 ds.length 2 af) 2 ab 5 e2 LC.length),ah,ah,ao 94 (aN ds),ao 94 (aN ds),ao 164 (aI LA),ao 94 (aN ds),ao 164 (aI LB),ao 94 (aN ds),ao 164 (aI LC)]:=by
 refine WO ?_;have hda:=jG a.ds;have hdb:=jG b.ds;have hdc:=jG c.ds;refine bp.cut .normal [(0,.p 0 0)] [al (kg 1 2 3 4 5 6 7 g ep now nd U),an [.p 10 0,.p 14 0,.p 18 0],aa (.ext .nm),ao 4 (eW x1 u F),aa (.ext .nm),aa (.ext .nm),aa (.ext .nm),aa (.ext .nm),al [.u8 nn],an [.fn 28 [.p 8 0]],al (a.c 11 9 12 0),ao 164 (aI a.l),ao 94 (aN a.ds),an [.fn 28 [.p 8 0]],al (b.c 15 13 16 1),ao 164 (aI b.l),ao 94 (aN b.ds),an [.fn 28 [.p 8 0]],al (c.c 19 17 20 2),ao 164 (aI c.l),ao 94 (aN c.ds)] 21 ?_ ?_
 .rcases hk with rfl|rfl|rfl
  .have e1:x1= !x:=by rw [hx];rfl
   have e2:u=y:=by rw [hy];rfl
   have e3:F=z:=by rw [hz];rfl
   subst e1 e2 e3;exact z9
  .have e1:x1=x:=by rw [hx];rfl
   have e2:u= !y:=by rw [hy];rfl
   have e3:F=z:=by rw [hz];rfl
   subst e1 e2 e3;exact z9
  .have e1:x1=x:=by rw [hx];rfl
   have e2:u=y:=by rw [hy];rfl
   have e3:F= !z:=by rw [hz];rfl
   subst e1 e2 e3;exact z9
 .have hdn:=jG (nu x1 u F);have hne:nu x1 u F≠ []:=by rw [<-h8];rintro rfl;exact absurd r aw
  refine zL ?_;refine zW (dY [3] [an (eW x1 u F),ao 94 (aN (nu x1 u F))] (.sl 21 0 (nu x1 u F).length 2 af) ((abL x1 u F ab hne))) ?_;refine zc ?_;have q1:=JI a nn (.inl rfl) e2 now ha h6 h7 r;have q2:=JI b n1 (.inr (.inl rfl)) e2 now hb h6 h7 r;have q3:=JI c n2 (.inr (.inr rfl)) e2 now hc h6 h7 r;have l0:=K6 r 0 nn;have l1:=K6 r 1 n1;have l2:=K6 r 2 n2;have x6:∀o,o∈E->(o.to=0\/o.to=1\/o.to=2)/\o.fr∈ds/\o.to∈ds/\o.to≠o.fr:=by
   intro o ho;have h:∃s n,o∈ka ds s n:=by
    rw [hE]at ho;rcases mu.1 ho with h|h
    .rcases mu.1 h with h|h
     .exact⟨_,_,kV⟩
     .exact⟨_,_,h⟩
    .exact⟨_,_,h⟩
   obtain⟨s,n,h⟩:=h;obtain⟨h1,h2,h3,h4⟩:=afl h;exact⟨L7 r h3,h1▸h2,h3,h1▸h4⟩
  have hEl:E.length<=9:=by rw [hE];simp only [aW,oZ];omega
  rw [<-hn1,<-hla]at q1;rw [<-hn2,<-hlb]at q2;rw [<-hn3,<-hlc]at q3;obtain⟨G,h9⟩:=ax (ka ds 0 nn);obtain⟨O,x0⟩:=ax (ka ds 1 n1);obtain⟨Z,x5⟩:=ax (ka ds 2 n2);rw [<-h9]at q1 l0 hE;rw [<-x0]at q2 l1 hE;rw [<-x5]at q3 l2 hE;have a0:decide ((0:Int)<3)=ab:=rfl;refine bp.cut (.exit 0) [(0,.p 0 0),(4,.sl 28 0 ((([]++G)++O)++Z).length 23 af)] [al (kg 1 2 3 21 5 6 7 5 e2 now ds.length U),an [.p 10 0,.p 14 0,.p 18 0],aa (.ext .nm),ao 4 (eW x1 u F),aa (.ext .nm),aa (.ext .nm),aa (.ext .nm),aa (.ext .nm),al [.u8 I],an [.fn 28 [.p 8 0]],al (bA 23 9 (.sl 22 0 ds.length 2 af) 0 ab 5 e2 la.length),ah,ah,an [.fn 28 [.p 8 0]],al (bA 25 13 (.sl 24 0 ds.length 2 af) 1 ab 5 e2 lb.length),ah,ah,an [.fn 28 [.p 8 0]],al (bA 27 17 (.sl 26 0 ds.length 2 af) 2 ab 5 e2 lc.length),ah,ah,ao 94 (aN ds),ao 94 (aN ds),ao 164 (aI la),ao 94 (aN ds),ao 164 (aI lb),ao 94 (aN ds),ao 164 (aI lc),ao 154 (gU e2 ((([]++G)++O)++Z))] 29 ?_ ?_
  .refine fH (ι:={i:Nat//i<=3}) (λi=>match i.1 with|0=> [(0,.p 0 0),(4,.sl 22 0 ([]:List Oe).length 23 af),(45,.sl 1 0 3 1 af),(46,.i 3),(47,.i 0)]|1=> [(0,.p 0 0),(4,.sl 24 0 ([]++G).length 23 af),(45,.sl 1 0 3 1 af),(46,.i 3),(47,.i 1)]|2=> [(0,.p 0 0),(4,.sl 26 0 (([]++G)++O).length 23 af),(45,.sl 1 0 3 1 af),(46,.i 3),(47,.i 2)]|_=> [(0,.p 0 0),(4,.sl 28 0 ((([]++G)++O)++Z).length 23 af),(45,.sl 1 0 3 1 af),(46,.i 3),(47,.i 3)]) (λi=>match i.1 with|0=> [al (kg 1 2 3 21 5 6 7 5 e2 now ds.length U),an [.p 10 0,.p 14 0,.p 18 0],aa (.ext .nm),ao 4 (eW x1 u F),aa (.ext .nm),aa (.ext .nm),aa (.ext .nm),aa (.ext .nm),al [.u8 nn],an [.fn 28 [.p 8 0]],al (a.c 11 9 12 0),ao 164 (aI a.l),ao 94 (aN a.ds),an [.fn 28 [.p 8 0]],al (b.c 15 13 16 1),ao 164 (aI b.l),ao 94 (aN b.ds),an [.fn 28 [.p 8 0]],al (c.c 19 17 20 2),ao 164 (aI c.l),ao 94 (aN c.ds),ao 94 (aN ds),ao 154 (gU e2 ([]:List Oe))]|1=> [al (kg 1 2 3 21 5 6 7 5 e2 now ds.length U),an [.p 10 0,.p 14 0,.p 18 0],aa (.ext .nm),ao 4 (eW x1 u F),aa (.ext .nm),aa (.ext .nm),aa (.ext .nm),aa (.ext .nm),al [.u8 n1],an [.fn 28 [.p 8 0]],al (bA 23 9 (.sl 22 0 ds.length 2 af) 0 ab 5 e2 la.length),ah,ah,an [.fn 28 [.p 8 0]],al (b.c 15 13 16 1),ao 164 (aI b.l),ao 94 (aN b.ds),an [.fn 28 [.p 8 0]],al (c.c 19 17 20 2),ao 164 (aI c.l),ao 94 (aN c.ds),ao 94 (aN ds),ao 94 (aN ds),ao 164 (aI la),ao 154 (gU e2 ([]++G))]|2=> [al (kg 1 2 3 21 5 6 7 5 e2 now ds.length U),an [.p 10 0,.p 14 0,.p 18 0],aa (.ext .nm),ao 4 (eW x1 u F),aa (.ext .nm),aa (.ext .nm),aa (.ext .nm),aa (.ext .nm),al [.u8 n2],an [.fn 28 [.p 8 0]],al (bA 23 9 (.sl 22 0 ds.length 2 af) 0 ab 5 e2 la.length),ah,ah,an [.fn 28 [.p 8 0]],al (bA 25 13 (.sl 24 0 ds.length 2 af) 1 ab 5 e2 lb.length),ah,ah,an [.fn 28 [.p 8 0]],al (c.c 19 17 20 2),ao 164 (aI c.l),ao 94 (aN c.ds),ao 94 (aN ds),ao 94 (aN ds),ao 164 (aI la),ao 94 (aN ds),ao 164 (aI lb),ao 154 (gU e2 (([]++G)++O))]|_=> [al (kg 1 2 3 21 5 6 7 5 e2 now ds.length U),an [.p 10 0,.p 14 0,.p 18 0],aa (.ext .nm),ao 4 (eW x1 u F),aa (.ext .nm),aa (.ext .nm),aa (.ext .nm),aa (.ext .nm),al [.u8 I],an [.fn 28 [.p 8 0]],al (bA 23 9 (.sl 22 0 ds.length 2 af) 0 ab 5 e2 la.length),ah,ah,an [.fn 28 [.p 8 0]],al (bA 25 13 (.sl 24 0 ds.length 2 af) 1 ab 5 e2 lb.length),ah,ah,an [.fn 28 [.p 8 0]],al (bA 27 17 (.sl 26 0 ds.length 2 af) 2 ab 5 e2 lc.length),ah,ah,ao 94 (aN ds),ao 94 (aN ds),ao 164 (aI la),ao 94 (aN ds),ao 164 (aI lb),ao 94 (aN ds),ao 164 (aI lc),ao 154 (gU e2 ((([]++G)++O)++Z))]) (λi=>match i.1 with|0=>23|1=>25|2=>27|_=>29) (λi=>3-i.1) ⟨0,ag⟩ ?_ ?_
   .dsimp only;rw [h8,x7];refine(cl.virt 4 154 23 rfl).trans ?_;exact bL [0,1,2,3,4,5,6,7,8,9,10,11,12,13,14,15,16,17,18,19,20,21,22]
   rintro⟨i,hi⟩;have h4:i=0\/i=1\/i=2\/i=3:=ag;rcases h4 with rfl|rfl|rfl|rfl
   .dsimp only;refine zI ?_;refine zW (dY [10,11,12,9,8,21] [al (bA 24 9 (.sl 23 0 ds.length 2 af) 0 ab 5 e2 la.length),ah,an (aN a.ds),an [.fn 28 [.p 8 0]],al [.u8 n1],an (aN ds),ao 94 (aN ds),ao 164 (aI la),ao 154 (gU e2 G)] (.tup [.sl 25 0 G.length 23 af,.i 0]) q1) ?_;refine zc ?_;refine zN ⟨by show 0+_<=(gU e2 ([]:List Oe)).length;rw [tL];omega,by show _<=(gU e2 G).length;rw [tL];omega,N5⟩ ?_;refine xl ?_;refine bP [0,1,2,3,4,5,6,7,8,9,10,11,12,13,14,15,16,17,18,19,20,21,23,24,26] ?_ ?_
    ·(repeat'(first|exact trivial|refine aJ ?_ ?_|fail))<;>first|rfl|exact iQ rfl az bY|fail
    .exact bU
   .dsimp only;refine zI ?_;refine zW (dY [14,15,16,13,8,21] [al (bA 26 13 (.sl 25 0 ds.length 2 af) 1 ab 5 e2 lb.length),ah,an (aN b.ds),an [.fn 28 [.p 8 0]],al [.u8 n2],an (aN ds),ao 94 (aN ds),ao 164 (aI lb),ao 154 (gU e2 O)] (.tup [.sl 27 0 O.length 23 af,.i 0]) q2) ?_;refine zc ?_;refine zN ⟨by show 0+_<=(gU e2 ([]++G)).length;rw [tL];omega,by show _<=(gU e2 O).length;rw [tL];omega,N5⟩ ?_;refine EC ?_;refine bP [0,1,2,3,4,5,6,7,8,9,10,11,12,13,14,15,16,17,18,19,20,21,22,23,25,26,28] ?_ ?_
    ·(repeat'(first|exact trivial|refine aJ ?_ ?_|fail))<;>first|rfl|exact iQ rfl az bY|fail
    .exact bU
   .dsimp only;refine zI ?_;refine zW (dY [18,19,20,17,8,21] [al (bA 28 17 (.sl 27 0 ds.length 2 af) 2 ab 5 e2 lc.length),ah,an (aN c.ds),an [.fn 28 [.p 8 0]],al [.u8 I],an (aN ds),ao 94 (aN ds),ao 164 (aI lc),ao 154 (gU e2 Z)] (.tup [.sl 29 0 Z.length 23 af,.i 0]) q3) ?_;refine zc ?_;refine zN ⟨by show 0+_<=(gU e2 (([]++G)++O)).length;rw [tL];omega,by show _<=(gU e2 Z).length;rw [tL];omega,N5⟩ ?_;refine Iv ?_;refine bP [0,1,2,3,4,5,6,7,8,9,10,11,12,13,14,15,16,17,18,19,20,21,22,23,24,25,27,28,30] ?_ ?_
    ·(repeat'(first|exact trivial|refine aJ ?_ ?_|fail))<;>first|rfl|exact iQ rfl az (by first|(simp;omega)|fail)|fail
    .exact bU
   .dsimp only;refine zL ?_;refine⟨rfl,?_⟩;exact Xu
  .rw [<-hE];refine zu ?_;refine fH (ι:={i:Nat//i<=E.length}) (λi=> [(0,.p 0 0),(68,.sl 28 0 E.length 23 af),(69,.i (E.length:Int)),(70,.i (i.1:Int))]) (λi=> [al (kg 1 2 3 21 5 6 7 5 e2 now ds.length U),an [.p 10 0,.p 14 0,.p 18 0],aa (.ext .nm),ao 4 (eW x1 u F),aa (.ext .nm),aa (.ext .nm),aa (.ext .nm),aa (.ext .nm),al [.u8 I],an [.fn 28 [.p 8 0]],al (bA 23 9 (.sl 22 0 ds.length 2 af) 0 ab 5 e2 (gg e2 0 (E.take i.1) la).length),ah,ah,an [.fn 28 [.p 8 0]],al (bA 25 13 (.sl 24 0 ds.length 2 af) 1 ab 5 e2 (gg e2 1 (E.take i.1) lb).length),ah,ah,an [.fn 28 [.p 8 0]],al (bA 27 17 (.sl 26 0 ds.length 2 af) 2 ab 5 e2 (gg e2 2 (E.take i.1) lc).length),ah,ah,ao 94 (aN ds),ao 94 (aN ds),ao 164 (aI (gg e2 0 (E.take i.1) la)),ao 94 (aN ds),ao 164 (aI (gg e2 1 (E.take i.1) lb)),ao 94 (aN ds),ao 164 (aI (gg e2 2 (E.take i.1) lc)),ao 154 (gU e2 E)]) (λi=>29) (λi=>E.length-i.1) ⟨0,kD _⟩ ?_ ?_
   .exact Xu
   rintro⟨i,hi⟩;dsimp only;by_cases hil:i<E.length
   .have e1:decide ((i:Int)<(E.length:Int))=ab:=aA;have ew:au ((i:Int)+1)=((i+1:Nat):Int):=cp;obtain⟨⟨to,fr,key⟩,ho⟩:∃o,E[i]?=aa o:=⟨_,dy hil⟩;obtain⟨g1,g2,g3,g4⟩:=x6 _ (jO ho);dsimp only at g1 g2 g3 g4;have V:=ML (ep:=e2) (j:=0) (l:=la) ho;have sb:=ML (ep:=e2) (j:=1) (l:=lb) ho;have sc:=ML (ep:=e2) (j:=2) (l:=lc) ho;rcases g1 with rfl|rfl|rfl
    .replace V:=V.trans (if_pos (show(((0:UInt8)==0)=ab) by decide));replace sb:=sb.trans (if_neg (show ¬(((0:UInt8)==1)=ab) by decide));replace sc:=sc.trans (if_neg (show ¬(((0:UInt8)==2)=ab) by decide));obtain⟨t1,t2,t3⟩:=ta i _ ho rfl;have q:=Ks (gg e2 0 (E.take i) la) I e2 he r key g3 g2 g4 t1 t2 t3;refine Nv ?_;refine zW (dY [10,23,22,9,8] [al (bA 30 9 (.sl 22 0 ds.length 2 af) 0 ab 5 e2 (om e2 (gg e2 0 (E.take i) la) ⟨0,fr,key⟩).length),ah,an (aN ds),an [.fn 28 [.p 8 0]],an [.u8 I],ao 164 (aI (om e2 (gg e2 0 (E.take i) la) ⟨0,fr,key⟩))] (.i 0) q) ?_;refine zc ?_;refine xI ?_;rw [V,sb,sc];refine bP [0,1,2,3,4,5,6,7,8,9,10,11,12,13,14,15,16,17,18,19,20,21,22,30,24,25,26,27,28] ?_ ?_
     ·(repeat'(first|exact trivial|rfl|refine aJ ?_ ?_|fail))<;>first|exact dh ag|fail
     .exact bU
    .replace V:=V.trans (if_neg (show ¬(((1:UInt8)==0)=ab) by decide));replace sb:=sb.trans (if_pos (show(((1:UInt8)==1)=ab) by decide));replace sc:=sc.trans (if_neg (show ¬(((1:UInt8)==2)=ab) by decide));obtain⟨t1,t2,t3⟩:=tb i _ ho rfl;have q:=Ks (gg e2 1 (E.take i) lb) I e2 he r key g3 g2 g4 t1 t2 t3;refine Nv ?_;refine zW (dY [14,25,24,13,8] [al (bA 30 13 (.sl 24 0 ds.length 2 af) 1 ab 5 e2 (om e2 (gg e2 1 (E.take i) lb) ⟨1,fr,key⟩).length),ah,an (aN ds),an [.fn 28 [.p 8 0]],an [.u8 I],ao 164 (aI (om e2 (gg e2 1 (E.take i) lb) ⟨1,fr,key⟩))] (.i 0) q) ?_;refine zc ?_;refine xI ?_;rw [V,sb,sc];refine bP [0,1,2,3,4,5,6,7,8,9,10,11,12,13,14,15,16,17,18,19,20,21,22,23,24,30,26,27,28] ?_ ?_
     ·(repeat'(first|exact trivial|rfl|refine aJ ?_ ?_|fail))<;>first|exact dh ag|fail
     .exact bU
    .replace V:=V.trans (if_neg (show ¬(((2:UInt8)==0)=ab) by decide));replace sb:=sb.trans (if_neg (show ¬(((2:UInt8)==1)=ab) by decide));replace sc:=sc.trans (if_pos (show(((2:UInt8)==2)=ab) by decide));obtain⟨t1,t2,t3⟩:=tc i _ ho rfl;have q:=Ks (gg e2 2 (E.take i) lc) I e2 he r key g3 g2 g4 t1 t2 t3;refine Nv ?_;refine zW (dY [18,27,26,17,8] [al (bA 30 17 (.sl 26 0 ds.length 2 af) 2 ab 5 e2 (om e2 (gg e2 2 (E.take i) lc) ⟨2,fr,key⟩).length),ah,an (aN ds),an [.fn 28 [.p 8 0]],an [.u8 I],ao 164 (aI (om e2 (gg e2 2 (E.take i) lc) ⟨2,fr,key⟩))] (.i 0) q) ?_;refine zc ?_;refine xI ?_;rw [V,sb,sc];refine bP [0,1,2,3,4,5,6,7,8,9,10,11,12,13,14,15,16,17,18,19,20,21,22,23,24,25,26,30,28] ?_ ?_
     ·(repeat'(first|exact trivial|rfl|refine aJ ?_ ?_|fail))<;>first|exact dh ag|fail
     .exact bU
   .have e1:decide ((i:Int)<(E.length:Int))=af:=aA;have ei:E.take i=E:=bW ag;refine AX ?_;rw [ei,<-hA,<-hB,<-hC];exact bE [0,1,2,3,4,5,6,7,8,9,10,11,12,13,14,15,16,17,18,19,20,21,22,23,24,25,26,27]
abbrev D7(m me se fr op sl:Nat)(g:UInt8)(ep now:UInt64)(nf:Nat):List SV:= [.sl m 0 3 1 af,.sl me 0 3 1 af,.sl se 0 32 1 ab,.u8 g,.u8 0,.u8 0,.u8 0,.u8 0,.u8 0,.u8 0,.u8 0,.u8 0,.u8 0,.u8 0,.u8 0,.u8 0,.u8 0,.u8 0,.u8 0,.u64 ep,.slnil,.u64 now,.sl fr 0 nf 3 af,.mp op,.mp sl]
structure Mb.OkE(b:Mb)(e2:UInt64):Prop where
 n:b.l.length<999999
 lt:decide (e2<=b.ep)=af
 sm:b.sm=ab
 g:b.g=5
theorem JJ(b:Mb)(nn:UInt8){s:UInt8}(hs:s=0\/s=1\/s=2)(e2 now:UInt64)(hb:b.OkE e2)(r:decide (e2<aF (aU 1))=af)(u:decide (e2>aF (aU 1099511627776))=af):aQ 68 [.p 0 0,.agg (ln e2 .slnil),.u64 now] [al (b.c 1 3 2 s),ao 164 (aI b.l),an (aN b.ds),an [.fn 28 [.p 4 0]],al [.u8 nn],aa (.ext .nm)] (.tup [.sl 8 0 0 23 af,.i 0]) [al (bA 7 3 (.sl 6 0 0 2 af) s ab 5 e2 0),ah,an (aN b.ds),an [.fn 28 [.p 4 0]],al [.u8 nn],aa (.ext .nm),ao 94 [],ao 164 [],ao 154 []]:=by have q:=Pr b.l hb.n (M:= .sl 2 0 b.ds.length 2 af) (λsel h=>by simp only [bG,h]) (X:=aN b.ds) (jG b.ds) nn hs b.sm b.g b.ep e2 now hb.lt r u (ds:= []) (.inr ⟨rfl,hb.sm,hb.g⟩) af 0 (λh=>absurd h aq);rw [show Af b.l now e2 [] s nn 0= []from if_neg aq,show sB [] s= []from if_neg aq,show nv [] s nn=nn from if_neg aq]at q;exact q
theorem ajY(k:Nat)(hk:k=0\/k=1\/k=2)(g:UInt8)(ep now:UInt64)(O r:Nat)(x y z:Bool)(hx:af=if k=0 then !x else x)(hy:af=if k=1 then !y else y)(hz:af=if k=2 then !z else z){e2:UInt64}(I:e2=ep+aF (aU 1))(u:decide (e2<aF (aU 1))=af)(F:decide (e2>aF (aU 1099511627776))=af)(nn:UInt8)(a b c:Mb)(U:a.OkE e2)(hb:b.OkE e2)(hc:c.OkE e2):aQ 33 [.p 0 0,.i (k:Int)] [al (kg 1 2 3 4 5 6 7 g ep now O r),an [.p 10 0,.p 14 0,.p 18 0],aa (.ext .nm),ao 4 (eW x y z),aa (.ext .nm),aa (.ext .nm),aa (.ext .nm),aa (.ext .nm),al [.u8 nn],an [.fn 28 [.p 8 0]],al (a.c 11 9 12 0),ao 164 (aI a.l),ao 94 (aN a.ds),an [.fn 28 [.p 8 0]],al (b.c 15 13 16 1),ao 164 (aI b.l),ao 94 (aN b.ds),an [.fn 28 [.p 8 0]],al (c.c 19 17 20 2),ao 164 (aI c.l),ao 94 (aN c.ds)] (.tup []) [al (kg 1 2 3 21 5 6 7 5 e2 now 0 r),an [.p 10 0,.p 14 0,.p 18 0],aa (.ext .nm),ao 4 (eW af af af),aa (.ext .nm),aa (.ext .nm),aa (.ext .nm),aa (.ext .nm),al [.u8 nn],an [.fn 28 [.p 8 0]],al (bA 23 9 (.sl 22 0 0 2 af) 0 ab 5 e2 0),ah,ah,an [.fn 28 [.p 8 0]],al (bA 25 13 (.sl 24 0 0 2 af) 1 ab 5 e2 0),ah,ah,an [.fn 28 [.p 8 0]],al (bA 27 17 (.sl 26 0 0 2 af) 2 ab 5 e2 0),ah,ah,ao 94 [],ao 94 [],ao 164 [],ao 94 [],ao 164 [],ao 94 [],ao 164 []]:=by
 refine WO ?_;have V:=jG a.ds;have Z:=jG b.ds;have h6:=jG c.ds;refine bp.cut .normal [(0,.p 0 0)] [al (kg 1 2 3 4 5 6 7 g ep now O r),an [.p 10 0,.p 14 0,.p 18 0],aa (.ext .nm),ao 4 (eW af af af),aa (.ext .nm),aa (.ext .nm),aa (.ext .nm),aa (.ext .nm),al [.u8 nn],an [.fn 28 [.p 8 0]],al (a.c 11 9 12 0),ao 164 (aI a.l),ao 94 (aN a.ds),an [.fn 28 [.p 8 0]],al (b.c 15 13 16 1),ao 164 (aI b.l),ao 94 (aN b.ds),an [.fn 28 [.p 8 0]],al (c.c 19 17 20 2),ao 164 (aI c.l),ao 94 (aN c.ds)] 21 ?_ ?_
 .rcases hk with rfl|rfl|rfl
  .have f1:x=ab:=by revert hx;cases x<;>decide
   have f2:y=af:=by revert hy;cases y<;>decide
   have G:z=af:=by revert hz;cases z<;>decide
   subst f1 f2 G;exact z9
  .have f1:x=af:=by revert hx;cases x<;>decide
   have f2:y=ab:=by revert hy;cases y<;>decide
   have G:z=af:=by revert hz;cases z<;>decide
   subst f1 f2 G;exact z9
  .have f1:x=af:=by revert hx;cases x<;>decide
   have f2:y=af:=by revert hy;cases y<;>decide
   have G:z=ab:=by revert hz;cases z<;>decide
   subst f1 f2 G;exact z9
 .refine zL ?_;refine zW (dY [3] [an (eW af af af)] .slnil ((abM ab))) ?_;refine zc ?_;have q1:=JJ a nn (.inl rfl) e2 now U u F;have q2:=JJ b nn (.inr (.inl rfl)) e2 now hb u F;have q3:=JJ c nn (.inr (.inr rfl)) e2 now hc u F;refine bp.cut (.exit 0) [(0,.p 0 0),(4,.sl 27 0 0 23 af)] [al (D7 1 2 3 5 6 7 5 e2 now r),an [.p 10 0,.p 14 0,.p 18 0],aa (.ext .nm),ao 4 (eW af af af),aa (.ext .nm),aa (.ext .nm),aa (.ext .nm),aa (.ext .nm),al [.u8 nn],an [.fn 28 [.p 8 0]],al (bA 22 9 (.sl 21 0 0 2 af) 0 ab 5 e2 0),ah,ah,an [.fn 28 [.p 8 0]],al (bA 24 13 (.sl 23 0 0 2 af) 1 ab 5 e2 0),ah,ah,an [.fn 28 [.p 8 0]],al (bA 26 17 (.sl 25 0 0 2 af) 2 ab 5 e2 0),ah,ah,ao 94 [],ao 164 [],ao 94 [],ao 164 [],ao 94 [],ao 164 [],ao 154 []] 28 ?_ ?_
  .refine fH (ι:={i:Nat//i<=3}) (λi=>match i.1 with|0=> [(0,.p 0 0),(4,.sl 21 0 0 23 af),(45,.sl 1 0 3 1 af),(46,.i 3),(47,.i 0)]|1=> [(0,.p 0 0),(4,.sl 23 0 0 23 af),(45,.sl 1 0 3 1 af),(46,.i 3),(47,.i 1)]|2=> [(0,.p 0 0),(4,.sl 25 0 0 23 af),(45,.sl 1 0 3 1 af),(46,.i 3),(47,.i 2)]|_=> [(0,.p 0 0),(4,.sl 27 0 0 23 af),(45,.sl 1 0 3 1 af),(46,.i 3),(47,.i 3)]) (λi=>match i.1 with|0=> [al (D7 1 2 3 5 6 7 5 e2 now r),an [.p 10 0,.p 14 0,.p 18 0],aa (.ext .nm),ao 4 (eW af af af),aa (.ext .nm),aa (.ext .nm),aa (.ext .nm),aa (.ext .nm),al [.u8 nn],an [.fn 28 [.p 8 0]],al (a.c 11 9 12 0),ao 164 (aI a.l),ao 94 (aN a.ds),an [.fn 28 [.p 8 0]],al (b.c 15 13 16 1),ao 164 (aI b.l),ao 94 (aN b.ds),an [.fn 28 [.p 8 0]],al (c.c 19 17 20 2),ao 164 (aI c.l),ao 94 (aN c.ds),ao 154 []]|1=> [al (D7 1 2 3 5 6 7 5 e2 now r),an [.p 10 0,.p 14 0,.p 18 0],aa (.ext .nm),ao 4 (eW af af af),aa (.ext .nm),aa (.ext .nm),aa (.ext .nm),aa (.ext .nm),al [.u8 nn],an [.fn 28 [.p 8 0]],al (bA 22 9 (.sl 21 0 0 2 af) 0 ab 5 e2 0),ah,ah,an [.fn 28 [.p 8 0]],al (b.c 15 13 16 1),ao 164 (aI b.l),ao 94 (aN b.ds),an [.fn 28 [.p 8 0]],al (c.c 19 17 20 2),ao 164 (aI c.l),ao 94 (aN c.ds),ao 94 [],ao 164 [],ao 154 []]|2=> [al (D7 1 2 3 5 6 7 5 e2 now r),an [.p 10 0,.p 14 0,.p 18 0],aa (.ext .nm),ao 4 (eW af af af),aa (.ext .nm),aa (.ext .nm),aa (.ext .nm),aa (.ext .nm),al [.u8 nn],an [.fn 28 [.p 8 0]],al (bA 22 9 (.sl 21 0 0 2 af) 0 ab 5 e2 0),ah,ah,an [.fn 28 [.p 8 0]],al (bA 24 13 (.sl 23 0 0 2 af) 1 ab 5 e2 0),ah,ah,an [.fn 28 [.p 8 0]],al (c.c 19 17 20 2),ao 164 (aI c.l),ao 94 (aN c.ds),ao 94 [],ao 164 [],ao 94 [],ao 164 [],ao 154 []]|_=> [al (D7 1 2 3 5 6 7 5 e2 now r),an [.p 10 0,.p 14 0,.p 18 0],aa (.ext .nm),ao 4 (eW af af af),aa (.ext .nm),aa (.ext .nm),aa (.ext .nm),aa (.ext .nm),al [.u8 nn],an [.fn 28 [.p 8 0]],al (bA 22 9 (.sl 21 0 0 2 af) 0 ab 5 e2 0),ah,ah,an [.fn 28 [.p 8 0]],al (bA 24 13 (.sl 23 0 0 2 af) 1 ab 5 e2 0),ah,ah,an [.fn 28 [.p 8 0]],al (bA 26 17 (.sl 25 0 0 2 af) 2 ab 5 e2 0),ah,ah,ao 94 [],ao 164 [],ao 94 [],ao 164 [],ao 94 [],ao 164 [],ao 154 []]) (λi=>match i.1 with|0=>22|1=>24|2=>26|_=>28) (λi=>3-i.1) ⟨0,ag⟩ ?_ ?_
   .dsimp only;rw [I];refine(cl.virt 4 154 23 rfl).trans ?_;exact bL [0,1,2,3,4,5,6,7,8,9,10,11,12,13,14,15,16,17,18,19,20,21]
   rintro⟨i,hi⟩;have h4:i=0\/i=1\/i=2\/i=3:=ag;rcases h4 with rfl|rfl|rfl|rfl
   .dsimp only;refine zI ?_;refine zW (dY [10,11,12,9,8,4] [al (bA 23 9 (.sl 22 0 0 2 af) 0 ab 5 e2 0),ah,an (aN a.ds),an [.fn 28 [.p 8 0]],al [.u8 nn],aa (.ext .nm),ao 94 [],ao 164 [],ao 154 []] (.tup [.sl 24 0 0 23 af,.i 0]) q1) ?_;refine zl ?_;refine xl ?_;exact bL [0,1,2,3,4,5,6,7,8,9,10,11,12,13,14,15,16,17,18,19,20,22,23,25]
   .dsimp only;refine zI ?_;refine zW (dY [14,15,16,13,8,4] [al (bA 25 13 (.sl 24 0 0 2 af) 1 ab 5 e2 0),ah,an (aN b.ds),an [.fn 28 [.p 8 0]],al [.u8 nn],aa (.ext .nm),ao 94 [],ao 164 [],ao 154 []] (.tup [.sl 26 0 0 23 af,.i 0]) q2) ?_;refine zl ?_;refine EC ?_;exact bL [0,1,2,3,4,5,6,7,8,9,10,11,12,13,14,15,16,17,18,19,20,21,22,24,25,27]
   .dsimp only;refine zI ?_;refine zW (dY [18,19,20,17,8,4] [al (bA 27 17 (.sl 26 0 0 2 af) 2 ab 5 e2 0),ah,an (aN c.ds),an [.fn 28 [.p 8 0]],al [.u8 nn],aa (.ext .nm),ao 94 [],ao 164 [],ao 154 []] (.tup [.sl 28 0 0 23 af,.i 0]) q3) ?_;refine zl ?_;refine Iv ?_;exact bL [0,1,2,3,4,5,6,7,8,9,10,11,12,13,14,15,16,17,18,19,20,21,22,23,24,26,27,29]
   .dsimp only;refine zL ?_;refine⟨rfl,?_⟩;exact bL [0,1,2,3,4,5,6,7,8,9,10,11,12,13,14,15,16,17,18,19,20,21,22,23,24,25,26,27]
  .refine bp.weak (cl.virtB 0 20 94 2 rfl rfl rfl rfl rfl) ?_;refine zu ?_;refine Ew ?_;exact bE [0,1,2,3,4,5,6,7,8,9,10,11,12,13,14,15,16,17,18,19,20,28,21,22,23,24,25,26]
theorem Gx{p:Nat}{x y:Hd}:x∈i6 l p y↔x=y\/x∈l:=by
 unfold i6;conv=>rhs;rw [<-nJ p l]
 simp only [mu,gy];constructor
 .rintro(h|h|h)
  .exact .inr (.inl h)
  .exact .inl h
  .exact .inr (.inr h)
 .rintro(h|h|h)
  .exact .inr (.inl h)
  .exact .inl h
  .exact .inr (.inr h)
theorem TC{y:Hd}(hs:nr l)(hn:∀x,x∈l->x.kid≠y.kid):nr (i6 l (ny l y.kid) y):=by
 have hp:=DJ (kid:=y.kid) hs;have hlt:∀a,a∈l.take (ny l y.kid)->a.kid<y.kid:=λa r=>by
  obtain⟨i,hi⟩:=List.mem_iff_getElem?.1 r;rw [List.getElem?_take]at hi;split at hi
  .exact hp.lt i a (by assumption) hi
  .cases hi
 have hgt:∀a,a∈l.drop (ny l y.kid)->y.kid<a.kid:=λa r=>by
  obtain⟨i,hi⟩:=List.mem_iff_getElem?.1 r;rw [iS]at hi;have h1:=hp.ge _ a (Nat.le_add_right _ _) hi;have h2:=hn a (jO hi);rw [gh]at h1|-;have:a.kid.toNat≠y.kid.toNat:=λe=>h2 (dJ.1 e)
  omega
 unfold i6 nr;rw [<-nJ (ny l y.kid) l]at hs;obtain⟨h1,h2,h3⟩:=List.pairwise_append.1 hs;refine List.pairwise_append.2 ⟨h1,List.pairwise_cons.2 ⟨hgt,h2⟩,λa r b hb=>?_⟩;rcases gy.1 hb with rfl|hb
 .exact hlt a r
 .exact h3 a r b hb
abbrev Ea(e:UInt64)(o:Oe):Hd:=⟨e,o.fr,aP e 0 o.fr,o.key,0,af⟩
theorem HN{e:UInt64}(he:e.toNat<2^41){j:UInt8}:∀{E:List Oe} {l:List Hd},nr l->(∀o,o∈E->o.to=j->∀x,x∈l->x.kid≠aP e 0 o.fr)->(E.Pairwise λa b=>a.to=b.to->a.fr≠b.fr)->(∀o,o∈E->o.fr.toNat<3)->
  nr (gg e j E l)/\∀x,x∈gg e j E l↔x∈l\/∃o,o∈E/\o.to=j/\x=Ea e o
 | [],l,hs,_,_,_=>⟨hs,λx=>⟨.inl,λh=>h.elim id λ⟨o,h,_⟩=>by cases h⟩⟩
 |o::E,l,hs,hl,hp,hf=>by
  obtain⟨hp1,hp2⟩:=List.pairwise_cons.1 hp;show nr (gg e j E (if(o.to==j)=ab then om e l o else l))/\∀x,x∈gg e j E (if(o.to==j)=ab then om e l o else l)↔_
  by_cases ho:o.to=j
  .rw [if_pos A2];obtain⟨q1,q2⟩:=HN he (E:=E) (l:=om e l o) (TC (y:=Ea e o) hs (hl o (kX ..) ho)) (λr u hj x hx=>by
    rcases Gx.1 hx with rfl|hx
    .intro hk;have:=(Ao he (hf o (kX ..)) he (hf r (jN _ u)) hk).2;exact hp1 r u (ho.trans hj.symm) this
    .exact hl r (jN _ u) hj x hx) hp2 (λo ho=>hf o (jN _ ho))
   refine⟨q1,λx=>(q2 x).trans ?_⟩;unfold om;rw [Gx];constructor
   .rintro((h|h)|⟨r,h1,h2,h3⟩)
    .exact .inr ⟨o,kX ..,ho,h⟩
    .exact .inl h
    .exact .inr ⟨r,jN _ h1,h2,h3⟩
   .rintro(h|⟨r,h1,h2,h3⟩)
    .exact .inl (.inr h)
    .rcases gy.1 h1 with rfl|h1
     .exact .inl (.inl h3)
     .exact .inr ⟨r,h1,h2,h3⟩
  .rw [if_neg A2];obtain⟨q1,q2⟩:=HN he (E:=E) (l:=l) hs (λr u=>hl r (jN _ u)) hp2 (λo ho=>hf o (jN _ ho));refine⟨q1,λx=>(q2 x).trans ?_⟩;constructor
   .rintro(h|⟨r,h1,h2,h3⟩)
    .exact .inl h
    .exact .inr ⟨r,jN _ h1,h2,h3⟩
   .rintro(h|⟨r,h1,h2,h3⟩)
    .exact .inl h
    .rcases gy.1 h1 with rfl|h1
     .exact absurd h2 ho
     .exact .inr ⟨r,h1,h2,h3⟩
def St.x1(S:St)(k:Nat):Bool:=if k=0 then !S.x else S.x
def St.y1(S:St)(k:Nat):Bool:=if k=1 then !S.y else S.y
def St.z1(S:St)(k:Nat):Bool:=if k=2 then !S.z else S.z
def St.ds(S:St)(k:Nat):List UInt8:=nu (S.x1 k) (S.y1 k) (S.z1 k)
def St.e2(S:St):UInt64:=S.ep+aF (aU 1)
def St.n(S:St)(k:Nat):Nat->UInt8
 |0=>S.nn
 |1=>nv (S.ds k) 0 S.nn
 |_=>nv (S.ds k) 1 (nv (S.ds k) 0 S.nn)
def St.oE(S:St)(k:Nat):List Oe:=(([]++ka (S.ds k) 0 (S.n k 0))++ka (S.ds k) 1 (S.n k 1))++ka (S.ds k) 2 (S.n k 2)
def St.la(S:St)(k j:Nat):List Hd:=Ag (S.pt j).m.l S.e2 S.now (S.ds k) (dN j) (S.n k j)
def St.tm(S:St)(k j:Nat):Pt:={S.pt j with m:=⟨ab,5,S.e2,S.ds k,gg S.e2 (dN j) (S.oE k) (S.la k j)⟩}
def St.tr(S:St)(k:Nat):St:={S with x:=S.x1 k,y:=S.y1 k,z:=S.z1 k,g:=5,ep:=S.e2,ro:=S.ds k,nn:=nv (S.ds k) 2 (S.n k 2),A:=S.tm k 0,B:=S.tm k 1,C:=S.tm k 2}
theorem Zt(x y z:Bool){i:Nat}(hi:i<3):dN i∈nu x y z↔ji x y z i=ab:=by
 match i,hi with
 |0,_=>revert x y z;decide
 |1,_=>revert x y z;decide
 |2,_=>revert x y z;decide
theorem Pk(x y z:Bool):(nu x y z).Nodup/\(nu x y z).length<=3:=by revert x y z;decide
theorem Zu(x y z:Bool):nu x y z= []\/nu x y z∈jI:=by revert x y z;decide
theorem B3{ds:List UInt8}{s n:UInt8}:o∈ka ds s n↔s∈ds/\o.to∈ds/\o.to≠s/\o.fr=s/\o.key=jS (n+1):=by
 unfold ka sB;rw [mw];constructor
 .rintro⟨d,hd,rfl⟩;split at hd
  .rename_i hs;obtain⟨h1,h2⟩:=List.mem_filter.1 hd;exact⟨hs,h1,mY,rfl,rfl⟩
  .cases hd
 .rintro⟨h1,h2,h3,h4,h5⟩;refine⟨o.to,?_,by obtain⟨_,_,_⟩:=o;dsimp only at h4 h5|-;rw [h4,h5]⟩;rw [if_pos h1];exact List.mem_filter.2 ⟨h2,by simpa using h3⟩
theorem K7{ds:List UInt8}(h:ds.Nodup)(s n:UInt8):(ka ds s n).Pairwise λa b=>a.to=b.to->a.fr≠b.fr:=by
 unfold ka sB;rw [List.pairwise_map];split
 .exact(h.filter _).imp λhne e=>absurd e hne
 .exact List.Pairwise.nil
section
variable {S:St} {K:UInt64->List UInt8} {W:List (Nat×UInt64)} {E:List FE} {N:Nat}
theorem DA{k:Nat}:o∈S.oE k↔∃i,i<3/\o.fr=dN i/\dN i∈S.ds k/\o.to∈S.ds k/\o.to≠dN i/\o.key=jS (S.n k i+1):=by
 unfold St.oE;simp only [jA,mu,B3];constructor
 .rintro((⟨h1,h2,h3,h4,h5⟩|⟨h1,h2,h3,h4,h5⟩)|⟨h1,h2,h3,h4,h5⟩)
  .exact⟨0,ag,h4,h1,h2,h3,h5⟩
  .exact⟨1,ag,h4,h1,h2,h3,h5⟩
  .exact⟨2,ag,h4,h1,h2,h3,h5⟩
 .rintro⟨i,hi,h4,h1,h2,h3,h5⟩
  match i,hi with
  |0,_=>exact .inl (.inl ⟨h1,h2,h3,h4,h5⟩)
  |1,_=>exact .inl (.inr ⟨h1,h2,h3,h4,h5⟩)
  |2,_=>exact .inr ⟨h1,h2,h3,h4,h5⟩
theorem K5(S:St)(k:Nat):(S.oE k).Pairwise λa b=>a.to=b.to->a.fr≠b.fr:=by
 have hn:=(Pk (S.x1 k) (S.y1 k) (S.z1 k)).1;unfold St.oE;rw [jA];refine List.pairwise_append.2 ⟨List.pairwise_append.2 ⟨K7 hn _ _,K7 hn _ _,λa r b hb _=>?_⟩,K7 hn _ _,λa r b hb _=>?_⟩
 .rw [(B3.1 r).2.2.2.1,(B3.1 hb).2.2.2.1];decide
 .rw [(B3.1 hb).2.2.2.1];rcases mu.1 r with r|r
  .rw [(B3.1 r).2.2.2.1];decide
  .rw [(B3.1 r).2.2.2.1];decide
theorem Rs(S:St)(k:Nat):(S.oE k).length<=9:=by
 have h3:=(Pk (S.x1 k) (S.y1 k) (S.z1 k)).2;have:∀s n,(ka (S.ds k) s n).length<=3:=λs n=>by
  unfold ka sB;rw [dm];split
  .exact jP (List.length_filter_le _ _) h3
  .exact kD _
 unfold St.oE;have h0:=this 0 (S.n k 0);have h1:=this 1 (S.n k 1);have h2:=this 2 (S.n k 2);simp only [aW,oZ];omega
theorem cV.e2(h:cV S K W E N):S.e2.toNat=S.ep.toNat+1:=by
 have:=h.eN;have:=h.hN;unfold St.e2;rw [lY];show(_+1)%2^64=_
 omega
def St.K2(S:St)(k:Nat)(K:UInt64->List UInt8)(kid:UInt64):List UInt8:=if kid=aP S.e2 0 (dN 0)then jS (S.n k 0+1)else if kid=aP S.e2 0 (dN 1)then jS (S.n k 1+1)else if kid=aP S.e2 0 (dN 2)then jS (S.n k 2+1)else K kid
theorem cV.e41(h:cV S K W E N):S.e2.toNat<2^41:=by have:=h.eN;have:=h.hN;have:=h.e2;omega
theorem Ap(h:cV S K W E N){e:UInt64}{d u:UInt8}(r:j6 S.ep e d)(hd:u.toNat<3):aP e 0 d≠aP S.e2 0 u:=λhk=>by have:=(Ao (h.el r).1 r.d h.e41 hd hk).1;have h1:=r.e2;have h2:=h.e2;rw [this]at h1;omega
theorem EN(h:cV S K W E N)(k:Nat){e:UInt64}{d:UInt8}(r:j6 S.ep e d):S.K2 k K (aP e 0 d)=K (aP e 0 d):=by unfold St.K2;rw [if_neg (Ap h r aw),if_neg (Ap h r aw),if_neg (Ap h r aw)]
theorem X1(h:cV S K W E N)(k:Nat){i:Nat}(hi:i<3):S.K2 k K (aP S.e2 0 (dN i))=jS (S.n k i+1):=by
 have ne:∀{a b:Nat},a<3->b<3->a≠b->aP S.e2 0 (dN a)≠aP S.e2 0 (dN b):=fun{a b} ha hb hab hk=>by have:=congrArg UInt8.toNat (Ao h.e41 (by rw [po ha];exact ha) h.e41 (by rw [po hb];exact hb) hk).2;rw [po ha,po hb]at this;exact hab this
 unfold St.K2
 match i,hi with
 |0,_=>rw [if_pos rfl]
 |1,_=>rw [if_neg (ne ag ag ag),if_pos rfl]
 |2,_=>rw [if_neg (ne ag ag ag),if_neg (ne ag ag ag),if_pos rfl]
theorem FC(now:UInt64)(x:Hd):(gu now x).kid=x.kid/\(gu now x).ep=x.ep/\(gu now x).d=x.d/\(gu now x).key=x.key:=by unfold gu;split<;>exact⟨rfl,rfl,rfl,rfl⟩
abbrev St.own(S:St)(k j:Nat):Hd:=⟨S.e2,dN j,aP S.e2 0 (dN j),jS (S.n k j+1),0,af⟩
theorem BO(h:cV S K W E N)(k:Nat){j:Nat}(hj:j<3):nr (S.la k j)/\(S.la k j).length<=(S.pt j).m.l.length+1/\(∀x,x∈S.la k j->x=S.own k j\/∃r,r∈(S.pt j).m.l/\x=gu S.now r)/\(dN j∈S.ds k->S.own k j∈S.la k j)/\(dN j∉S.ds k->S.la k j= []):=by
 have hs:=TB S.now (h.pt j hj).srt;have hm:∀x,x∈de S.now ((S.pt j).m.l.map (gu S.now))->∃r,r∈(S.pt j).m.l/\x=gu S.now r:=λx hx=>by obtain⟨r,h1,h2⟩:=mw.1 (List.mem_filter.1 hx).1;exact⟨r,h1,h2.symm⟩
 unfold St.la Ag Af;by_cases hd:dN j∈S.ds k
 .rw [if_pos hd];refine⟨TC (y:=S.own k j) hs λx hx=>?_,?_,λx hx=>?_,λ_=>Gx.2 (.inl rfl),λhn=>absurd hd hn⟩
  .obtain⟨r,h1,rfl⟩:=hm x hx;have:=(h.pt j hj).hd r h1;rw [(FC _ _).1,this.kid];exact Ap h this.ok (by rw [po hj];exact hj)
  .rw [QF _ _ (DJ hs).le];have:=Dv S.now ((S.pt j).m.l.map (gu S.now));rw [dm]at this;omega
  .rcases Gx.1 hx with h1|h1
   .exact .inl h1
   .exact .inr (hm x h1)
 .rw [if_neg hd];exact⟨List.Pairwise.nil,kD _,λx hx=>(by cases hx),λhn=>absurd hn hd,λ_=>rfl⟩
theorem KO(h:cV S K W E N)(k:Nat){j:Nat}(hj:j<3)(ho:o∈S.oE k)(r:o.to=dN j):∀x,x∈S.la k j->x.kid≠aP S.e2 0 o.fr:=λx hx=>by
 obtain⟨i,hi,f1,f2,F,u,f5⟩:=DA.1 ho;have hn:∀{a:Nat},a<3->(dN a).toNat<3:=fun{a} ha=>by rw [po ha];exact ha
 rw [f1];rcases(BO h k hj).2.2.1 x hx with rfl|⟨x0,h1,rfl⟩
 .intro hk;exact u (r.trans (Ao h.e41 (hn hj) h.e41 (hn hi) hk).2)
 .have:=(h.pt j hj).hd x0 h1;rw [(FC _ _).1,this.kid];exact Ap h this.ok (hn hi)
theorem GC{k:Nat}(ho:o∈S.oE k):o.fr.toNat<3:=by obtain⟨i,hi,f1,_⟩:=DA.1 ho;rw [f1,po hi];exact hi
theorem ajU(h:cV S K W E N)(k:Nat){j:Nat}(hj:j<3):nr (gg S.e2 (dN j) (S.oE k) (S.la k j))/\∀x,x∈gg S.e2 (dN j) (S.oE k) (S.la k j)↔x∈S.la k j\/∃o,o∈S.oE k/\o.to=dN j/\x=Ea S.e2 o:=
 HN h.e41 (BO h k hj).1 (λo ho r=>KO h k hj ho r) (K5 S k) λo ho=>GC ho
theorem MQ(h:cV S K W E N)(k:Nat){j:Nat}(hj:j<3):EP S.e2 (dN j) (S.oE k) (S.la k j):=λi o ho r=>by
 have hm:∀{a},a∈(S.oE k).take i->a∈S.oE k:=fun{a} ha=>qS ha
 have q:=HN h.e41 (j:=dN j) (E:=(S.oE k).take i) (BO h k hj).1 (λo ho r=>KO h k hj (hm ho) r) ((K5 S k).sublist (List.take_sublist _ _)) λo ho=>GC (hm ho)
 refine⟨q.1,λx hx=>?_,?_⟩
 .rcases(q.2 x).1 hx with hx|⟨o2,h1,h2,rfl⟩
  .exact KO h k hj (jO ho) r x hx
  .intro hk;have e:=(Ao h.e41 (GC (hm h1)) h.e41 (GC (jO ho)) hk).2;have hp:=K5 S k;rw [<-nJ i (S.oE k)]at hp;refine(List.pairwise_append.1 hp).2.2 o2 h1 o ?_ (h2.trans r.symm) e;refine List.mem_iff_getElem?.2 ⟨0,?_⟩;rw [iS];exact ho
 .have h1:=MK S.e2 (dN j) ((S.oE k).take i) (S.la k j);have h2:=(BO h k hj).2.1;have h3:=(h.pt j hj).len;have h4:=Rs S k;have h5:((S.oE k).take i).length<=(S.oE k).length:=lu;have:=h.eN;have:=h.hN;omega
theorem KE(h:cV S K W E N)(hN:N+1<=200){k:Nat}(hk:k<3):cV (S.tr k) (S.K2 k K) W E (N+1):=by
 have e2:=h.e2;have up:∀{e d},j6 S.ep e d->j6 S.e2 e d:=fun{e d} q=>⟨q.e1,by have:=q.e2;omega,q.d⟩
 have hn:∀{a:Nat},a<3->(dN a).toNat<3:=fun{a} ha=>by rw [po ha];exact ha
 have new:∀{i:Nat},i<3->j6 S.e2 S.e2 (dN i):=fun{i} hi=>⟨ag,bH _,hn hi⟩
 have U:∀j,j<3->(S.tr k).pt j=S.tm k j:=λj hj=>by match j,hj with|0,_=>rfl|1,_=>rfl|2,_=>rfl
 have u:∀{i:Nat},i<3->(dN i∈S.ds k↔ji (S.x1 k) (S.y1 k) (S.z1 k) i=ab):=fun{i} hi=>Zt _ _ _ hi
 refine⟨h.s1,h.s2,h.sb,?_,Nat.le_succ_of_le h.fN,hN,rfl,λj hj=>?_,λc hc=>?_,λx hx=>?_,λx hx=>?_,h.wl⟩
 .show S.e2.toNat<=_;have:=h.eN;omega
 .rw [U j hj];have q:=h.pt j hj;obtain⟨a1,a2,a3,a4,a5⟩:=BO h k hj;obtain⟨b1,V⟩:=ajU h k hj;have hm:∀x,x∈gg S.e2 (dN j) (S.oE k) (S.la k j)->(∃i,i<3/\x=⟨S.e2,dN i,aP S.e2 0 (dN i),jS (S.n k i+1),0,af⟩)\/∃F,F∈(S.pt j).m.l/\x=gu S.now F:=λx hx=>by
   rcases(V x).1 hx with hx|⟨o,h1,h2,rfl⟩
   .exact(a3 x hx).imp (λe=>⟨j,hj,e⟩) id
   .obtain⟨i,hi,f1,f2,f3,f4,f5⟩:=DA.1 h1;exact .inl ⟨i,hi,by unfold Ea;rw [f1,f5]⟩
  refine⟨q.dv,.inl rfl,λ_=>rfl,rfl,rfl,b1,?_,λx hx=>?_,λho=>?_,λho i hi hb=>?_,λy hy=>?_,λy hy=>?_,λx hx=>?_⟩
  .have h1:=MK S.e2 (dN j) (S.oE k) (S.la k j);have h3:=q.len;have h4:=Rs S k;show(gg S.e2 (dN j) (S.oE k) (S.la k j)).length<=10*S.e2.toNat
   omega
  .rcases hm x hx with⟨i,hi,rfl⟩|⟨F,h1,rfl⟩
   .exact⟨new hi,rfl,(X1 h k hi).symm,Nat.zero_lt_succ _,by show 32<=1024;decide⟩
   .have r:=q.hd F h1;obtain⟨e1,e2,e3,Z⟩:=FC S.now F;exact⟨by rw [e2,e3];exact up r.ok,by rw [e1,e2,e3];exact r.kid,by rw [Z,e1,r.kid,EN h k r.ok,<-r.kid];exact r.key,by rw [Z];exact r.k0,by rw [Z];exact r.k1⟩
  .have hd:dN j∉S.ds k:=λhd=>by have:=(u hj).1 hd;have ho:ji (S.x1 k) (S.y1 k) (S.z1 k) j=af:=ho;rw [ho]at this;cases this
   refine List.eq_nil_iff_forall_not_mem.2 λx hx=>?_
   rcases(V x).1 hx with hx|⟨o,h1,h2,rfl⟩
   .rw [a5 hd]at hx;cases hx
   .obtain⟨i,hi,f1,f2,f3,f4,f5⟩:=DA.1 h1;exact hd (h2▸f3)
  .have h6:=(u hj).2 ho;have O:=(u hi).2 hb;by_cases hij:i=j
   .subst hij;exact⟨S.own k i,(V _).2 (.inl (a4 O)),rfl,rfl⟩
   .have hne:dN j≠dN i:=λe=>hij (by have:=congrArg UInt8.toNat e;rw [po hi,po hj]at this;exact this.symm)
    refine⟨Ea S.e2 ⟨dN j,dN i,jS (S.n k i+1)⟩,(V _).2 (.inr ⟨_,DA.2 ⟨i,hi,rfl,O,h6,hne,rfl⟩,rfl,rfl⟩),rfl,rfl⟩
  .have r:=q.snd y hy;obtain⟨e,G,hp⟩:=r.p;have I:S.K2 k K y.p=K y.p:=by rw [hp];exact EN h k G
   exact⟨⟨e,up G,hp⟩,by rw [I];exact r.d,r.g,r.c,by rw [I];exact r.k0,by rw [I];exact r.k1⟩
  .obtain⟨e,d,G,hp⟩:=q.rk y hy;exact⟨e,d,up G,hp⟩
  .rcases hm x hx with⟨i,hi,rfl⟩|⟨F,h1,rfl⟩
   .refine .inl ⟨List.find?_eq_none.2 λy hy he=>?_,λg c hg ho=>?_⟩
    .obtain⟨e,d,G,hp⟩:=q.rk y hy;have he:=eq_of_beq he;exact Ap h G (hn hi) (by rw [<-hp];exact he.symm)
    .obtain⟨i',e,d,g',c',o1,o2,o3,o4⟩:=h.op _ ho;have kn:=h.el o2;have k2:=Du h.e41 (hn hi);have h5:(aP S.e2 0 (dN i)).toNat<2^47:=by have:=h.e41;have:=hn hi;omega
     exact Ap h o2 (hn hi) (BN h.sb h5 hg kn.2.2 o3 (VK o4).2.1).1.symm
   .have r:=q.hd F h1;rw [(FC _ _).1];have I:S.K2 k K F.kid=K F.kid:=by rw [r.kid];exact EN h k r.ok
    exact(q.rcs F h1).imp id λ⟨a,b,c,d,g1,g2,g3,g4,g5,g6,g7,g8⟩=>⟨a,b,c,d,g1,g2,g3,g4,g5,g6,g7,by rw [I];exact g8⟩
 .obtain⟨e,d,g,ct,g1,g2,g3,g4,g5,g6,g7⟩:=h.fr c hc;exact⟨e,d,g,ct,up g1,g2,g3,by rw [EN h k g1];exact g4,g5,g6,g7⟩
 .obtain⟨i,e,d,g,c,g1,g2,g3,g4⟩:=h.op x hx;exact⟨i,e,d,g,c,g1,up g2,g3,g4⟩
 .obtain⟨e,d,g,ct,y,g1,g2,g3,g4,g5⟩:=h.sl x hx;exact⟨e,d,g,ct,y,up g1,g2,g3,by rw [U _ g1.d];exact g4,g5⟩
end
abbrev BX:List SV:= [.p 10 0,.p 14 0,.p 18 0]
abbrev me0:List SV:= [.p 21 0,.p 25 0,.p 29 0]
abbrev MT(S:St):HL:= [al (kg 1 2 3 4 5 6 7 S.g S.ep S.now S.ro.length S.fr.length),an BX,aa (.ext .nm),ao 4 (eW S.x S.y S.z),aa (.ext .nm),aa (.ext .nm),aa (.ext .nm),aa (.ext .nm),al [.u8 S.nn],an [.fn 28 [.p 8 0]],al (S.A.m.c 11 9 12 S.A.dv),ao 164 (aI S.A.m.l),ao 94 (aN S.A.m.ds),an [.fn 28 [.p 8 0]],al (S.B.m.c 15 13 16 S.B.dv),ao 164 (aI S.B.m.l),ao 94 (aN S.B.m.ds),an [.fn 28 [.p 8 0]],al (S.C.m.c 19 17 20 S.C.dv),ao 164 (aI S.C.m.l),ao 94 (aN S.C.m.ds)]
abbrev HQ(S:St):HL:= [al (kg 1 2 3 21 5 6 7 S.g S.ep S.now S.ro.length S.fr.length),an BX,aa (.ext .nm),ao 4 (eW S.x S.y S.z),aa (.ext .nm),aa (.ext .nm),aa (.ext .nm),aa (.ext .nm),al [.u8 S.nn],an [.fn 28 [.p 8 0]],al (S.A.m.c 23 9 22 S.A.dv),ah,ah,an [.fn 28 [.p 8 0]],al (S.B.m.c 25 13 24 S.B.dv),ah,ah,an [.fn 28 [.p 8 0]],al (S.C.m.c 27 17 26 S.C.dv),ah,ah,ao 94 (aN S.ro),ao 94 (aN S.A.m.ds),ao 164 (aI S.A.m.l),ao 94 (aN S.B.m.ds),ao 164 (aI S.B.m.l),ao 94 (aN S.C.m.ds),ao 164 (aI S.C.m.l)]
theorem VC{N:Nat}(h:cV S K W E N){k:Nat}(hk:k<3)(h0:S.ds k= []->S.ep≠0):aQ 33 [.p 0 0,.i (k:Int)] (MT S) (.tup []) (HQ (S.tr k)):=by
 have e2:=h.e2;have G:k=0\/k=1\/k=2:=ag;have eN:=h.eN;have hN:=h.hN;have O:(aF (aU 1)).toNat=1:=aw;have U:(aF (aU 1099511627776)).toNat=1099511627776:=aw;have u:decide (S.e2<aF (aU 1))=af:=by rw [decide_eq_false_iff_not,gh,O];omega
 have F:decide (S.e2>aF (aU 1099511627776))=af:=by rw [decide_eq_false_iff_not,GT.gt,gh,U];omega
 have he:CL S.e2:=⟨by rw [decide_eq_true_eq,GE.ge,oA,O];omega,by rw [decide_eq_true_eq,oA,U];omega⟩;have dvA:S.A.dv=0:=(h.pt 0 ag).dv;have dvB:S.B.dv=1:=(h.pt 1 ag).dv;have dvC':S.C.dv=2:=(h.pt 2 ag).dv;have hlt:∀j,j<3->(S.pt j).m.l.length<999999/\decide (S.e2<=(S.pt j).m.ep)=af:=λj hj=>by have q:=h.pt j hj;have:=q.len;refine⟨ag,?_⟩;rw [decide_eq_false_iff_not,q.ep,oA];omega
 rcases Zu (S.x1 k) (S.y1 k) (S.z1 k)with hd|hd
 .have hd:S.ds k= []:=hd;have hne:=h0 hd;have hx:S.x1 k=af/\S.y1 k=af/\S.z1 k=af:=by have:∀x y z,nu x y z= []->x=af/\y=af/\z=af:=aw;exact this _ _ _ hd
  have sm:∀j,j<3->(S.pt j).m.sm=ab:=λj hj=>(h.pt j hj).sm.resolve_right hne
  have r:∀j,j<3->(S.pt j).m.OkE S.e2:=λj hj=>⟨(hlt j hj).1,(hlt j hj).2,sm j hj,(h.pt j hj).g (sm j hj)⟩
  have q:=ajY k G S.g S.ep S.now S.ro.length S.fr.length S.x S.y S.z hx.1.symm hx.2.1.symm hx.2.2.symm (e2:=S.e2) rfl u F S.nn S.A.m S.B.m S.C.m (r 0 ag) (r 1 ag) (r 2 ag);have en:∀s n,nv [] s n=n:=λs n=>if_neg aq
  have V:S.oE k= []:=by unfold St.oE;rw [hd];rfl
  have el:∀j,j<3->S.la k j= []:=λj hj=>(BO h k hj).2.2.2.2 (by rw [hd];simp)
  have I:nv (S.ds k) 2 (S.n k 2)=S.nn:=by show nv (S.ds k) 2 (nv (S.ds k) 1 (nv (S.ds k) 0 S.nn))=_;rw [hd,en,en,en]
  unfold MT HQ St.tr;dsimp only;rw [I];unfold St.tm;rw [V,el 0 ag,el 1 ag,el 2 ag,hd,hx.1,hx.2.1,hx.2.2];exact Xd
 .have r:∀j,j<3->(S.pt j).m.Ok S.e2:=λj hj=>⟨(hlt j hj).1,(hlt j hj).2,by
   have q:=h.pt j hj;cases hs:(S.pt j).m.sm with
   |false=>exact .inl rfl
   |true=>exact .inr ⟨rfl,q.g hs⟩,(h.pt j hj).srt⟩
  have q:=ajX k G S.g S.ep S.now S.ro.length S.fr.length S.x S.y S.z (S.x1 k) (S.y1 k) (S.z1 k) rfl rfl rfl (ds:=S.ds k) rfl hd (e2:=S.e2) rfl u F he S.nn S.A.m S.B.m S.C.m (r 0 ag) (r 1 ag) (r 2 ag) (n1:=S.n k 1) (n2:=S.n k 2) rfl rfl rfl (la:=S.la k 0) (lb:=S.la k 1) (lc:=S.la k 2) rfl rfl rfl (E:=S.oE k) rfl
   (MQ h k (j:=0) ag) (MQ h k (j:=1) ag) (MQ h k (j:=2) ag) rfl rfl rfl
  unfold MT HQ St.tr St.tm;exact Xd
theorem Zs(T:St)(k w:UInt8)(O r:Int)(hxB:iG xB=ab)(k0:(k==cX (aU 0))=af)(k1:(k==cX (aU 1))=af)(u:(k==cX (aU 2))=af)(F:(k==cX (aU 3))=af)(G:(k==cX (aU 4))=af)(I:(k==cX (aU 5))=af):aQ 12 [.p 0 0,.agg [.u8 k,.u8 w,.i O,.i r,xB]] (eG (cF 0) (cE 0) T [aa (.ext (.fam E))]) (.b ab) (eG (cF 0) (cE 0) T [aa (.ext (.fam E))]):=by
 refine wF ?_;refine aL (fn:=Tryz.f12) ?_;refine zp ?_;repeat(first|refine zW (bC k0) ?_|refine zW (bC k1) ?_|refine zW (bC u) ?_|refine zW (bC F) ?_|refine zW (bC G) ?_|refine zW (bC I) ?_|refine zf ?_)
 exact zQ
theorem LD{sel:List Nat}{t:Nat}{l m:List SV}(h:bu sel l=aa m):cZ sel (.row t l)=aa (.row t m):=by simp only [cZ,h]
def St.tk(S:St)(now:UInt64)(i:Nat):St:={S with now:=now,A:=if i=0 then S.A else S.A.tick now,B:=if i<=1 then S.B else S.B.tick now,C:=if i<=2 then S.C else S.C.tick now}
theorem Zq(T:St)(hA:T.A.m.l.length<1000000)(hB:T.B.m.l.length<1000000)(G:T.C.m.l.length<1000000)(w:UInt8)(u F:Int)(hxB:iG xB=ab):∃now,aQ 12 [.p 0 0,.agg [.u8 4,.u8 w,.i u,.i F,xB]] (eG (cF 0) (cE 0) T [aa (.ext (.fam E))]) (.b ab) (eG (cF 0) (cE 0) (T.tick now) [aa (.ext (.fam E))]):=by
 obtain⟨r,hw⟩:=ax (T.now+fO (if u<0 then 0 else u)%aF (aU 1001));refine⟨r,?_⟩;refine wF ?_;refine aL (fn:=Tryz.f12) ?_;refine zE ?_;refine zW (mn (J:= [27]) dw fq bD) ?_;refine zl ?_;refine bp.weak (R0:= [(0,.p 0 0),(3,.p 35 0),(4,.b af)]) (H0:=eG (cF 0) (cE 0) (T.tk r 0) [aa (.ext (.fam E)),al [.u8 4,.u8 w,.i u,.i F,xB]]) (L0:=36) ?_ ?_
 .refine bP [0,1,2,3,4,5,6,7,8,9,10,11,12,13,14,15,16,17,18,19,20,21,22,23,24,25,26,27,28,29,30,31,32,33,34,35] ?_ ?_
  .exact zo
  ·(repeat'(first|exact trivial|exact qB _ _|exact qA _ _|exact uV rfl rfl rfl _ _ _ _|exact ve rfl _ _ _|exact uU rfl rfl rfl|exact aY (uN _) rfl|exact wc _ hxB|refine aJ ?_ ?_|(refine dM ?_ ?_)))<;>first|exact lr (by exact hw)|rfl|exact aY bY az|fail
 refine oY ?_;refine bT 3 (λi=> [(0,.p 0 0),(4,.b af),(185,.sl 1 0 3 1 af),(186,.i 3),(187,.i (i.1:Int))]) (λi=>eG (cF 0) (cE 0) (T.tk r i.1) [aa (.ext (.fam E)),al [.u8 4,.u8 w,.i u,.i F,xB]]) 36 ?_ ?_
 .dsimp only;exact zD
 rintro⟨i,hi⟩;have h4:i=0\/i=1\/i=2\/i=3:=ag;rcases h4 with rfl|rfl|rfl|rfl
 .dsimp only;have q:=BG T.A.m.l hA r (uW T.A.m.ds.length) (jG T.A.m.ds) T.nn T.A.dv T.A.m.sm T.A.m.g T.A.m.ep;refine zI ?_;refine zW (dY [10,11,12,9,8] [al (bA 11 9 (.sl 12 0 T.A.m.ds.length 2 af) T.A.dv T.A.m.sm T.A.m.g T.A.m.ep (de r T.A.m.l).length),ao 164 (aI (de r T.A.m.l)),an (aN T.A.m.ds),an [.fn 28 [.p 8 0]],an [.u8 T.nn]] (.tup []) q) ?_;refine xl ?_;exact zD
 .dsimp only;have q:=BG T.B.m.l hB r (uW T.B.m.ds.length) (jG T.B.m.ds) T.nn T.B.dv T.B.m.sm T.B.m.g T.B.m.ep;refine zI ?_;refine zW (dY [14,15,16,13,8] [al (bA 15 13 (.sl 16 0 T.B.m.ds.length 2 af) T.B.dv T.B.m.sm T.B.m.g T.B.m.ep (de r T.B.m.l).length),ao 164 (aI (de r T.B.m.l)),an (aN T.B.m.ds),an [.fn 28 [.p 8 0]],an [.u8 T.nn]] (.tup []) q) ?_;refine EC ?_;exact zD
 .dsimp only;have q:=BG T.C.m.l G r (uW T.C.m.ds.length) (jG T.C.m.ds) T.nn T.C.dv T.C.m.sm T.C.m.g T.C.m.ep;refine zI ?_;refine zW (dY [18,19,20,17,8] [al (bA 19 17 (.sl 20 0 T.C.m.ds.length 2 af) T.C.dv T.C.m.sm T.C.m.g T.C.m.ep (de r T.C.m.l).length),ao 164 (aI (de r T.C.m.l)),an (aN T.C.m.ds),an [.fn 28 [.p 8 0]],an [.u8 T.nn]] (.tup []) q) ?_;refine Iv ?_;exact zD
 .dsimp only;refine zL ?_;exact zQ
theorem Zk{N:Nat}(h:cV S K W E N)(he:S.ep≠0)(hj:j=0\/j=1\/j=2)(w:UInt8)(hw:(w.toNat:Int)%3=j)(G F:Int)(hxB:iG xB=ab):aQ 12 [.p 0 0,.agg [.u8 0,.u8 w,.i G,.i F,xB]] (eG (cF 0) (cE 0) S [aa (.ext (.fam E))]) (.b ab) (og 35 5 37 36 39 38 41 40 23 24 27 28 31 32 (cF 0) (cE 0) (S.tr j) [aa (.ext (.fam E)),ao 94 (aN (S.tr j).ro),ao 94 (aN (S.tr j).A.m.ds),ao 164 (aI (S.tr j).A.m.l),ao 94 (aN (S.tr j).B.m.ds),ao 164 (aI (S.tr j).B.m.l),ao 94 (aN (S.tr j).C.m.ds),ao 164 (aI (S.tr j).C.m.l)]):=by
 have q:=VC h (k:=j) ag (λ_=>he);obtain⟨r,u⟩:=ax (S.tr j);rw [<-u]at q|-;have e:r.s=S.s/\r.b=S.b/\r.fr=S.fr/\r.op=S.op/\r.oc=S.oc/\r.sl=S.sl/\r.sc=S.sc/\r.V=S.V/\r.fs=S.fs/\r.A.z=S.A.z/\r.A.R=S.A.R/\r.A.n=S.A.n/\r.B.z=S.B.z/\r.B.R=S.B.R/\r.B.n=S.B.n/\r.C.z=S.C.z/\r.C.R=S.C.R/\r.C.n=S.C.n:=by rw [u];exact⟨rfl,rfl,rfl,rfl,rfl,rfl,rfl,rfl,rfl,rfl,rfl,rfl,rfl,rfl,rfl,rfl,rfl,rfl⟩
 obtain⟨s1,s2,I,s4,s5,s6,s7,s8,s9,a1,a2,O,U,Z,b3,c1,c2,c3⟩:=e;refine wF ?_;rw [s1,s2,I,s4,s5,s6,s7,s8,s9,a1,a2,O,U,Z,b3,c1,c2,c3];unfold HQ at q;rw [I]at q;refine yC ?_;refine bp.weak (R0:= [(0,.p 0 0),(3,.p 35 0),(4,.b af),(5,.i (j:Int))]) (H0:=eG (cF 0) (cE 0) S [aa (.ext (.fam E)),al [.u8 0,.u8 w,.i G,.i F,xB]]) (L0:=36) ?_ ?_
 .exact zD
 refine oY ?_;refine oN [0,1,2,3,4,5,6,7,8,9,10,11,12,13,14,15,16,17,18,19,20] [al (kg 1 2 3 36 5 6 7 r.g r.ep r.now r.ro.length S.fr.length),an BX,aa (.ext .nm),ao 4 (eW r.x r.y r.z),aa (.ext .nm),aa (.ext .nm),aa (.ext .nm),aa (.ext .nm),al [.u8 r.nn],an [.fn 28 [.p 8 0]],al (r.A.m.c 38 9 37 r.A.dv),ah,ah,an [.fn 28 [.p 8 0]],al (r.B.m.c 40 13 39 r.B.dv),ah,ah,an [.fn 28 [.p 8 0]],al (r.C.m.c 42 17 41 r.C.dv),ah,ah,ao 94 (aN r.ro),ao 94 (aN r.A.m.ds),ao 164 (aI r.A.m.l),ao 94 (aN r.B.m.ds),ao 164 (aI r.B.m.l),ao 94 (aN r.C.m.ds),ao 164 (aI r.C.m.l)] (.tup []) (q) rfl rfl ⟨⟨rfl,az⟩,bU,by(repeat'(first|exact trivial|refine aJ ?_ ?_))<;>first|exact K0 rfl rfl rfl|exact LD (qB _ _)|exact LD (qA _ _)|exact kb _ (by first|(simp;done)|fail)|rfl,NY,?_⟩;conv=>whnf
 exact bE [0,1,2,3,4,5,6,7,8,9,10,11,12,13,14,15,16,17,18,19,20,21,22,23,24,25,26,27,28,29,30,31,32,33,34,36,37,38,39,40,41,42]
theorem Eb(hl:H0.length=35)(h:fc Tryz.prog f args H0 λr H=>r= .b ab/\∃S,Φ S/\H=og 4 5 11 12 15 16 19 20 23 24 27 28 31 32 (cF j) (cE j) S [aa (.ext (.fam E))]):fc Tryz.prog f args H0 λr H=>r= .b ab/\∃S,Φ S/\H=sQ (cF j) (cE j) S E:=by refine h.fin ?_;rintro r H ⟨rfl,S,hS,rfl⟩;refine⟨.b ab,_,[0,1,2,3,4,5,6,7,8,9,10,11,12,13,14,15,16,17,18,19,20,21,22,23,24,25,26,27,28,29,30,31,32,33,34,4,5,11,12,15,16,19,20,23,24,27,28,31,32],⟨rfl,S,hS,rfl⟩,rfl,by rw [hl];rfl,rfl,?_,rfl⟩;exact bU
theorem Vv(hl:H0.length=35)(h:fc Tryz.prog f args H0 λr H=>r= .b ab/\∃S,Φ S/\H=og 4 5 11 12 15 16 19 20 35 36 27 28 31 32 (cF j) (cE j) S [aa (.ext (.fam E)),al (cT S.s S.b 36 S.A.z),aC 5 (dG S.A.z)]):fc Tryz.prog f args H0 λr H=>r= .b ab/\∃S,Φ S/\H=sQ (cF j) (cE j) S E:=by refine h.fin ?_;rintro r H ⟨rfl,S,hS,rfl⟩;refine⟨.b ab,_,[0,1,2,3,4,5,6,7,8,9,10,11,12,13,14,15,16,17,18,19,20,21,22,23,24,25,26,27,28,29,30,31,32,33,34,4,5,11,12,15,16,19,20,35,36,27,28,31,32],⟨rfl,S,hS,rfl⟩,rfl,by rw [hl];rfl,rfl,?_,rfl⟩;exact bU
theorem ajQ(hl:H0.length=35)(h:fc Tryz.prog f args H0 λr H=>r= .b ab/\∃S,Φ S/\H=og 4 35 11 12 15 16 19 20 36 37 27 28 31 32 (cF j) (cE j) S [aa (.ext (.fam E)),ao 106 (i5 S.fr),al (cT S.s S.b 37 S.A.z),aC 5 (dG S.A.z)]):fc Tryz.prog f args H0 λr H=>r= .b ab/\∃S,Φ S/\H=sQ (cF j) (cE j) S E:=by refine h.fin ?_;rintro r H ⟨rfl,S,hS,rfl⟩;refine⟨.b ab,_,[0,1,2,3,4,5,6,7,8,9,10,11,12,13,14,15,16,17,18,19,20,21,22,23,24,25,26,27,28,29,30,31,32,33,34,4,35,11,12,15,16,19,20,36,37,27,28,31,32],⟨rfl,S,hS,rfl⟩,rfl,by rw [hl];rfl,rfl,?_,rfl⟩;exact bU
theorem ajR(hl:H0.length=35)(h:fc Tryz.prog f args H0 λr H=>r= .b ab/\∃S,Φ S/\H=og 35 5 37 36 39 38 41 40 23 24 27 28 31 32 (cF j) (cE j) S [aa (.ext (.fam E)),ao 94 (aN S.ro),ao 94 (aN S.A.m.ds),ao 164 (aI S.A.m.l),ao 94 (aN S.B.m.ds),ao 164 (aI S.B.m.l),ao 94 (aN S.C.m.ds),ao 164 (aI S.C.m.l)]):fc Tryz.prog f args H0 λr H=>r= .b ab/\∃S,Φ S/\H=sQ (cF j) (cE j) S E:=by refine h.fin ?_;rintro r H ⟨rfl,S,hS,rfl⟩;refine⟨.b ab,_,[0,1,2,3,4,5,6,7,8,9,10,11,12,13,14,15,16,17,18,19,20,21,22,23,24,25,26,27,28,29,30,31,32,33,34,35,5,37,36,39,38,41,40,23,24,27,28,31,32],⟨rfl,S,hS,rfl⟩,rfl,by rw [hl];rfl,rfl,?_,rfl⟩;exact bU
theorem YE{x:SV}(hx:∀sel,bG sel x=aa x)(h:fc Tryz.prog 12 [.p 0 0,x] (eG (cF 1) (cE 1) (S.sw 1) [aa (.ext (.fam E))]) λr H=>r= .b ab/\∃S,Φ S/\H=sQ (cF 1) (cE 1) (S.sw 1) E):fc Tryz.prog 12 [.p 0 0,x] (eG (cF 0) (cE 0) S [aa (.ext (.fam E))]) λr H=>r= .b ab/\∃S,Φ S/\H=sQ (cF 0) (cE 0) S E:=by
 have q:fc Tryz.prog 12 [.p 0 0,x] (eG (cF 0) (cE 0) S [aa (.ext (.fam E))]) λr H=>r= .b ab/\∃u,Φ u/\H=og 35 36 39 40 37 38 41 42 45 46 43 44 47 48 (cF 0) (cE 0) u [aa (.ext (.fam E)),ao 94 (aN u.ro),ao 106 (i5 u.fr),ao 164 (aI u.B.m.l),ao 94 (aN u.B.m.ds),ao 164 (aI u.A.m.l),ao 94 (aN u.A.m.ds),ao 164 (aI u.C.m.l),ao 94 (aN u.C.m.ds),al (cT u.s u.b 44 u.B.z),aC 5 (dG u.B.z),al (cT u.s u.b 46 u.A.z),aC 5 (dG u.A.z),al (cT u.s u.b 48 u.C.z),aC 5 (dG u.C.z)]:=by
  refine h.ren [0,1,2,3,4,5,6,7,8,13,14,15,16,9,10,11,12,17,18,19,20,25,26,27,28,21,22,23,24,29,30,31,32,33,34] (by simp only [bu,hx];rfl) rfl ?_ rfl ?_
  .exact bU
  .rintro r H ⟨rfl,u,hS,rfl⟩;refine⟨[al (kg 1 2 3 35 36 6 7 u.g u.ep u.now u.ro.length u.fr.length),ao 88 (cF 0),ao 96 (cE 0),ao 4 (eW u.x u.y u.z),ah,ah,aa (.ext (.lit (jJ u.op u.oc))),aa (.ext (.lit (jJ u.sl u.sc))),al [.u8 u.nn],al [.fn 28 [.p 8 0]],al (u.B.m.c 37 13 38 u.B.dv),ah,ah,al [.fn 28 [.p 8 0]],al (u.A.m.c 39 9 40 u.A.dv),ah,ah,al [.fn 28 [.p 8 0]],al (u.C.m.c 41 17 42 u.C.dv),ah,ah,al (db 14 26 u.s u.b (fV u.B.z) (fv 43 u.B.z)),aa (.ext (.lit (dX u.B.R u.B.n))),ah,ah,al (db 10 22 u.s u.b (fV u.A.z) (fv 45 u.A.z)),aa (.ext (.lit (dX u.A.R u.A.n))),ah,ah,al (db 18 30 u.s u.b (fV u.C.z) (fv 47 u.C.z)),aa (.ext (.lit (dX u.C.R u.C.n))),ah,ah,aa (.ext (.ar u.V u.fs)),aa (.ext (.fam E)),ao 94 (aN u.ro),ao 106 (i5 u.fr),ao 164 (aI u.B.m.l),ao 94 (aN u.B.m.ds),ao 164 (aI u.A.m.l),ao 94 (aN u.A.m.ds),ao 164 (aI u.C.m.l),ao 94 (aN u.C.m.ds),al (cT u.s u.b 44 u.B.z),aC 5 (dG u.B.z),al (cT u.s u.b 46 u.A.z),aC 5 (dG u.A.z),al (cT u.s u.b 48 u.C.z),aC 5 (dG u.C.z)],.b ab,?_,rfl,?_⟩
   .exact bU
   .exact⟨⟨rfl,u,hS,rfl⟩,rfl⟩
 refine q.fin ?_;rintro r H ⟨rfl,u,hS,rfl⟩;refine⟨.b ab,_,[0,1,2,3,4,5,6,7,8,9,10,11,12,13,14,15,16,17,18,19,20,21,22,23,24,25,26,27,28,29,30,31,32,33,34,35,36,39,40,37,38,41,42,45,46,43,44,47,48],⟨rfl,u,hS,rfl⟩,rfl,rfl,rfl,?_,rfl⟩;exact bU
theorem YF{x:SV}(hx:∀sel,bG sel x=aa x)(h:fc Tryz.prog 12 [.p 0 0,x] (eG (cF 2) (cE 2) (S.sw 2) [aa (.ext (.fam E))]) λr H=>r= .b ab/\∃S,Φ S/\H=sQ (cF 2) (cE 2) (S.sw 2) E):fc Tryz.prog 12 [.p 0 0,x] (eG (cF 0) (cE 0) S [aa (.ext (.fam E))]) λr H=>r= .b ab/\∃S,Φ S/\H=sQ (cF 0) (cE 0) S E:=by
 have q:fc Tryz.prog 12 [.p 0 0,x] (eG (cF 0) (cE 0) S [aa (.ext (.fam E))]) λr H=>r= .b ab/\∃u,Φ u/\H=og 35 36 41 42 39 40 37 38 47 48 45 46 43 44 (cF 0) (cE 0) u [aa (.ext (.fam E)),ao 94 (aN u.ro),ao 106 (i5 u.fr),ao 164 (aI u.C.m.l),ao 94 (aN u.C.m.ds),ao 164 (aI u.B.m.l),ao 94 (aN u.B.m.ds),ao 164 (aI u.A.m.l),ao 94 (aN u.A.m.ds),al (cT u.s u.b 44 u.C.z),aC 5 (dG u.C.z),al (cT u.s u.b 46 u.B.z),aC 5 (dG u.B.z),al (cT u.s u.b 48 u.A.z),aC 5 (dG u.A.z)]:=by
  refine h.ren [0,1,2,3,4,5,6,7,8,17,18,19,20,13,14,15,16,9,10,11,12,29,30,31,32,25,26,27,28,21,22,23,24,33,34] (by simp only [bu,hx];rfl) rfl ?_ rfl ?_
  .exact bU
  .rintro r H ⟨rfl,u,hS,rfl⟩;refine⟨[al (kg 1 2 3 35 36 6 7 u.g u.ep u.now u.ro.length u.fr.length),ao 88 (cF 0),ao 96 (cE 0),ao 4 (eW u.x u.y u.z),ah,ah,aa (.ext (.lit (jJ u.op u.oc))),aa (.ext (.lit (jJ u.sl u.sc))),al [.u8 u.nn],al [.fn 28 [.p 8 0]],al (u.C.m.c 37 17 38 u.C.dv),ah,ah,al [.fn 28 [.p 8 0]],al (u.B.m.c 39 13 40 u.B.dv),ah,ah,al [.fn 28 [.p 8 0]],al (u.A.m.c 41 9 42 u.A.dv),ah,ah,al (db 18 30 u.s u.b (fV u.C.z) (fv 43 u.C.z)),aa (.ext (.lit (dX u.C.R u.C.n))),ah,ah,al (db 14 26 u.s u.b (fV u.B.z) (fv 45 u.B.z)),aa (.ext (.lit (dX u.B.R u.B.n))),ah,ah,al (db 10 22 u.s u.b (fV u.A.z) (fv 47 u.A.z)),aa (.ext (.lit (dX u.A.R u.A.n))),ah,ah,aa (.ext (.ar u.V u.fs)),aa (.ext (.fam E)),ao 94 (aN u.ro),ao 106 (i5 u.fr),ao 164 (aI u.C.m.l),ao 94 (aN u.C.m.ds),ao 164 (aI u.B.m.l),ao 94 (aN u.B.m.ds),ao 164 (aI u.A.m.l),ao 94 (aN u.A.m.ds),al (cT u.s u.b 44 u.C.z),aC 5 (dG u.C.z),al (cT u.s u.b 46 u.B.z),aC 5 (dG u.B.z),al (cT u.s u.b 48 u.A.z),aC 5 (dG u.A.z)],.b ab,?_,rfl,?_⟩
   .exact bU
   .exact⟨⟨rfl,u,hS,rfl⟩,rfl⟩
 refine q.fin ?_;rintro r H ⟨rfl,u,hS,rfl⟩;refine⟨.b ab,_,[0,1,2,3,4,5,6,7,8,9,10,11,12,13,14,15,16,17,18,19,20,21,22,23,24,25,26,27,28,29,30,31,32,33,34,35,36,41,42,39,40,37,38,47,48,45,46,43,44],⟨rfl,u,hS,rfl⟩,rfl,rfl,rfl,?_,rfl⟩;exact bU
theorem Fo(hj:j=0\/j=1\/j=2){x:SV}(hx:∀sel,bG sel x=aa x)(h:fc Tryz.prog 12 [.p 0 0,x] (eG (cF j) (cE j) (S.sw j) [aa (.ext (.fam E))]) λr H=>r= .b ab/\∃S,Φ S/\H=sQ (cF j) (cE j) (S.sw j) E):fc Tryz.prog 12 [.p 0 0,x] (eG (cF 0) (cE 0) S [aa (.ext (.fam E))]) λr H=>r= .b ab/\∃S,Φ S/\H=sQ (cF 0) (cE 0) S E:=by
 rcases hj with rfl|rfl|rfl
 .exact h
 .exact YE hx h
 .exact YF hx h
structure CO(S:St)(K:UInt64->List UInt8)(W:List (Nat×UInt64))(E:List FE)(N:Nat)(k:UInt8)(j:Nat)(S2:St):Prop where
 s0:k=0->S2=S.tr j
 s1:k=1->ji S.x S.y S.z j=ab->∃x pF pT,x∈(S.pt j).m.l/\x.kid=aP S.ep 0 (dN j)/\S2=S.sealed j x pF pT/\fg pF.2.2=aa ((bF (aV x.kid S.b (br (S.pt j).z x).g) (br (S.pt j).z x).c).length,aV x.kid S.b (br (S.pt j).z x).g,(br (S.pt j).z x).c)
 s2:k=2->(S2=S/\S.fr= [])\/∃c,c∈S.fr/\Bi S K W E N j c af S2
section
variable {S:St} {K:UInt64->List UInt8} {W:List (Nat×UInt64)} {E:List FE} {N:Nat}
theorem ajC(S:St){j:Nat}(hj:j=0\/j=1\/j=2):(S.sw j).A=S.pt j/\(S.sw j).s=S.s/\(S.sw j).b=S.b/\(S.sw j).x=S.x/\(S.sw j).y=S.y/\(S.sw j).z=S.z/\(S.sw j).fr=S.fr/\(S.sw j).sl=S.sl/\(S.sw j).sc=S.sc/\(S.sw j).fs=S.fs:=by rcases hj with rfl|rfl|rfl<;>exact⟨rfl,rfl,rfl,rfl,rfl,rfl,rfl,rfl,rfl,rfl⟩
theorem Sd(h:cV S K W E N)(he:S.ep≠0){j:Nat}(hj:j<3){x:Hd}(hx:x∈(S.pt j).m.l)(hk:x.kid=aP S.ep 0 (dN j)):CM S (S.pt j) (ny (S.pt j).m.l (aP S.ep 0 (dN j))) x:=by
 have q:=h.pt j hj;have hd:=q.hd x hx;have kj:=h.kj hj hx;have r:=ai6 h (Cl h hj hx hk);have e:aP (S.pt j).m.ep 0 (S.pt j).dv=aP S.ep 0 (dN j):=by rw [q.ep,q.dv]
 refine⟨q.sm.resolve_right he,?_,by rw [<-hk];exact GS q.srt hx,by rw [e];exact DJ q.srt,by rw [e];exact hk,?_,hd.k0,hd.k1,r.1,r.2,h.s1,h.s2,h.sb⟩
 .have:=q.len;have:=h.eN;have:=h.hN;omega
 .rw [hk];exact SA h.sb (h.el kj).2.2
theorem cx{j:Nat}{E:List FE}:(eG (cF j) (cE j) S [aa (.ext (.fam E))]).length=35:=rfl
theorem Pe(h:cV S K W E N)(he:S.ep≠0)(hN:N+1<=200)(k w:UInt8)(U O:Int)(ha:O<9223372036854775808)(hxB:iG xB=ab)(h1:k=1->∃pT:cC,xB= .lit pT.1/\aX pT∈E/\pT.2.2.length<=400):fc Tryz.prog 12 [.p 0 0,.agg [.u8 k,.u8 w,.i U,.i O,xB]] (eG (cF 0) (cE 0) S [aa (.ext (.fam E))]) λr H=>r= .b ab/\∃u,(CO S K W E N k (w.toNat%3) u/\(∃K2 Z,cV u K2 Z E (N+1))/\u.ep≠0)/\H=sQ (cF 0) (cE 0) u E:=by
 obtain⟨j,hjw⟩:=ax (w.toNat%3);rw [<-hjw];have hj:j=0\/j=1\/j=2:=ag;have F:j<3:=ag;have hw:(w.toNat:Int)%3=j:=ag;have hx:∀sel,bG sel (.agg [.u8 k,.u8 w,.i U,.i O,xB])=aa (.agg [.u8 k,.u8 w,.i U,.i O,xB]):=λsel=>by simp only [bG,bu,wc _ hxB]
 have I:=h.mono (Nat.le_succ N) hN;have sm:=(h.pt j F).sm.resolve_right he;obtain⟨fA,fs_,fb,fx,fy,fz,h9,h8,x7,x0⟩:=ajC S hj;by_cases k0:k=0
 .subst k0;have e2:=h.e2;refine ajR (j:=0) (E:=E) rfl ((Zk h he hj w hw U O hxB).x ⟨rfl,S.tr j,⟨⟨λ_=>rfl,λh=>absurd h aw,λh=>absurd h aw⟩,⟨_,W,KE h hN F⟩,λhz=>?_⟩,rfl⟩);have hz:S.e2=0:=hz;rw [hz]at e2;exact absurd e2 aq
 by_cases k1:k=1
 .subst k1;obtain⟨pT,rfl,h6,hP⟩:=h1 rfl;refine Fo hj hx ?_;cases hin:ji S.x S.y S.z j with
  |true=>
   obtain⟨x,x1,x2,x3,x4,x5,x6⟩:=Se h F hin;have ow:=Sd h he F x1 x2;have h7:CM (S.sw j) (S.sw j).A (ny (S.pt j).m.l (aP S.ep 0 (dN j))) x:=XJ;have q:=Zl hj (S.sw j) w hw U O h6 hP I4 h7 (by rw [fA];exact(Tg h F x1 x2).2) (by rw [h8];exact aiZ h) (by rw [fA,fb,h8];exact aiE h F x1 x2) (by rw [h9];have:=h.fN;have:=h.hN;omega);refine(ajQ (j:=j) (E:=E) rfl (Φ:=λu=>∃G,u=G.sw j/\CO S K W E N 1 j G/\(∃K2 Z,cV G K2 Z E (N+1))/\G.ep≠0) (q.mono ?_)).mono ?_
   .rintro r H ⟨e1,pF,hF,e2⟩;rw [fA,fb,fs_]at hF;have iv:=ac2 h hN F x1 x2 h6 hP hF;refine⟨e1,_,⟨S.sealed j x pF pT,?_,⟨λh=>absurd h aw,λ_ _=>⟨x,pF,pT,x1,x2,rfl,by rw [hF];exact BJ _ _ _⟩,λh=>absurd h aw⟩,⟨_,_,iv⟩,?_⟩,e2⟩
    .rcases hj with rfl|rfl|rfl<;>rfl
    .unfold St.sealed;rw [FF];exact he
   .rintro r H ⟨e1,u,⟨G,rfl,h3⟩,e2⟩;exact⟨e1,G,h3,e2⟩
  |false=>
   have q:=Zm hj (S.sw j) w hw U O h6 I4 (by rw [fA];exact sm) (by rw [fA];exact(h.pt j F).out hin);refine(Eb (j:=j) (E:=E) rfl (Φ:=λu=>u=S.sw j) (q.x ⟨rfl,_,rfl,rfl⟩)).mono ?_;rintro r H ⟨e1,u,rfl,e2⟩;exact⟨e1,S,⟨⟨λh=>absurd h aw,λ_ hb=>(by rw [hin]at hb;cases hb),λh=>absurd h aw⟩,⟨K,W,I⟩,he⟩,e2⟩
 by_cases k2:k=2
 .subst k2;refine Fo hj hx ?_;refine(Eb (j:=j) (E:=E) rfl (Φ:=λu=>∃G,u=G.sw j/\CO S K W E N 2 j G/\(∃K2 Z,cV G K2 Z E (N+1))/\G.ep≠0) ((Zn h he hj w hw U O hxB).mono ?_)).mono ?_
  .rintro r H ⟨e1,u,h2,e2⟩;refine⟨e1,_,⟨u,rfl,⟨λh=>absurd h aw,λh=>absurd h aw,λ_=>h2⟩,?_,?_⟩,e2⟩
   .rcases h2 with⟨rfl,_⟩|⟨c,_,ho⟩
    .exact⟨K,W,I⟩
    .obtain⟨Z,iv⟩:=RO ho;exact⟨K,Z,iv.mono (Nat.le_succ N) hN⟩
   .rcases h2 with⟨rfl,_⟩|⟨c,_,ho⟩
    .exact he
    .obtain⟨e,d,g,ct,er,R,n,V,fs,op,oc,_,_,_,_,_,rfl⟩:=ho;unfold St.opn;rw [FF];exact he
  .rintro r H ⟨e1,u,⟨G,rfl,h3⟩,e2⟩;exact⟨e1,G,h3,e2⟩
 have st:∀u,CO S K W E N k j u:=λu=>⟨λe=>absurd e k0,λe=>absurd e k1,λe=>absurd e k2⟩
 by_cases k3:k=3
 .subst k3;refine Fo hj hx ?_;cases hin:ji S.x S.y S.z j with
  |true=>
   obtain⟨x,x1,x2,x3,x4,x5,x6⟩:=Se h F hin;have ow:=Sd h he F x1 x2;have h7:CM (S.sw j) (S.sw j).A (ny (S.pt j).m.l (aP S.ep 0 (dN j))) x:=XJ;have q:=Zo hj (S.sw j) E w hw U O hxB I4 h7;have iv:=ac3 h F x1 x2;refine(Vv (j:=j) (E:=E) rfl (Φ:=λu=>u=(S.up j {S.pt j with z:=aa (mT S.s S.b (br (S.pt j).z x))}).sw j) (q.x ⟨rfl,_,?_,rfl⟩)).mono ?_
   .rcases hj with rfl|rfl|rfl<;>rfl
   .rintro r H ⟨e1,u,rfl,e2⟩;exact⟨e1,_,⟨st _,⟨K,W,iv.mono (Nat.le_succ N) hN⟩,by rw [FF];exact he⟩,e2⟩
  |false=>
   have q:=Zp hj (S.sw j) (E:=E) w hw U O hxB I4 (by rw [fA];exact sm) (by rw [fA];exact(h.pt j F).out hin);refine(Vv (j:=j) (E:=E) rfl (Φ:=λu=>u=S.sw j) (q.x ⟨rfl,_,rfl,rfl⟩)).mono ?_;rintro r H ⟨e1,u,rfl,e2⟩;exact⟨e1,S,⟨st _,⟨K,W,I⟩,he⟩,e2⟩
 by_cases k4:k=4
 .subst k4;have hl:∀i,i<3->(S.pt i).m.l.length<1000000:=λi hi=>by have:=(h.pt i hi).len;have:=h.eN;have:=h.hN;omega
  obtain⟨now,q⟩:=Zq S (E:=E) (hl 0 ag) (hl 1 ag) (hl 2 ag) w U O hxB;exact Eb (j:=0) (E:=E) rfl (q.x ⟨rfl,_,⟨st _,⟨K,W,(ac4 h now).mono (Nat.le_succ N) hN⟩,he⟩,rfl⟩)
 by_cases k5:k=5
 .subst k5;refine Fo hj hx ?_;refine(Eb (j:=j) (E:=E) rfl (Φ:=λu=>∃G,u=G.sw j/\(∃K2 Z,cV G K2 Z E N)/\G.ep≠0) ((Zr h he hj w hw U O ha hxB).mono ?_)).mono ?_
  .rintro r H ⟨e1,u,h2,h3,e2⟩;exact⟨e1,_,⟨u,rfl,h2,h3⟩,e2⟩
  .rintro r H ⟨e1,u,⟨G,rfl,⟨K2,Z,iv⟩,h3⟩,e2⟩;exact⟨e1,G,⟨st _,⟨K2,Z,iv.mono (Nat.le_succ N) hN⟩,h3⟩,e2⟩
 .have ne:∀{m:UInt8},k≠m->(k==m)=af:=fun{m} h=>kV
  exact Eb (j:=0) (E:=E) rfl ((Zs S k w U O hxB (ne k0) (ne k1) (ne k2) (ne k3) (ne k4) (ne k5)).x ⟨rfl,S,⟨st _,⟨K,W,I⟩,he⟩,rfl⟩)
end
end Go.Sh
