/- Merged for a claim: W45, W57, Sh65, W58, V6, W62, Sh43, Sh66, W61. -/
import Derived.SizedLaws
import Derived.Test.YtkahaemiigimcaaGreatFm22
set_option linter.unusedSimpArgs false
set_option linter.unusedVariables false
set_option maxHeartbeats 8000000
set_option maxRecDepth 10000
open Option renaming some->aa,none->ah,bind_eq_some_iff->j0,map_some->nq
open Bool renaming true->ab,false->af
open And renaming intro->aJ
open Int renaming toNat->aU
open List renaming length_append->aW,getElem?_eq_getElem->dy,getElem?_eq_some_iff->dA,getElem?_eq_none->dI,length_set->fJ,mem_cons->gy,lookup_cons->gJ,getElem?_take_of_lt->ic,getElem?_drop->iS,map_take->iU,mem_of_getElem?->jO,ext_getElem?->ku,getElem?_map->ky,mem_singleton->lx,mem_append->mu,mem_map->mw,drop_drop->ng,getElem?_set->pQ,drop_left->qP,take_left->sZ,all_append->uf,lookup_nil->vB
open Nat renaming le_refl->bH,zero_le->kD,add_assoc->sn
open Exists renaming intro->fW
open Prod renaming fst->iW
open Array renaming getElem?_eq_some_iff->jL,getElem?_toList->lU
open UInt16 renaming ofNat->wV
namespace Go.Sh
open Go.Proofs
variable{s:UInt16}
theorem Km(n s:UInt8):aM 29 [.ifc 140 0 0,.agg [.u8 0,.u8 s]] [an [.fn 28 [.p 1 0]],an [.u8 n]] (.p 2 0) [al (bA 4 0 (.sl 3 0 0 2 af) s af 0 0 0),ao 94 [],ao 164 []]:=((abt n s).virtB 2 21 94 2 rfl rfl rfl).virtB 2 22 164 23 rfl rfl rfl
theorem Ko(h:1<=s.toNat)(h2:s.toNat<=5)(b:Nat)(hb:b<=16):aM 32 [.u16 s,.i (b:Int),.p 0 0] [aa (.ext .nm)] (.tup [.p 1 0,.i 0]) [al (db 0 2 s b 0 .pnil),aa (.ext (.lit (.map #[] 0)))]:=by
 have q:=afq h h2;have e1:decide (((b:Nat):Int)<0)=af:=aq;have e2:decide (((b:Nat):Int)>16)=af:=ox;refine aL (fn:=Tryz.f32) ?_;refine zM ?_;refine zW (aE [] [] ab q) ?_;repeat(first|refine zH (df rfl az) ?_|refine zW (cO e1) ?_|refine zW (bC e2) ?_|refine zf ?_)
 refine zW (GJ rfl) ?_;refine zc ?_;exact bE [0,3,2]
def dQ(s:UInt16)(b:Nat)(nn:UInt8):St:={s:=s,b:=b,x:=af,y:=af,z:=af,g:=0,ep:=0,now:=0,ro:= [],fr:= [],op:= [],oc:=0,sl:= [],sc:=0,nn:=nn,A:=⟨0,⟨af,0,0,[],[]⟩,ah,[],0⟩,B:=⟨1,⟨af,0,0,[],[]⟩,ah,[],0⟩,C:=⟨2,⟨af,0,0,[],[]⟩,ah,[],0⟩,V:= [],fs:= []}
theorem KC(h:1<=s.toNat)(h2:s.toNat<=5){b:Nat}(hb:b<=16)(nn:UInt8)(E:List FE):cV (dQ s b nn) (λ_=> []) [] E 0:=by
 refine⟨h,h2,hb,kD _,bH _,kD _,rfl,λj hj=>?_,λc hc=>(by cases hc),λk hk=>(by cases hk),λk hk=>(by cases hk),rfl⟩;have r:∀d,d=dN j->I9 (dQ s b nn) (λ_=> []) [] j ⟨d,⟨af,0,0,[],[]⟩,ah,[],0⟩:=λd hd=>by refine⟨hd,.inr rfl,λe=>(by cases e),rfl,rfl,List.Pairwise.nil,kD _,λx hx=>(by cases hx),λ_=>rfl,λhb=>?_,λy hy=>(by cases hy),λy hy=>(by cases hy),λx hx=>(by cases hx)⟩;have:∀j,j<3->ji af af af j=af:=aw;rw [show ji (dQ s b nn).x (dQ s b nn).y (dQ s b nn).z j=af from this j hj]at hb;cases hb
 match j,hj with
 |0,_=>exact r 0 rfl
 |1,_=>exact r 1 rfl
 |2,_=>exact r 2 rfl
abbrev HF(m me:Nat):List SV:= [.sl 1 0 m 1 af,.sl 2 0 me 1 af,.sl 3 0 32 1 ab,.u8 0,.u8 0,.u8 0,.u8 0,.u8 0,.u8 0,.u8 0,.u8 0,.u8 0,.u8 0,.u8 0,.u8 0,.u8 0,.u8 0,.u8 0,.u8 0,.u64 0,.sl 4 0 0 2 af,.u64 0,.sl 5 0 0 3 af,.mp 6,.mp 7]
theorem aa7(h:1<=s.toNat)(h2:s.toNat<=5)(b:Nat)(hb:b<=16)(nn:UInt8):aQ 11 [.u16 s,.i (b:Int),.u8 nn] [] (.p 0 0) [al (kg 1 2 3 4 5 6 7 ((dQ s b nn).tr 0).g ((dQ s b nn).tr 0).ep ((dQ s b nn).tr 0).now ((dQ s b nn).tr 0).ro.length ((dQ s b nn).tr 0).fr.length),ao 88 BX,ao 96 [.p 21 0,.p 23 0,.p 25 0],ao 4 (eW ((dQ s b nn).tr 0).x ((dQ s b nn).tr 0).y ((dQ s b nn).tr 0).z),ao 94 (aN ((dQ s b nn).tr 0).ro),ao 106 [],aa (.ext (.lit (.map #[] 0))),aa (.ext (.lit (.map #[] 0))),al [.u8 ((dQ s b nn).tr 0).nn],al [.fn 28 [.p 8 0]],al (((dQ s b nn).tr 0).A.m.c 11 9 12 ((dQ s b nn).tr 0).A.dv),ao 164 (aI ((dQ s b nn).tr 0).A.m.l),ao 94 (aN ((dQ s b nn).tr 0).A.m.ds),al [.fn 28 [.p 8 0]],al (((dQ s b nn).tr 0).B.m.c 15 13 16 ((dQ s b nn).tr 0).B.dv),ao 164 (aI ((dQ s b nn).tr 0).B.m.l),ao 94 (aN ((dQ s b nn).tr 0).B.m.ds),al [.fn 28 [.p 8 0]],al (((dQ s b nn).tr 0).C.m.c 19 17 20 ((dQ s b nn).tr 0).C.dv),ao 164 (aI ((dQ s b nn).tr 0).C.m.l),ao 94 (aN ((dQ s b nn).tr 0).C.m.ds),al (db 10 22 s b 0 .pnil),aa (.ext (.lit (.map #[] 0))),al (db 14 24 s b 0 .pnil),aa (.ext (.lit (.map #[] 0))),al (db 18 26 s b 0 .pnil),aa (.ext (.lit (.map #[] 0)))]:=by
 have q:=VC (KC h h2 hb nn []) (k:=0) aw (λe=>by cases e);refine aL (fn:=Tryz.f11) ?_;refine zp ?_;repeat(first|refine zN ⟨ag,aw⟩ ?_|refine aS ?_)
 refine zW (GJ rfl) ?_;refine zW (GJ rfl) ?_;refine zc ?_;refine bp.weak (R0:= [(0,.u16 s),(1,.i (b:Int)),(7,.p 0 0),(8,.fn 28 [.p 0 0]),(9,.p 4 0),(21,.i 0)]) (H0:= [al [.u8 nn],ao 4 (eW af af af),aa (.ext (.lit (.map #[] 0))),aa (.ext (.lit (.map #[] 0))),al [.slnil,.slnil,.sl 1 0 32 1 ab,.u8 0,.u8 0,.u8 0,.u8 0,.u8 0,.u8 0,.u8 0,.u8 0,.u8 0,.u8 0,.u8 0,.u8 0,.u8 0,.u8 0,.u8 0,.u8 0,.u64 0,.slnil,.u64 0,.slnil,.mp 2,.mp 3]]) (L0:=5) ?_ ?_
 .exact yH
 refine bp.weak (R0:= [(0,.u16 s),(1,.i (b:Int)),(7,.p 0 0),(8,.fn 28 [.p 0 0]),(9,.p 4 0),(21,.i 0)]) (H0:= [al [.u8 nn],ao 4 (eW af af af),aa (.ext (.lit (.map #[] 0))),aa (.ext (.lit (.map #[] 0))),al [.sl 5 0 0 1 af,.slnil,.sl 1 0 32 1 ab,.u8 0,.u8 0,.u8 0,.u8 0,.u8 0,.u8 0,.u8 0,.u8 0,.u8 0,.u8 0,.u8 0,.u8 0,.u8 0,.u8 0,.u8 0,.u8 0,.u64 0,.slnil,.u64 0,.slnil,.mp 2,.mp 3],ao 88 []]) (L0:=6) ?_ ?_
 .refine(cl.virtB 4 0 88 1 rfl rfl rfl rfl rfl).trans ?_;exact t7
 refine bp.weak (R0:= [(0,.u16 s),(1,.i (b:Int)),(7,.p 0 0),(8,.fn 28 [.p 0 0]),(9,.p 4 0),(21,.i 0)]) (H0:= [al [.u8 nn],ao 4 (eW af af af),aa (.ext (.lit (.map #[] 0))),aa (.ext (.lit (.map #[] 0))),al [.sl 5 0 0 1 af,.sl 6 0 0 1 af,.sl 1 0 32 1 ab,.u8 0,.u8 0,.u8 0,.u8 0,.u8 0,.u8 0,.u8 0,.u8 0,.u8 0,.u8 0,.u8 0,.u8 0,.u8 0,.u8 0,.u8 0,.u8 0,.u64 0,.slnil,.u64 0,.slnil,.mp 2,.mp 3],ao 88 [],ao 96 []]) (L0:=7) ?_ ?_
 .refine(cl.virtB 4 1 96 1 rfl rfl rfl rfl rfl).trans ?_;exact xp
 refine bp.weak (R0:= [(0,.u16 s),(1,.i (b:Int)),(7,.p 0 0),(8,.fn 28 [.p 0 0]),(9,.p 4 0),(21,.i 0)]) (H0:= [al [.u8 nn],ao 4 (eW af af af),aa (.ext (.lit (.map #[] 0))),aa (.ext (.lit (.map #[] 0))),al [.sl 5 0 0 1 af,.sl 6 0 0 1 af,.sl 1 0 32 1 ab,.u8 0,.u8 0,.u8 0,.u8 0,.u8 0,.u8 0,.u8 0,.u8 0,.u8 0,.u8 0,.u8 0,.u8 0,.u8 0,.u8 0,.u8 0,.u8 0,.u64 0,.sl 7 0 0 2 af,.u64 0,.slnil,.mp 2,.mp 3],ao 88 [],ao 96 [],ao 94 []]) (L0:=8) ?_ ?_
 .refine(cl.virtB 4 20 94 2 rfl rfl rfl rfl rfl).trans ?_;exact EE
 refine bp.weak (R0:= [(0,.u16 s),(1,.i (b:Int)),(7,.p 0 0),(8,.fn 28 [.p 0 0]),(9,.p 4 0),(21,.i 0)]) (H0:= [al [.u8 nn],ao 4 (eW af af af),aa (.ext (.lit (.map #[] 0))),aa (.ext (.lit (.map #[] 0))),al [.sl 5 0 0 1 af,.sl 6 0 0 1 af,.sl 1 0 32 1 ab,.u8 0,.u8 0,.u8 0,.u8 0,.u8 0,.u8 0,.u8 0,.u8 0,.u8 0,.u8 0,.u8 0,.u8 0,.u8 0,.u8 0,.u8 0,.u8 0,.u64 0,.sl 7 0 0 2 af,.u64 0,.sl 8 0 0 3 af,.mp 2,.mp 3],ao 88 [],ao 96 [],ao 94 [],ao 106 []]) (L0:=9) ?_ ?_
 .refine(cl.virtB 4 22 106 3 rfl rfl rfl rfl rfl).trans ?_;exact bL [0,1,2,3,4,5,6,7,8]
 refine fH (ι:={i:Nat//i<=3}) (λi=>match i.1 with|0=> [(0,.u16 s),(1,.i (b:Int)),(7,.p 8 0),(8,.fn 28 [.p 8 0]),(9,.p 0 0),(21,.i 0)]|1=> [(0,.u16 s),(1,.i (b:Int)),(7,.p 8 0),(8,.fn 28 [.p 8 0]),(9,.p 0 0),(21,.i 1)]|2=> [(0,.u16 s),(1,.i (b:Int)),(7,.p 8 0),(8,.fn 28 [.p 8 0]),(9,.p 0 0),(21,.i 2)]|_=> [(0,.u16 s),(1,.i (b:Int)),(7,.p 8 0),(8,.fn 28 [.p 8 0]),(9,.p 0 0),(21,.i 3)]) (λi=>match i.1 with|0=> [al (HF 0 0),ao 88 [],ao 96 [],ao 4 (eW af af af),ao 94 [],ao 106 [],aa (.ext (.lit (.map #[] 0))),aa (.ext (.lit (.map #[] 0))),al [.u8 nn]]|1=> [al (HF 1 1),ao 88 [.p 10 0],ao 96 [.p 13 0],ao 4 (eW af af af),ao 94 [],ao 106 [],aa (.ext (.lit (.map #[] 0))),aa (.ext (.lit (.map #[] 0))),al [.u8 nn],al [.fn 28 [.p 8 0]],al (bA 11 9 (.sl 12 0 0 2 af) 0 af 0 0 0),ao 164 [],ao 94 [],al (db 10 14 s b 0 .pnil),aa (.ext (.lit (.map #[] 0)))]|2=> [al (HF 2 2),ao 88 [.p 10 0,.p 14 0],ao 96 [.p 17 0,.p 19 0],ao 4 (eW af af af),ao 94 [],ao 106 [],aa (.ext (.lit (.map #[] 0))),aa (.ext (.lit (.map #[] 0))),al [.u8 nn],al [.fn 28 [.p 8 0]],al (bA 11 9 (.sl 12 0 0 2 af) 0 af 0 0 0),ao 164 [],ao 94 [],al [.fn 28 [.p 8 0]],al (bA 15 13 (.sl 16 0 0 2 af) 1 af 0 0 0),ao 164 [],ao 94 [],al (db 10 18 s b 0 .pnil),aa (.ext (.lit (.map #[] 0))),al (db 14 20 s b 0 .pnil),aa (.ext (.lit (.map #[] 0)))]|_=> [al (HF 3 3),ao 88 [.p 10 0,.p 14 0,.p 18 0],ao 96 [.p 21 0,.p 23 0,.p 25 0],ao 4 (eW af af af),ao 94 [],ao 106 [],aa (.ext (.lit (.map #[] 0))),aa (.ext (.lit (.map #[] 0))),al [.u8 nn],al [.fn 28 [.p 8 0]],al (bA 11 9 (.sl 12 0 0 2 af) 0 af 0 0 0),ao 164 [],ao 94 [],al [.fn 28 [.p 8 0]],al (bA 15 13 (.sl 16 0 0 2 af) 1 af 0 0 0),ao 164 [],ao 94 [],al [.fn 28 [.p 8 0]],al (bA 19 17 (.sl 20 0 0 2 af) 2 af 0 0 0),ao 164 [],ao 94 [],al (db 10 22 s b 0 .pnil),aa (.ext (.lit (.map #[] 0))),al (db 14 24 s b 0 .pnil),aa (.ext (.lit (.map #[] 0))),al (db 18 26 s b 0 .pnil),aa (.ext (.lit (.map #[] 0)))]) (λi=>match i.1 with|0=>9|1=>15|2=>21|_=>27) (λi=>3-i.1) ⟨0,ag⟩ ?_ ?_
 .dsimp only;exact bL [4,5,6,1,7,8,2,3,0]
 rintro⟨i,hi⟩;have h4:i=0\/i=1\/i=2\/i=3:=ag;rcases h4 with rfl|rfl|rfl|rfl
 .dsimp only;refine zL ?_;refine zW (dY [8] [an [.u8 nn],al [.fn 28 [.p 8 0]]] (.ifc 140 9 0) ((Kn nn))) ?_;refine zW (aE [] [] ab ((F0 0 ag))) ?_;refine zW (dY [9,8] [an [.fn 28 [.p 8 0]],an [.u8 nn],al (bA 12 9 (.sl 11 0 0 2 af) 0 af 0 0 0),ao 94 [],ao 164 []] (.p 10 0) ((Km nn 0))) ?_;refine zW (dY [10] [aa (.ext .nm),al (db 10 14 s b 0 .pnil),aa (.ext (.lit (.map #[] 0)))] (.tup [.p 13 0,.i 0]) ((Ko h h2 b hb))) ?_;refine zl ?_;refine xl ?_;exact bL [0,16,18,3,4,5,6,7,8,9,10,12,11,13,14]
 .dsimp only;refine zL ?_;refine zW (dY [8] [an [.u8 nn],al [.fn 28 [.p 8 0]]] (.ifc 140 15 0) ((Kn nn))) ?_;refine zW (aE [] [] ab ((F0 1 ag))) ?_;refine zW (dY [15,8] [an [.fn 28 [.p 8 0]],an [.u8 nn],al (bA 18 15 (.sl 17 0 0 2 af) 1 af 0 0 0),ao 94 [],ao 164 []] (.p 16 0) ((Km nn 1))) ?_;refine zW (dY [16] [aa (.ext .nm),al (db 16 20 s b 0 .pnil),aa (.ext (.lit (.map #[] 0)))] (.tup [.p 19 0,.i 0]) ((Ko h h2 b hb))) ?_;refine zl ?_;refine EC ?_;exact bL [0,22,24,3,4,5,6,7,8,9,10,11,12,15,16,18,17,13,14,19,20]
 .dsimp only;refine zL ?_;refine zW (dY [8] [an [.u8 nn],al [.fn 28 [.p 8 0]]] (.ifc 140 21 0) ((Kn nn))) ?_;refine zW (aE [] [] ab ((F0 2 ag))) ?_;refine zW (dY [21,8] [an [.fn 28 [.p 8 0]],an [.u8 nn],al (bA 24 21 (.sl 23 0 0 2 af) 2 af 0 0 0),ao 94 [],ao 164 []] (.p 22 0) ((Km nn 2))) ?_;refine zW (dY [22] [aa (.ext .nm),al (db 22 26 s b 0 .pnil),aa (.ext (.lit (.map #[] 0)))] (.tup [.p 25 0,.i 0]) ((Ko h h2 b hb))) ?_;refine zl ?_;refine Iv ?_;exact bL [0,28,30,3,4,5,6,7,8,9,10,11,12,13,14,15,16,21,22,24,23,17,18,19,20,25,26]
 .dsimp only;refine zL ?_;refine zW (dY [0,1,2,3,4,5,6,7,8,9,10,11,12,13,14,15,16,17,18,19,20] [al (kg 1 2 3 27 5 6 7 ((dQ s b nn).tr 0).g ((dQ s b nn).tr 0).ep ((dQ s b nn).tr 0).now ((dQ s b nn).tr 0).ro.length ((dQ s b nn).tr 0).fr.length),an BX,aa (.ext .nm),ao 4 (eW ((dQ s b nn).tr 0).x ((dQ s b nn).tr 0).y ((dQ s b nn).tr 0).z),aa (.ext .nm),aa (.ext .nm),aa (.ext .nm),aa (.ext .nm),al [.u8 ((dQ s b nn).tr 0).nn],an [.fn 28 [.p 8 0]],al (((dQ s b nn).tr 0).A.m.c 29 9 28 ((dQ s b nn).tr 0).A.dv),ah,ah,an [.fn 28 [.p 8 0]],al (((dQ s b nn).tr 0).B.m.c 31 13 30 ((dQ s b nn).tr 0).B.dv),ah,ah,an [.fn 28 [.p 8 0]],al (((dQ s b nn).tr 0).C.m.c 33 17 32 ((dQ s b nn).tr 0).C.dv),ah,ah,ao 94 (aN ((dQ s b nn).tr 0).ro),ao 94 (aN ((dQ s b nn).tr 0).A.m.ds),ao 164 (aI ((dQ s b nn).tr 0).A.m.l),ao 94 (aN ((dQ s b nn).tr 0).B.m.ds),ao 164 (aI ((dQ s b nn).tr 0).B.m.l),ao 94 (aN ((dQ s b nn).tr 0).C.m.ds),ao 164 (aI ((dQ s b nn).tr 0).C.m.l)] (.tup []) q) ?_;exact bE [0,1,2,3,27,5,6,7,8,9,10,29,28,13,14,31,30,17,18,33,32,21,22,23,24,25,26]
theorem OA(h:1<=s.toNat)(h2:s.toNat<=5)(b:Nat)(hb:b<=16)(nn:UInt8):aQ 11 [.u16 s,.i (b:Int),.u8 nn] [] (.p 0 0) (eG BX me0 ((dQ s b nn).tr 0) []):=by have q:=(((((((aa7 h h2 b hb nn).moreBox 0 rfl rfl).moreBox 0 rfl rfl).moreBox 0 rfl rfl).moreRow 5 rfl).moreRow 5 rfl).moreRow 5 rfl).moreAr rfl;refine q.fin [0,1,2,3,4,5,6,7,8,9,10,11,12,13,14,15,16,17,18,19,20,21,22,27,30,23,24,28,31,25,26,29,32,33] rfl rfl rfl ?_ rfl;exact bU
def Ds:Nat->UInt8
 |0=>0
 |1=>1
 |_=>2
def Ep:Nat->UInt8
 |0=>1
 |1=>0
 |2=>1
 |3=>1
 |_=>2
abbrev S0:St:=(dQ 4 4 9).tr 0
structure CN(S:St)(c:Pc)(u:Nat)(h0 ct:UInt64):Prop where
 fr:S.fr= [c]
 bx:S.x=ab
 by_:S.y=ab
 bz:S.z=af
 ht:fg c.b.2.2=aa (u,h0,ct)
def QS:Nat->St->Prop
 |0,S=>S=S0
 |1,S=>S=S0.tr 1
 |2,S=>∃c u e ct,CN S c u (aV (aP S.ep 0 (dN 0)) S.b 0) ct/\S.op= []/\S.B.R= []/\j6 S.ep e (dN 0)/\e=S.ep
 |3,S=>∃c u h0 ct,CN S c u h0 ct/\S.op.map iW= [jx ((1:Nat):Int) h0 ct]
 |4,S=>∃c u h0 ct,CN S c u h0 ct/\S.op.map iW= [jx ((1:Nat):Int) h0 ct]
 |_,S=>S.fr.length=1/\S.op.length=1
section
variable {S S2:St} {K:UInt64->List UInt8} {W:List (Nat×UInt64)} {E:List FE} {N:Nat}
theorem agl(S:St)(j:Nat)(R:List ij)(n:Nat)(V:List AE)(fs:List FE)(op:List pg)(oc:Nat):(S.opn j R n V fs op oc).fr=S.fr/\(S.opn j R n V fs op oc).x=S.x/\(S.opn j R n V fs op oc).y=S.y/\(S.opn j R n V fs op oc).z=S.z/\(S.opn j R n V fs op oc).op=op:=by
 unfold St.opn
 match j with|0=>exact⟨rfl,rfl,rfl,rfl,rfl⟩|1=>exact⟨rfl,rfl,rfl,rfl,rfl⟩|j+2=>exact⟨rfl,rfl,rfl,rfl,rfl⟩
theorem Ly{c:Pc}{u:Nat}{h0 ct:UInt64}{j:Nat}(q:CN S c u h0 ct)(Z:(S2=S/\S.fr= [])\/∃c,c∈S.fr/\Bi S K W E N j c af S2)(h:cV S K W E N):CN S2 c u h0 ct/\∃e d g F R n V fs op,j6 S.ep e d/\g.toNat<2^S.b/\aV (aP e 0 d) S.b g=h0/\tf S K W E N j (aP e 0 d) g h0 ct ab F R n V fs/\((F=0/\op=S.op++ [(jx (j:Int) h0 ct,S.oc)])\/(F≠0/\op=S.op))/\S2.op=op:=by
 rcases Z with⟨_,h0⟩|⟨G,hc,e,d,g,r,F,R,n,V,fs,op,oc,g1,g2,g3,o,ho,rfl⟩
 .rw [q.fr]at h0;cases h0
 .rw [q.fr]at hc;simp only [lx]at hc;subst hc;have ht:=q.ht;rw [g3]at ht;have h2:=BJ (aV (aP e 0 d) S.b g) r (mA S.s (dR S.s (aV (aP e 0 d) S.b g) (dp S.s (K (aP e 0 d)) g.toNat)) (bf (dP S.s (aV (aP e 0 d) S.b g) (dp S.s (K (aP e 0 d)) g.toNat)) r) (bF (aV (aP e 0 d) S.b g) r) G.t.2.2);have h3:aa ((bF (aV (aP e 0 d) S.b g) r).length,aV (aP e 0 d) S.b g,r)=aa (u,h0,ct):=h2.symm.trans ht;simp only [Option.some.injEq,Prod.mk.injEq]at h3;obtain⟨_,e2,e3⟩:=h3;subst e2 e3;obtain⟨s1,s2,I,O,U⟩:=agl S j R n V fs op oc;exact⟨⟨by rw [s1];exact q.fr,by rw [s2];exact q.bx,by rw [I];exact q.by_,by rw [O];exact q.bz,q.ht⟩,e,d,g,F,R,n,V,fs,op,g1,g2,rfl,o,ho.imp (λ⟨a,b,_⟩=>⟨a,b⟩) (λ⟨a,b,_⟩=>⟨a,b⟩),U⟩
theorem ag5{i:Nat}(hi:i<5)(hq:QS i S)(h:cV S K W E N)(F:CO S K W E N (Ds i) ((Ep i).toNat%3) S2):QS (i+1) S2:=by
 match i,hi with
 |0,_=>show S2=_;rw [F.s0 rfl,show S=S0 from hq];rfl
 |1,_=>
  have hq:S=S0.tr 1:=hq;have hb:ji S.x S.y S.z 0=ab:=by rw [hq];rfl
  obtain⟨x,pF,Z,x1,x2,e,ht⟩:=F.s1 rfl hb;have hz:(S.pt 0).z=ah:=by rw [hq];rfl
  have kj:=h.kj aw x1;rw [show(Ep 1).toNat%3=0 from rfl]at x1 x2 e ht;rw [hz,x2]at ht;obtain⟨u,ct,ht⟩:∃u ct,fg pF.2.2=aa (u,aV (aP S.ep 0 (dN 0)) S.b 0,ct):=⟨_,_,ht⟩;refine⟨⟨0,pF,Z⟩,u,S.ep,ct,⟨?_,?_,?_,?_,?_⟩,?_,?_,?_,?_⟩
  .rw [e,hq];rfl
  .rw [e,hq];rfl
  .rw [e,hq];rfl
  .rw [e,hq];rfl
  .rw [e];exact ht
  .rw [e,hq];rfl
  .rw [e,hq];rfl
  .rw [e];exact kj
  .rw [e];rfl
 |2,_=>
  obtain⟨c,u,e,ct,q,r,hR,U,rfl⟩:=hq;obtain⟨q2,e,d,g,O,R,n,V,fs,op,g1,g2,g3,o,ho,h5⟩:=Ly q (F.s2 rfl) h;refine⟨c,u,_,ct,q2,?_⟩;have k0:=h.el U;have k1:=h.el g1;obtain⟨e1,e2⟩:=BN h.sb k1.2.2 g2 k0.2.2 (by have:=(Ay h.sb).1;simpa using this) g3;have hb:ji S.x S.y S.z 1=ab:=by rw [q.bx,q.by_,q.bz];rfl
  have I:ji S.x S.y S.z 0=ab:=by rw [q.bx,q.by_,q.bz];rfl
  obtain⟨x,x1,x2,_⟩:=(h.pt 1 aw).own hb 0 aw I;have he:=o.fresh rfl e2 (by show nT S.B.R _=ah;rw [hR];rfl) ⟨x,x1,by rw [x2,e1]⟩;rcases ho with⟨_,ho⟩|⟨hne,_⟩
  .rw [h5,ho,r];rfl
  .exact absurd he hne
 |3,_=>
  obtain⟨c,u,h0,ct,q,r⟩:=hq;obtain⟨q2,e,d,g,O,R,n,V,fs,op,g1,g2,g3,o,ho,h5⟩:=Ly q (F.s2 rfl) h;refine⟨c,u,_,ct,q2,?_⟩;rcases ho with⟨G,ho⟩|⟨hne,ho⟩
  .exact absurd (by unfold oK;rw [r];exact lx.2 rfl) (o.ok G).2.1
  .rw [h5,ho];exact r
 |4,_=>
  obtain⟨c,u,h0,ct,q,r⟩:=hq;obtain⟨q2,e,d,g,O,R,n,V,fs,op,g1,g2,g3,o,ho,h5⟩:=Ly q (F.s2 rfl) h;refine⟨by rw [q2.fr];rfl,?_⟩;have hl:(S.pt 2).m.l= []:=(h.pt 2 aw).out (by rw [q.bx,q.by_,q.bz];rfl);have hne:=o.gone (λx hx=>by
   have:x∈(S.pt 2).m.l:=hx;rw [hl]at this;cases this)
  rcases ho with⟨G,_⟩|⟨_,ho⟩
  .exact absurd G hne
  .rw [h5,ho];have:=congrArg List.length r;exact pK
end
end Go.Sh
namespace Go.Sh
theorem bp.toFamC{P:Program}{M:Option Nat->Prop}{N A0:Nat}{c:Code}{Q:Exit->RL->HL->Nat->Prop}{R:RL}{H:HL}{L:Nat}(q k j:Nat){t:Nat}{l:List SV}{d:List UInt8}{f:Bool}(hq:hk H q=aa (.row t l))(hx:l[k]?=aa (.sl j 0 d.length 1 f))(hj:hk H j=aa (.row 5 (d.map .u8)))(h9:q≠j)(h:∀p1:cC,p1.2.2=d->bp P M N A0 c Q R (eX H [(q,aa (.row t (l.set k (.lit p1.1)))),(j,aa (.ext (.fam [aX p1])))]) L):bp P M N A0 c Q R H L:=by
 refine⟨λr n B' ρ a w hM hs hl=>?_⟩;have F:=hq;have G:=hj;rw [kJ]at F G;obtain⟨O,qr,qb⟩:=hs.heap q _ F;obtain⟨I,jr,jb⟩:=hs.heap j _ G;rcases qb with⟨_,h7⟩|⟨qv,cs,fz,g1,g2,g3,g4,g5,g6⟩
 .rw [h7]at hx;cases hx
 obtain⟨v,hv,V⟩:=g5.get hx;obtain⟨z1,z2,z3⟩:=Df V jr jb (.inr rfl);obtain⟨p1,hp1⟩:∃p1:cC,p1=(v,I,d):=⟨_,rfl⟩;rw [<-hp1]at z1 z3;have hg2:∀id,hg (eX H [(q,aa (.row t (l.set k (.lit p1.1)))),(j,aa (.ext (.fam [aX p1])))]) id=if id=q then aa (.row t (l.set k (.lit p1.1)))else if id=j then aa (.ext (.fam [aX p1]))else hg H id:=λid=>by
  rw [mK];unfold jX;simp only [gJ,vB];by_cases h1:id=q
  .subst h1;simp
  .have e1:(id==q)=af:=lv;rw [e1,if_neg h1];by_cases h2:id=j
   .subst h2;simp
   .have e2:(id==j)=af:=mY;rw [e2,if_neg h2]
 have u:∀{id b r},hg (eX H [(q,aa (.row t (l.set k (.lit p1.1)))),(j,aa (.ext (.fam [aX p1])))]) id=aa b->ρ id=aa r->∃U,hg H id=aa U/\(b.own=ab->U.own=ab)/\∀kk o,foot r b kk o->foot r U kk o:=fun{id b r} hb hr=>by
  rw [hg2]at hb;by_cases h1:id=q
  .rw [if_pos h1]at hb;cases hb;subst h1;exact⟨_,F,λ_=>rfl,λkk o hf=>hf⟩
  .rw [if_neg h1]at hb;by_cases h2:id=j
   .rw [if_pos h2]at hb;cases hb;subst h2;rw [jr]at hr;cases hr;exact⟨_,G,λ_=>rfl,λkk o hf=>z3 I kk o hf⟩
   .rw [if_neg h2]at hb;exact⟨b,hb,λh=>h,λ_ _ h=>h⟩
 have hS:dO N B' L ρ (rg R) (hg (eX H [(q,aa (.row t (l.set k (.lit p1.1)))),(j,aa (.ext (.fam [aX p1])))])) a w:=by
  refine⟨hs.size,hs.regs,?_,?_,hs.fresh,hs.dfr⟩
  .intro id b hb;rw [hg2]at hb;by_cases h1:id=q
   .rw [if_pos h1]at hb;cases hb;subst h1;refine⟨O,qr,.inr ⟨qv,cs,fz,g1,g2,g3,Jh g4 rfl,?_,by rw [fJ];exact g6⟩⟩;rw [fJ];have h2:=g5.set (k:=k) (x:= .lit p1.1) (v:=v) (by simp only [av];exact⟨by rw [hp1],by rw [hp1];exact z2⟩);have e:((cs.toList.drop O.off).take l.length).set k v=(cs.toList.drop O.off).take l.length:=by
     apply ku;intro i;rw [pQ];by_cases hi:k=i
     .subst hi;rw [if_pos rfl,if_pos (dA.1 hv).1,hv]
     .rw [if_neg hi]
    rwa [e]at h2
   .rw [if_neg h1]at hb;by_cases h2:id=j
    .rw [if_pos h2]at hb;cases hb;subst h2;exact⟨I,jr,λe he=>by simp only [lx]at he;subst he;exact z1⟩
    .rw [if_neg h2]at hb;exact hs.heap id b hb
  .intro i k2 bi bk ri rk hne hi hk hri hrk hw kk o ⟨f1,f2⟩;obtain⟨Z,i1,i2,i3⟩:=u hi hri;obtain⟨U,j1,j2,j3⟩:=u hk hrk;exact hs.sep i k2 Z U ri rk hne i1 j1 hri hrk (i2 hw) kk o ⟨i3 _ _ f1,j3 _ _ f2⟩
 refine wpIn_mono ((h p1 (by rw [hp1])).run r n B' ρ a w hM hS (pw hl (λid ob hm=>?_))) ?_
 .simp only [gy,List.mem_nil_iff,or_false,Prod.mk.injEq]at hm;rcases hm with⟨rfl,_⟩|⟨rfl,_⟩
  .exact gn hl hq
  .exact gn hl hj
 .rintro e a2 w2 ⟨R2,H2,L2,ρ2,F,hl2,h8,h6⟩;refine⟨R2,H2,L2,ρ2,F,hl2,h8,fT.trans ⟨λ_ _ _ h=>h,Fr.refl _ _,λkk o ho=> .inl ?_⟩ h6⟩;obtain⟨id,b,rb,q1,q2,q3,q4⟩:=ho;obtain⟨Z,i1,i2,i3⟩:=u q1 q2;exact⟨id,Z,rb,i1,q2,i2 q3,i3 _ _ q4⟩
open Go.Proofs
abbrev L8(v:SV):List SV:= [.u8 0,.u8 1,.i 0,.i 0,.slnil,.u8 1,.u8 0,.i 0,.i 0,v,.u8 2,.u8 1,.i 0,.i 0,.slnil,.u8 2,.u8 1,.i 0,.i 0,.slnil,.u8 2,.u8 2,.i 0,.i 0,.slnil]
def xS(v:SV):Nat->SV
 |1=>v
 |_=> .slnil
theorem ah0(v:SV){i k:Nat}(hi:i<5)(hk:k=i*5):dz ab 5 (L8 v) k=aa (.agg [.u8 (Ds i),.u8 (Ep i),.i 0,.i 0,xS v i]):=by
 subst hk
 match i,hi with|0,_=>rfl|1,_=>rfl|2,_=>rfl|3,_=>rfl|4,_=>rfl
theorem aiR:aQ 4 [] [] (.b ab) []:=by
 refine aL (fn:=Tryz.f4) ?_;refine zE ?_;refine zW (mn (J:= [7]) dw fq bD) ?_;refine oN [] (eG (cF 0) (cE 0) S0 []) (.p 0 0) (OA (s:=4) aw aw 4 aw 9) rfl rfl ⟨⟨rfl,rfl⟩,trivial,?_,rfl,?_⟩
 .exact zo
 refine zL ?_;refine bp.weak (R0:= [(0,.b af),(1,.p 0 0),(14,.sl 35 0 5 5 ab),(15,.i 5),(16,.i 0)]) (H0:=eG (cF 0) (cE 0) S0 [aC 5 ([115,101,101,110]:List UInt8),ao 42 (L8 (.sl 34 0 ([115,101,101,110]:List UInt8).length 1 ab))]) (L0:=36) ?_ ?_
 .exact zD
 refine bp.toFamC (d:= [115,101,101,110]) 35 9 34 rfl rfl rfl aw ?_;intro p hp;have hE:aX p∈ [aX p]:=lx.2 rfl;refine Gt [7] dw fq bD (ι:={x:Nat×St//x.1<=5/\QS x.1 x.2/\(∃K W,cV x.2 K W [aX p] (x.1+1))/\x.2.ep≠0}) (λx=> [(0,.b af),(1,.p 0 0),(14,.sl 35 0 5 5 ab),(15,.i 5),(16,.i (x.1.1:Int))]) (λx=>eG (cF 0) (cE 0) x.1.2 [aa (.ext (.fam [aX p])),ao 42 (L8 (.lit p.1))]) (λ_=>36) (λx=>5-x.1.1) ⟨(0,S0),aw,rfl,⟨_,_,KE (KC aw aw aw 9 [aX p]) aw aw⟩,aw⟩ ?_ ?_
 .dsimp only;exact zD
 rintro⟨⟨i,S⟩,hi,hq,⟨K,W,F⟩,he⟩;dsimp only at hi hq F he|-;by_cases hil:i<5
 .have e1:decide ((i:Int)<5)=ab:=EG;have ew:au ((i:Int)+1)=((i+1:Nat):Int):=cp;have u:iG (xS (.lit p.1) i)=ab:=by unfold xS;split<;>rfl
  have q:=Pe F he ag (Ds i) (Ep i) 0 0 aw (xB:=xS (.lit p.1) i) (by unfold xS;split<;>rfl) (λhk=>⟨p,by
   have:∀i,i<5->Ds i=1->i=1:=aw;rw [this i hil hk];rfl,hE,by rw [hp];decide⟩)
  conv=>whnf
  repeat(first|refine zH (df rfl az) ?_|refine zW (bl e1) ?_|refine zH (ah0 _ hil aq) ?_|refine aS ?_)
  refine wu rfl ?_;refine zW (wo (pre:= [_,_]) dw bD) ?_;refine yl ?_;refine HC (zs:= [.p 0 0,.agg [.u8 (Ds i),.u8 (Ep i),.i 0,.i 0,xS (.lit p.1) i]]) (caps:= []) [0,1,2,3,4,5,6,7,8,9,10,11,12,13,14,15,16,17,18,19,20,21,22,23,24,25,26,27,28,29,30,31,32,33,34] bD q rfl rfl rfl rfl rfl ?_ rfl ?_ rfl ?_
  .simp only [bu,bG,wc _ u];rfl
  .exact bU
  rintro ret H1 ⟨rfl,S2,⟨U,⟨I,O,G⟩,r⟩,rfl⟩;refine⟨(og 37 38 39 40 41 42 43 44 45 46 47 48 49 50 (cF 0) (cE 0) S2 [aa (.ext (.fam [aX p])),ao 94 (aN S2.ro),ao 106 (i5 S2.fr),ao 164 (aI S2.A.m.l),ao 94 (aN S2.A.m.ds),ao 164 (aI S2.B.m.l),ao 94 (aN S2.B.m.ds),ao 164 (aI S2.C.m.l),ao 94 (aN S2.C.m.ds),al (cT S2.s S2.b 46 S2.A.z),aC 5 (dG S2.A.z),al (cT S2.s S2.b 48 S2.B.z),aC 5 (dG S2.B.z),al (cT S2.s S2.b 50 S2.C.z),aC 5 (dG S2.C.z)]),.b ab,?_,rfl,?_⟩
  .exact bU
  refine y8 ?_;refine zc ?_;refine⟨⟨(i+1,S2),by dsimp only;omega,ag5 hil hq F U,⟨I,O,G⟩,r⟩,by dsimp only;omega,?_⟩;dsimp only;refine bP [0,1,2,3,37,38,6,7,8,9,10,39,40,13,14,41,42,17,18,43,44,21,22,45,46,25,26,47,48,29,30,49,50,33,34,35] ?_ ?_
  ·(repeat'(first|exact trivial|refine aJ ?_ ?_|fail))<;>first|rfl|exact dh ag|fail
  .exact bU
 .have e1:decide ((i:Int)<5)=af:=ox;obtain rfl:i=5:=ag;have h1:((S.fr.length:Int)==1)=ab:=by rw [hq.1];rfl
  have h2:((S.op.length:Int)==1)=ab:=by rw [hq.2];rfl
  conv=>whnf
  repeat(first|refine zW (cO e1) ?_|refine zW (bl h1) ?_|refine zf ?_)
  refine zW (afB 6 rfl (by kernel_rfl:Tryz.prog.underlying 54=aa (.map 161 103)) rfl rfl) ?_;repeat(first|refine zW (bl h1) ?_|refine zW (iN h1) ?_)
  refine⟨[],?_,rfl,rfl,?_,rfl⟩
  ·(repeat'(fail))<;>first|exact AT (by exact h2.symm)|fail
  .exact zo
attribute [local irreducible] cS dF fD fZ
theorem Z8(b:List UInt8)(hb:b.length<10000000000000)(f:Bool):aM 65 [.u8 1,.slnil,.sl 1 0 b.length 1 f] [ak b,ak b] (.sl 2 0 32 1 af) [aC 5 (cS [] b)]:=
 bV.nil [.u8 1] ((FO [] b aw hb ab f).sub 0 0 (b.map .u8) [] 3 rfl rfl rfl (cY _) rfl aw ⟨.inr ⟨rfl,rfl⟩,.inl rfl,.inr ⟨rfl,rfl⟩,trivial⟩ rfl ⟨.inl rfl,.inr (.inl bI),trivial⟩ ⟨.inl rfl,.inr (.inl bI),.inr (.inl bI),trivial⟩) rfl
theorem Z9(b:List UInt8)(hb:b.length<10000000000000)(f:Bool):aM 65 [.u8 2,.slnil,.sl 1 0 b.length 1 f] [ak b,ak b] (.sl 2 0 64 1 af) [aC 5 (dF [] b)]:=
 bV.nil [.u8 2] ((JY [] b aw hb ab f).sub 0 0 (b.map .u8) [] 3 rfl rfl rfl (cY _) rfl aw ⟨.inr ⟨rfl,rfl⟩,.inl rfl,.inr ⟨rfl,rfl⟩,trivial⟩ rfl ⟨.inl rfl,.inr (.inl bI),trivial⟩ ⟨.inl rfl,.inr (.inl bI),.inr (.inl bI),trivial⟩) rfl
theorem PH(K:UInt16)(A B C:Nat)(q69:aQ 26 [.u16 K] [] (.sl 0 0 5 1 ab) [ao 3 [.i 1,.i (A:Int),.i (B:Int),.i (C:Int),.i 32]])(b T:List UInt8)(h1:b.length<=1024)(hT:T.length<10000)(n:Nat)(r:1<=n)(hn:n<=8160)(f ft:Bool):aM 24 [.u16 K,.sl 0 0 b.length 1 f,.sl 1 0 T.length 1 ft,.i (n:Int)] [ak b,ak T] (.sl 2 0 n 1 af) [aC 5 (fD (cS [] b) T ((n+(32-1))/32))]:=by have q:=Z8 b ag f;have l:=tI [] b;have q2:=aam (cS [] b) T ag ag n r hn af ft;rw [l]at q2;have l2:=pY (cS [] b) T ((n+(32-1))/32);obtain⟨X,hX⟩:=ax (cS [] b);rw [<-hX]at q q2 l l2|-;obtain⟨Y,hY⟩:=ax (fD X T ((n+(32-1))/32));rw [<-hY]at q2 l2|-;clear hX hY;exact xy
theorem FU(K:UInt16)(A B C:Nat)(q69:aQ 26 [.u16 K] [] (.sl 0 0 5 1 ab) [ao 3 [.i 1,.i (A:Int),.i (B:Int),.i (C:Int),.i 32]])(hA:1<=A)(F:A<=48)(b:List UInt8)(h1:b.length<=1024)(f:Bool)(kid:UInt64):aM 8 [.u16 K,.sl 0 0 b.length 1 f,.u64 kid] [ak b] (.sl 1 0 A 1 af) [aC 5 (fD (cS [] b) (dL iE kid K) ((A+(32-1))/32))]:=by have p1:=f118 iE aw kid K;have i1:=vQ iE kid K;have q2:=PH K A B C q69 b (dL iE kid K) h1 CF A hA ag f af;rw [i1]at q2;obtain⟨u,r⟩:=ax (dL iE kid K);rw [<-r]at p1 q2 i1|-;obtain⟨Y,hY⟩:=ax (fD (cS [] b) u ((A+(32-1))/32));rw [<-hY]at q2|-;clear r hY;exact xG
theorem FT(K:UInt16)(A B C:Nat)(q69:aQ 26 [.u16 K] [] (.sl 0 0 5 1 ab) [ao 3 [.i 1,.i (A:Int),.i (B:Int),.i (C:Int),.i 32]])(b:List UInt8)(h1:b.length<=1024)(f:Bool)(kid:UInt64):aM 9 [.u16 K,.sl 0 0 b.length 1 f,.u64 kid] [ak b] (.sl 1 0 12 1 af) [aC 5 (fD (cS [] b) (dL ia kid K) 1)]:=by have p1:=f118 ia aw kid K;have i1:=vQ ia kid K;have q2:=PH K A B C q69 b (dL ia kid K) h1 CF 12 aw aw f af;rw [show fD (cS [] b) (dL ia kid K) ((12+(32-1))/32)=fD (cS [] b) (dL ia kid K) 1 from rfl,i1]at q2;obtain⟨u,r⟩:=ax (dL ia kid K);rw [<-r]at p1 q2 i1|-;obtain⟨Y,hY⟩:=ax (fD (cS [] b) u 1);rw [<-hY]at q2|-;clear r hY;exact WA
theorem PI(K:UInt16)(A B C:Nat)(q69:aQ 26 [.u16 K] [] (.sl 0 0 5 1 ab) [ao 3 [.i 2,.i (A:Int),.i (B:Int),.i (C:Int),.i 64]])(b T:List UInt8)(h1:b.length<=1024)(hT:T.length<10000)(n:Nat)(r:1<=n)(hn:n<=16320)(f ft:Bool):aM 24 [.u16 K,.sl 0 0 b.length 1 f,.sl 1 0 T.length 1 ft,.i (n:Int)] [ak b,ak T] (.sl 2 0 n 1 af) [aC 5 (fZ (dF [] b) T ((n+(64-1))/64))]:=by have q:=Z9 b ag f;have l:=BT [] b;have q2:=aan (dF [] b) T ag ag n r hn af ft;rw [l]at q2;have l2:=tz (dF [] b) T ((n+(64-1))/64);obtain⟨X,hX⟩:=ax (dF [] b);rw [<-hX]at q q2 l l2|-;obtain⟨Y,hY⟩:=ax (fZ X T ((n+(64-1))/64));rw [<-hY]at q2 l2|-;clear hX hY;exact xy
theorem aaE(K:UInt16)(A B C:Nat)(q69:aQ 26 [.u16 K] [] (.sl 0 0 5 1 ab) [ao 3 [.i 2,.i (A:Int),.i (B:Int),.i (C:Int),.i 64]])(hA:1<=A)(F:A<=48)(b:List UInt8)(h1:b.length<=1024)(f:Bool)(kid:UInt64):aM 8 [.u16 K,.sl 0 0 b.length 1 f,.u64 kid] [ak b] (.sl 1 0 A 1 af) [aC 5 (fZ (dF [] b) (dL iE kid K) ((A+(64-1))/64))]:=by have p1:=f118 iE aw kid K;have i1:=vQ iE kid K;have q2:=PI K A B C q69 b (dL iE kid K) h1 CF A hA ag f af;rw [i1]at q2;obtain⟨u,r⟩:=ax (dL iE kid K);rw [<-r]at p1 q2 i1|-;obtain⟨Y,hY⟩:=ax (fZ (dF [] b) u ((A+(64-1))/64));rw [<-hY]at q2|-;clear r hY;exact xG
theorem aaD(K:UInt16)(A B C:Nat)(q69:aQ 26 [.u16 K] [] (.sl 0 0 5 1 ab) [ao 3 [.i 2,.i (A:Int),.i (B:Int),.i (C:Int),.i 64]])(b:List UInt8)(h1:b.length<=1024)(f:Bool)(kid:UInt64):aM 9 [.u16 K,.sl 0 0 b.length 1 f,.u64 kid] [ak b] (.sl 1 0 12 1 af) [aC 5 (fZ (dF [] b) (dL ia kid K) 1)]:=by have p1:=f118 ia aw kid K;have i1:=vQ ia kid K;have q2:=PI K A B C q69 b (dL ia kid K) h1 CF 12 aw aw f af;rw [show fZ (dF [] b) (dL ia kid K) ((12+(64-1))/64)=fZ (dF [] b) (dL ia kid K) 1 from rfl,i1]at q2;obtain⟨u,r⟩:=ax (dL ia kid K);rw [<-r]at p1 q2 i1|-;obtain⟨Y,hY⟩:=ax (fZ (dF [] b) u 1);rw [<-hY]at q2|-;clear r hY;exact WA
end Go.Sh
namespace Go.Sh
open Go.Proofs
variable{s:UInt16}
theorem Zd(h:1<=s.toNat)(h2:s.toNat<=5)(b:List UInt8)(h0:0<b.length)(h1:b.length<=1024)(f:Bool)(kid:UInt64):aM 5 [.u16 s,.sl 0 0 b.length 1 f,.u64 kid] [aa (.ro (b.map .u8))] (.tup [.agg (.u16 s:: .u64 kid:: .sl 1 0 (gT s) 1 ab::(dP s kid b).map .u8),.i 0]) [aa (.row 5 ((dR s kid b).map .u8))]:=by have q:=(Jy h h2 b h0 h1 f kid).short 1 5 (gT s) rfl;unfold dR;rw [iU];exact q
theorem ahz(h:1<=s.toNat)(h2:s.toNat<=5)(b:List UInt8)(h1:b.length<=1024)(f:Bool)(kid:UInt64):aM 8 [.u16 s,.sl 0 0 b.length 1 f,.u64 kid] [aa (.ro (b.map .u8))] (.sl 1 0 (gT s) 1 af) [aa (.row 5 ((dR s kid b).map .u8))]:=by
 unfold dR;rw [iU];rcases qG h h2 with rfl|rfl|rfl|rfl|rfl
 .exact(FU 1 48 16 10 J2 aw aw b h1 f kid).short 1 5 48 rfl
 .exact(FU 2 48 16 8 J3 aw aw b h1 f kid).short 1 5 48 rfl
 .exact(FU 3 48 16 4 J4 aw aw b h1 f kid).short 1 5 48 rfl
 .exact(FU 4 16 16 16 J5 aw aw b h1 f kid).short 1 5 16 rfl
 .exact(aaE 5 32 32 16 J6 aw aw b h1 f kid).short 1 5 32 rfl
theorem ah6(h:1<=s.toNat)(h2:s.toNat<=5)(b:List UInt8)(h1:b.length<=1024)(f:Bool)(kid:UInt64):aM 9 [.u16 s,.sl 0 0 b.length 1 f,.u64 kid] [ak b] (.sl 1 0 12 1 af) [aC 5 (dP s kid b)]:=by
 rcases qG h h2 with rfl|rfl|rfl|rfl|rfl
 .have q:=(FT 1 48 16 10 J2 b h1 f kid).short 1 5 12 rfl;rw [<-iU]at q;exact q
 .have q:=(FT 2 48 16 8 J3 b h1 f kid).short 1 5 12 rfl;rw [<-iU]at q;exact q
 .have q:=(FT 3 48 16 4 J4 b h1 f kid).short 1 5 12 rfl;rw [<-iU]at q;exact q
 .have q:=(FT 4 16 16 16 J5 b h1 f kid).short 1 5 12 rfl;rw [<-iU]at q;exact q
 .have q:=(aaD 5 32 32 16 J6 b h1 f kid).short 1 5 12 rfl;rw [<-iU]at q;exact q
end Go.Sh
namespace Go.Sh
open Go.ChangeShapes Go.WideShapes Go.ChangeAt Go.RowKit
structure Dr where
 k:UInt8
 n:Int
 v:Value
 rb:RB
 l:List UInt32
 x:UInt32
def Pf(d:Dr):List SV:= [.u8 d.k,.i d.n,.lit d.v,.u32 d.x]
def Pg(ds:List Dr):List SV:=(ds.map Pf).flatten
@[simp] theorem ak6(ds:List Dr):bJ (Pg ds)=ab:=by
 induction ds with
 |nil=>rfl
 |cons d ds ih=>show bJ (Pf d++Pg ds)=ab;rw [DH,ih];rfl
section
variable {H:Type} {enc:TypeId×Value->H} {P:Program} {w:World} {base:Nat} {held:Bool}
def HG(P:Program)(t:TypeId):Option (List (TypeId×Nat)):=match P.underlying t with
 |some (.struct fs)=>aa (fs.toList.map λf=>(f.type,f.offset))
 |_=>ah
theorem ajr{t:TypeId}{l:List (TypeId×Nat)}(h:HG P t=aa l):∃fs:Array Field,P.underlying t=aa (.struct fs)/\fs.toList.map (λf=>(f.type,f.offset))=l:=by
 unfold HG at h;split at h
 .rename_i fs hf;exact⟨fs,hf,kV⟩
 .cases h
end
structure Sw where
 k:UInt8
 w:UInt8
 n:Int
 bt:Int
 p:cC
def oh(d:Sw):List SV:= [.u8 d.k,.u8 d.w,.i d.n,.i d.bt,.lit d.p.1]
def nD(ds:List Sw):List SV:=(ds.map oh).flatten
theorem ajz(ds:List Sw):(nD ds).length=ds.length*5:=by
 induction ds with
 |nil=>rfl
 |cons d ds ih=>show(oh d++nD ds).length=_;rw [aW,ih];simp [oh];omega
theorem TJ(ds:List Sw):cw (nD ds)=ab:=by
 induction ds with
 |nil=>rfl
 |cons d ds ih=>show cw (oh d++nD ds)=ab;unfold cw at ih|-;rw [uf,ih];rfl
theorem ajA(ds:List Sw):bJ (nD ds)=ab:=by
 induction ds with
 |nil=>rfl
 |cons d ds ih=>show bJ (oh d++nD ds)=ab;rw [DH,ih];rfl
theorem ajB(ds:List Sw)(d:Sw):nD (ds++ [d])=nD ds++oh d:=by unfold nD;simp
theorem ajy{ds:List Sw}:∀{i:Nat} {d:Sw},ds[i]?=aa d->((nD ds).drop (i*5)).take 5=oh d:=by
 induction ds with
 |nil=>intro i d h;simp at h
 |cons a ds ih=>
  intro i d h;show((oh a++nD ds).drop (i*5)).take 5=_
  cases i with
  |zero=>simp at h;subst h;simp [oh]
  |succ i=>
   rw [show(i+1)*5=(oh a).length+i*5 by simp [oh];omega,<-ng,qP];exact ih kV
theorem ai3{ds:List Sw}{i k:Nat}{d:Sw}(h:ds[i]?=aa d)(hk:k=i*5):dz ab 5 (nD ds) k=aa (.agg (oh d)):=by subst hk;have hl:=ajz ds;have hi:i<ds.length:=(dA.1 h).1;simp only [dz,if_true];rw [if_pos ag,ajy h]
section
variable {H:Type} {enc:TypeId×Value->H} {P:Program} {w:World} {base:Nat} {held:Bool}
theorem agi{d F:Nat}{e e2 u t2 Z:TypeId}{cs:List Value}{x:DataW H×List MemPlace}(hS:HG P e=aa [(u,0),(u,1),(t2,2),(t2,3),(Z,4)])(hs:dq P e=aa 5)(r:ir P d u=aa [1])(I:P.underlying t2=aa (.int .i64))(x5:dq P t2=aa 1)(x7:P.underlying Z=aa (.slice e2))(h8:ir P d e2=aa [1])(x6:dq P Z=aa 1)(h:DataW.trod enc P w base (λ_=>ab) held F e cs=aa x):∃dd:Sw,(dd.bt<9223372036854775808/\jQ w (aX dd.p))/\∀ρ,aD ρ (oh dd) cs:=by
 obtain⟨fs,hu,hfs⟩:=ajr hS;obtain⟨xs,n,rfl,rfl,G,hxl,hf⟩:=DataW.trod_struct hu h;rw [tP hs]at G;have hfl:fs.size=5:=by have:=congrArg List.length hfs;simpa using this
 have get:∀(i:Nat) (t:TypeId) (o:Nat),[(u,0),(u,1),(t2,2),(t2,3),(Z,4)][i]?=aa (t,o)->∃y,DataW.trod enc P w base (λ_=>ab) held n t ((cs.drop o).take (P.cellsOf t))=aa y:=by
  intro i t o hi;rw [<-hfs,ky,lU]at hi;cases hfi:fs[i]? with
  |none=>rw [hfi]at hi;simp at hi
  |some f=>
   rw [hfi]at hi;simp only [nq,Option.some.injEq,Prod.mk.injEq]at hi;have hlt:i<fs.size:=(jL.1 hfi).1;have h2:=hf i f hfi;rw [dy (by omega:i<xs.length)]at h2;rw [hi.1,hi.2]at h2;exact⟨_,h2⟩
 obtain⟨y0,r0⟩:=get 0 u 0 rfl;obtain⟨y1,r1⟩:=get 1 u 1 rfl;obtain⟨y2,r2⟩:=get 2 t2 2 rfl;obtain⟨y3,r3⟩:=get 3 t2 3 rfl;obtain⟨y4,r4⟩:=get 4 Z 4 rfl;rw [tP (uR r)]at r0 r1;rw [tP x5]at r2 r3;rw [tP x6]at r4
 match cs,G with
 | [c0,c1,c2,c3,c4],_=>
  obtain⟨a0,hx0,x0⟩:=GK r ⟨_,_,r0⟩;obtain⟨a1,hx1,hr1⟩:=GK r ⟨_,_,r1⟩;obtain⟨n2,e2,_,_⟩:=DataW.trod_int I r2;obtain⟨V,e3,_,hw3⟩:=DataW.trod_int I r3;obtain⟨p,_,hv,⟨va,vn,vc,hve⟩,h7⟩:=agd x7 h8 ⟨_,_,r4⟩;obtain⟨w0,ws0,rfl,O,h9⟩:=KG hx0;obtain rfl:=KH h9;obtain⟨k0,rfl⟩:=An O;obtain⟨w1,ws1,rfl,U,ha⟩:=KG hx1;obtain rfl:=KH ha;obtain⟨k1,rfl⟩:=An U;have h6:V<9223372036854775808:=by
   have hw2:IntKind.i64.min<=V/\V<=9223372036854775807:=by simpa [Lit.wf]using hw3
   have:=hw2.2;omega
  refine⟨⟨k0,k1,n2,V,p⟩,⟨h6,h7⟩,λρ=>?_⟩;have f2:c2= .int .i64 n2:=wO;have f3:c3= .int .i64 V:=by simpa using e3
  have f4:c4=p.1:=by simpa using hv
  refine aD.cons (aD.cons_iff.1 (x0 ρ)).1 (aD.cons (aD.cons_iff.1 (hr1 ρ)).1 (aD.cons ?_ (aD.cons ?_ (aD.cons ?_ (aD.nil_iff.2 rfl)))))
  .simp only [av];exact f2
  .simp only [av];exact f3
  .simp only [av];exact⟨f4,va,vn,vc,hve⟩
theorem RU{ok:Sw->Prop}{vs:List Value}:∀n:Nat,n*5<=vs.length->(∀i,i<n->∃r:Sw,ok r/\∀ρ,aD ρ (oh r) ((vs.drop (i*5)).take 5))->∃ds:List Sw,ds.length=n/\(∀d∈ds,ok d)/\∀ρ,aD ρ (nD ds) (vs.take (n*5))
 |0,_,_=>⟨[],rfl,aq,λρ=>by simp [aD,nD]⟩
 |n+1,hl,h=>by
  obtain⟨ds,h1,h2,h3⟩:=RU n ag (λi hi=>h i ag);obtain⟨r,q1,q2⟩:=h n ag;refine⟨ds++ [r],by rw [aW,h1,List.length_singleton],λx hx=>?_,λρ=>?_⟩
  .rcases mu.1 hx with hx|hx
   .exact h2 x hx
   .rw [lx]at hx;subst hx;exact q1
  .rw [show(n+1)*5=n*5+5 from by omega,List.take_add,ajB];exact aD.append (h3 ρ) (q2 ρ)
theorem agf{r:Reach}{b0 d:Nat}{e e2 t t0 t2 t4:TypeId}{v:Value}{y:DataW H}{pl:List MemPlace}(ht:P.underlying t=aa (.slice e))(hS:HG P e=aa [(t0,0),(t0,1),(t2,2),(t2,3),(t4,4)])(hs:dq P e=aa 5)(V:ir P d t0=aa [1])(U:P.underlying t2=aa (.int .i64))(h7:dq P t2=aa 1)(ha:P.underlying t4=aa (.slice e2))(Z:ir P d e2=aa [1])(h8:dq P t4=aa 1)(G:Value.okWide P w r b0 t v)(hd:DataW.Trod enc P w base (λ_=>ab) held t v y pl):∃(ds:List Sw) (rb:RB),(∀d∈ds,d.bt<9223372036854775808)/\(∀ρ id,ρ id=aa rb->av ρ (.sl id 0 ds.length 5 af) v)/\(∀ρ,cd ρ w rb (.ro (nD ds)))/\∀ρ u,cd ρ w u (.ext (.fam (ds.map λd=>aX d.p))):=by
 obtain⟨a,len,cap,rfl⟩:=okWide_slice ht G;obtain⟨F,hf⟩:=hd;have O:(Value.slice a len cap).cells.toList= [.slice a len cap]:=rfl;rw [O]at hf;rcases Ll ht hs aw rfl ⟨F,_,hf⟩with h|⟨a',x5,x0,vs,h,hrow⟩
 .cases h;refine⟨[],⟨0,0,0,ab⟩,aq,λρ id hr=>?_,λρ=> .inl rfl,λρ u e he=>by simp at he⟩;simp only [av];exact⟨_,ah,0,hr,rfl,bH _,λh=>(by cases h),.inl rfl⟩
 .cases h;have hle:len<=cap:=hrow.le;have x6:vs.length=cap*5:=hrow.len;rcases DataW.trod_slice ht hf with⟨hq,_⟩|⟨a2,len2,cap2,elems,rest,n,rfl,hq,hy,_,hlc,hm,hel,g1,g2,_⟩
  .cases hq
  cases hq;cases hy;obtain⟨ds,h1,h2,h3⟩:=RU (ok:=λI=>I.bt<9223372036854775808/\jQ w (aX I.p)) (vs:=vs) len ag (λi hi=>by
   have g:=g1 i hi;rw [dy (by omega:i<elems.length)]at g;obtain⟨l,hl,hr⟩:=j0.1 g;rw [tP hs]at hl;obtain⟨c1,c2⟩:=Fq hl;have h6:l=(vs.drop (i*5)).take 5:=by
    apply ku;intro j;by_cases hj:j<5
    .rw [<-c2 j hj,ic hj,iS];have h9:=hrow.spot ag;rw [ET _ _ h9,ET _ _ rfl];rw [<-hrow.cell (i*5+j) ag];simp only [sn]
    .rw [dI ag,dI lu]
   rw [<-h6];exact agi hS hs V U h7 ha Z h8 hr)
  subst h1;refine⟨ds,_,λd hd=>(h2 d hd).1,λρ id hid=>(hrow.block (h3 ρ) (TJ ds)).1 id hid,λρ=>(hrow.block (h3 ρ) (TJ ds)).2,λρ u e he=>?_⟩;obtain⟨I,hp,rfl⟩:=mw.1 he;exact(h2 I hp).2
end
end Go.Sh
namespace Go.Sh
open Go.Proofs
def Vw(B M r:List UInt8)(ds:List Sw)(E:List FE)(S:St):HL:= [ak B,ak M,ak r,an (nD ds),aa (.ext (.fam E)),al (kg 6 7 8 9 10 11 12 S.g S.ep S.now S.ro.length S.fr.length),ao 88 [.p 15 0,.p 19 0,.p 23 0],ao 96 [.p 26 0,.p 30 0,.p 34 0],ao 4 (eW S.x S.y S.z),ao 94 (aN S.ro),ao 106 (i5 S.fr),aa (.ext (.lit (jJ S.op S.oc))),aa (.ext (.lit (jJ S.sl S.sc))),al [.u8 S.nn],al [.fn 28 [.p 13 0]],al (S.A.m.c 16 14 17 S.A.dv),ao 164 (aI S.A.m.l),ao 94 (aN S.A.m.ds),al [.fn 28 [.p 13 0]],al (S.B.m.c 20 18 21 S.B.dv),ao 164 (aI S.B.m.l),ao 94 (aN S.B.m.ds),al [.fn 28 [.p 13 0]],al (S.C.m.c 24 22 25 S.C.dv),ao 164 (aI S.C.m.l),ao 94 (aN S.C.m.ds),al (db 15 27 S.s S.b (fV S.A.z) (fv 28 S.A.z)),aa (.ext (.lit (dX S.A.R S.A.n))),al (cT S.s S.b 29 S.A.z),aC 5 (dG S.A.z),al (db 19 31 S.s S.b (fV S.B.z) (fv 32 S.B.z)),aa (.ext (.lit (dX S.B.R S.B.n))),al (cT S.s S.b 33 S.B.z),aC 5 (dG S.B.z),al (db 23 35 S.s S.b (fV S.C.z) (fv 36 S.C.z)),aa (.ext (.lit (dX S.C.R S.C.n))),al (cT S.s S.b 37 S.C.z),aC 5 (dG S.C.z),aa (.ext (.ar S.V S.fs))]
theorem ajS(s:UInt16)(B:List UInt8)(kid ct:UInt64)(M I:List UInt8)(b:Int)(sd:UInt8)(ds:List Sw)(ha:∀d,d∈ds->d.bt<9223372036854775808){E:List FE}(hE:E=ds.map λd=>aX d.p):aM 3 [.u16 s,.sl 0 0 B.length 1 af,.u64 kid,.u64 ct,.sl 1 0 M.length 1 af,.sl 2 0 I.length 1 af,.i b,.u8 sd,.sl 3 0 ds.length 5 af] [ak B,ak M,ak I,an (nD ds),aa (.ext (.fam E))] (.b ab) []:=by
 refine aL (fn:=Tryz.f3) ?_;refine zE ?_;refine zW (mn (J:= [1,3,5]) dw fq bD) ?_;refine zu ?_;refine zW (aE [] [] ab aiR) ?_;refine zc ?_;cases r:decide (s<wV (aU 1))with
 |true=>
  refine zu ?_;repeat(first|refine zW (bC r) ?_|refine zW (iN r) ?_|refine zf ?_)
  exact bE [0,1,2,3,4]
 |false=>
  cases u:decide (s>wV (aU 5))with
  |true=>
   refine zu ?_;repeat(first|refine zW (bl r) ?_|refine zW (cO r) ?_|refine zW (bC u) ?_|refine zW (iN u) ?_|refine zf ?_)
   exact bE [0,1,2,3,4]
  |false=>
   cases F:((B.length:Int)==0)with
   |true=>
    refine zu ?_;repeat(first|refine zW (bl r) ?_|refine zW (cO r) ?_|refine zW (bl u) ?_|refine zW (cO u) ?_|refine zW (bC F) ?_|refine zW (iN F) ?_|refine zf ?_)
    exact bE [0,1,2,3,4]
   |false=>
    cases c3:decide ((B.length:Int)>500)with
    |true=>
     refine zu ?_;repeat(first|refine zW (bl r) ?_|refine zW (cO r) ?_|refine zW (bl u) ?_|refine zW (cO u) ?_|refine zW (bl F) ?_|refine zW (cO F) ?_|refine zW (bC c3) ?_|refine zW (iN c3) ?_|refine zf ?_)
     exact bE [0,1,2,3,4]
    |false=>
     cases O:decide ((M.length:Int)>300)with
     |true=>
      refine zu ?_;repeat(first|refine zW (bl r) ?_|refine zW (cO r) ?_|refine zW (bl u) ?_|refine zW (cO u) ?_|refine zW (bl F) ?_|refine zW (cO F) ?_|refine zW (bl c3) ?_|refine zW (cO c3) ?_|refine zW (bC O) ?_|refine zW (iN O) ?_|refine zf ?_)
      exact bE [0,1,2,3,4]
     |false=>
      cases U:decide ((I.length:Int)>400)with
      |true=>
       refine zu ?_;repeat(first|refine zW (bl r) ?_|refine zW (cO r) ?_|refine zW (bl u) ?_|refine zW (cO u) ?_|refine zW (bl F) ?_|refine zW (cO F) ?_|refine zW (bl c3) ?_|refine zW (cO c3) ?_|refine zW (bl O) ?_|refine zW (cO O) ?_|refine zW (bC U) ?_|refine zW (iN U) ?_|refine zf ?_)
       exact bE [0,1,2,3,4]
      |false=>
       cases Z:decide (b<0)with
       |true=>
        refine zu ?_;repeat(first|refine zW (bl r) ?_|refine zW (cO r) ?_|refine zW (bl u) ?_|refine zW (cO u) ?_|refine zW (bl F) ?_|refine zW (cO F) ?_|refine zW (bl c3) ?_|refine zW (cO c3) ?_|refine zW (bl O) ?_|refine zW (cO O) ?_|refine zW (bl U) ?_|refine zW (cO U) ?_|refine zW (bC Z) ?_|refine zW (iN Z) ?_|refine zf ?_)
        exact bE [0,1,2,3,4]
       |false=>
        cases c7:decide (b>16)with
        |true=>
         refine zu ?_;repeat(first|refine zW (bl r) ?_|refine zW (cO r) ?_|refine zW (bl u) ?_|refine zW (cO u) ?_|refine zW (bl F) ?_|refine zW (cO F) ?_|refine zW (bl c3) ?_|refine zW (cO c3) ?_|refine zW (bl O) ?_|refine zW (cO O) ?_|refine zW (bl U) ?_|refine zW (cO U) ?_|refine zW (bl Z) ?_|refine zW (cO Z) ?_|refine zW (bC c7) ?_|refine zW (iN c7) ?_|refine zf ?_)
         exact bE [0,1,2,3,4]
        |false=>
         cases c8:decide ((ds.length:Int)>100)with
         |true=>
          refine zu ?_;repeat(first|refine zW (bl r) ?_|refine zW (cO r) ?_|refine zW (bl u) ?_|refine zW (cO u) ?_|refine zW (bl F) ?_|refine zW (cO F) ?_|refine zW (bl c3) ?_|refine zW (cO c3) ?_|refine zW (bl O) ?_|refine zW (cO O) ?_|refine zW (bl U) ?_|refine zW (cO U) ?_|refine zW (bl Z) ?_|refine zW (cO Z) ?_|refine zW (bl c7) ?_|refine zW (cO c7) ?_|refine zW (bl c8) ?_)
          exact bE [0,1,2,3,4]
         |false=>
          have h1:1<=s.toNat:=by rw [decide_eq_false_iff_not,UInt16.lt_iff_toNat_lt]at r;have:(wV (aU 1)).toNat=1:=aw;omega
          have h2:s.toNat<=5:=by rw [decide_eq_false_iff_not,GT.gt,UInt16.lt_iff_toNat_lt]at u;have:(wV (aU 5)).toNat=5:=aw;omega
          have b0:0<B.length:=by have:=beq_eq_false_iff_ne.1 F;omega
          have b1:B.length<=500:=by rw [decide_eq_false_iff_not]at c3;omega
          have m1:M.length<=300:=by rw [decide_eq_false_iff_not]at O;omega
          have p1:I.length<=400:=by rw [decide_eq_false_iff_not]at U;omega
          have n1:ds.length<=100:=by rw [decide_eq_false_iff_not]at c8;omega
          obtain⟨bn,h8,rfl⟩:∃bn:Nat,bn<=16/\b=(bn:Int):=by rw [decide_eq_false_iff_not]at Z c7;exact⟨b.toNat,ag,ag⟩
          have qb:=OA h1 h2 bn h8 sd;obtain⟨S0,h6⟩:=ax ((dQ s bn sd).tr 0);rw [<-h6]at qb;have q5:=Zd h1 h2 B b0 ag af kid;have q8:=ahz h1 h2 B ag af kid;have q9:=ah6 h1 h2 B ag af kid;have lk:=Gk h1 h2 kid B;have ls:=DS s kid B;obtain⟨X,hX⟩:=ax (dP s kid B);obtain⟨Y,hY⟩:=ax (dR s kid B);rw [<-hX]at q5 q9 ls;rw [<-hY]at q5 q8 lk;have q6:=Th h1 h2 kid ct Y X M I lk ls ag ag af af;have q7:=ah9 h1 h2 kid ct Y X M I lk ls ag ag af af af af;obtain⟨G,hG⟩:=ax (bF kid ct++mA s Y (bf X ct) (bF kid ct++M) I);have gl:(bF kid ct).length+(I.length+dH s)=G.length:=by rw [hG,aW,Bp h1 h2]
          rw [gl,<-hG]at q6 q7;have hp:=sC kid ct;have tb:=Co s;have bx:=Lh h1 h2 Y (bf X ct) (bF kid ct++M) I;have h7:=RT h1 h2 Y X M G (bF kid ct).length kid ct (by rw [hG];exact BJ _ _ _) ag hp.2 ag ag ag lk ls ag af (by rw [hG,sZ,qP];exact bx.1);rw [show G.length-(bF kid ct).length-dH s=I.length by omega,show mh s Y (bf X ct) (G.drop (bF kid ct).length)=I by rw [hG,qP];exact bx.2]at h7;obtain⟨k,hk⟩:=ax (gT s);rw [<-hk]at q5 q6 q7 q8 h7;refine zu ?_;repeat(first|refine zW (bl r) ?_|refine zW (cO r) ?_|refine zW (bl u) ?_|refine zW (cO u) ?_|refine zW (bl F) ?_|refine zW (cO F) ?_|refine zW (bl c3) ?_|refine zW (cO c3) ?_|refine zW (bl O) ?_|refine zW (cO O) ?_|refine zW (bl U) ?_|refine zW (cO U) ?_|refine zW (cO Z) ?_|refine zW (bl c7) ?_|refine zW (cO c7) ?_|refine zW (bC c8) ?_|refine zf ?_)
          refine zu ?_;refine oN [0] [ak B,aC 5 Y] (.tup [.agg (.u16 s:: .u64 kid:: .sl 5 0 k 1 ab::X.map .u8),.i 0]) (q5) rfl rfl ⟨⟨rfl,az⟩,bU,bU,EF,?_⟩;conv=>whnf
          repeat(first|refine zH (cK rfl qM) ?_|refine zH (df rfl qM) ?_|refine aS ?_)
          refine zW (aE [5,1,2] [ab,ab,ab,ab] af q6) ?_;refine zW (aE [0] [af,ab,ab] af q8) ?_;refine zW (aE [0] [af,ab,ab] af q9) ?_;refine zW (aE [8,9,1,2] [ab,ab,ab,ab,ab] af q7) ?_;repeat(first|refine zH (cK rfl qM) ?_)
          refine zW (aE [5,1,7] [ab,ab,ab,ab] af h7) ?_;repeat(first|(refine fW _ (aJ Fl ?_);conv=>whnf)|refine zW (bl bY) ?_|refine zW (bC bY) ?_|refine zW (cO bY) ?_|refine aS ?_)
          refine oN [] [al (kg 13 14 15 16 17 18 19 S0.g S0.ep S0.now S0.ro.length S0.fr.length),ao 88 [.p 22 0,.p 26 0,.p 30 0],ao 96 [.p 33 0,.p 37 0,.p 41 0],ao 4 (eW S0.x S0.y S0.z),ao 94 (aN S0.ro),ao 106 (i5 S0.fr),aa (.ext (.lit (jJ S0.op S0.oc))),aa (.ext (.lit (jJ S0.sl S0.sc))),al [.u8 S0.nn],al [.fn 28 [.p 20 0]],al (S0.A.m.c 23 21 24 S0.A.dv),ao 164 (aI S0.A.m.l),ao 94 (aN S0.A.m.ds),al [.fn 28 [.p 20 0]],al (S0.B.m.c 27 25 28 S0.B.dv),ao 164 (aI S0.B.m.l),ao 94 (aN S0.B.m.ds),al [.fn 28 [.p 20 0]],al (S0.C.m.c 31 29 32 S0.C.dv),ao 164 (aI S0.C.m.l),ao 94 (aN S0.C.m.ds),al (db 22 34 S0.s S0.b (fV S0.A.z) (fv 35 S0.A.z)),aa (.ext (.lit (dX S0.A.R S0.A.n))),al (cT S0.s S0.b 36 S0.A.z),aC 5 (dG S0.A.z),al (db 26 38 S0.s S0.b (fV S0.B.z) (fv 39 S0.B.z)),aa (.ext (.lit (dX S0.B.R S0.B.n))),al (cT S0.s S0.b 40 S0.B.z),aC 5 (dG S0.B.z),al (db 30 42 S0.s S0.b (fV S0.C.z) (fv 43 S0.C.z)),aa (.ext (.lit (dX S0.C.R S0.C.n))),al (cT S0.s S0.b 44 S0.C.z),aC 5 (dG S0.C.z),aa (.ext (.ar S0.V S0.fs))] (.p 12 0) qb rfl rfl ⟨⟨rfl,rfl⟩,trivial,?_,rfl,?_⟩
          .exact bU
          refine zL ?_;refine bp.weak (R0:= [(18,.b af),(28,.p 5 0),(151,.sl 3 0 ds.length 5 af),(152,.i ds.length),(153,.i 0)]) (H0:=Vw B M I ds E S0) (L0:=39) ?_ ?_
          .exact bL [0,1,2,3,4,12,13,14,15,16,17,18,19,20,21,22,23,24,25,26,27,28,29,30,31,32,33,34,35,36,37,38,39,40,41,42,43,44,45]
          refine Gt [19] dw fq bD (ι:={x:Nat×St//x.1<=ds.length/\(∃K W,cV x.2 K W E (x.1+1))/\x.2.ep≠0}) (λx=> [(18,.b af),(28,.p 5 0),(151,.sl 3 0 ds.length 5 af),(152,.i ds.length),(153,.i (x.1.1:Int))]) (λx=>Vw B M I ds E x.1.2) (λ_=>39) (λx=>ds.length-x.1.1) ⟨(0,S0),kD _,by rw [h6];exact⟨_,_,KE (KC h1 h2 h8 sd E) (by decide) (by decide)⟩,by rw [h6];first|(intro h;cases h)|fail⟩ ?_ ?_
          .dsimp only;exact bL [0,1,2,3,4,5,6,7,8,9,10,11,12,13,14,15,16,17,18,19,20,21,22,23,24,25,26,27,28,29,30,31,32,33,34,35,36,37,38]
          rintro⟨⟨i,S⟩,hi,⟨K,W,iv⟩,he⟩;dsimp only at hi iv he|-;cases hd:ds[i]? with
          |some d=>
           have hil:i<ds.length:=(dA.1 hd).1;have hm:d∈ds:=jO hd;have e1:decide ((i:Int)<(ds.length:Int))=ab:=EG;have ew:au ((i:Int)+1)=((i+1:Nat):Int):=cp;have h9:aX d.p∈E:=by rw [hE];exact mw.2 ⟨d,hm,rfl⟩
           conv=>whnf
           repeat(first|refine zH (df rfl az) ?_|refine zW (bl e1) ?_|refine zH (ai3 hd aq) ?_|refine aS ?_)
           refine afA (p:=d.p) (el:=5) 4 rfl bD rfl rfl (.inl rfl) h9 ?_;by_cases hl:d.p.2.2.length<=400
           .have e2:decide ((d.p.2.2.length:Int)>400)=af:=ox;conv=>whnf
            repeat(first|refine zW (bC e2) ?_)
            have q:=Pe iv he ag d.k d.w d.n d.bt (ha d hm) (xB:= .lit d.p.1) rfl (λ_=>⟨d.p,rfl,h9,hl⟩);refine wu rfl ?_;refine zW (wo (pre:= [_,_]) dw bD) ?_;refine yl ?_;refine HC (zs:= [.p 5 0,.agg (oh d)]) (caps:= []) [5,6,7,8,9,10,11,12,13,14,15,16,17,18,19,20,21,22,23,24,25,26,27,28,29,30,31,32,33,34,35,36,37,38,4] bD q rfl rfl rfl rfl rfl ?_ rfl ?_ rfl ?_
            .simp only [bu,bG,oh];rfl
            .exact bU
            rintro ret H1 ⟨rfl,S2,⟨st,⟨K2,W2,x5⟩,x0⟩,rfl⟩;refine⟨[al (kg 6 7 8 40 41 11 12 S2.g S2.ep S2.now S2.ro.length S2.fr.length),ao 88 [.p 15 0,.p 19 0,.p 23 0],ao 96 [.p 26 0,.p 30 0,.p 34 0],ao 4 (eW S2.x S2.y S2.z),ah,ah,aa (.ext (.lit (jJ S2.op S2.oc))),aa (.ext (.lit (jJ S2.sl S2.sc))),al [.u8 S2.nn],al [.fn 28 [.p 13 0]],al (S2.A.m.c 42 14 43 S2.A.dv),ah,ah,al [.fn 28 [.p 13 0]],al (S2.B.m.c 44 18 45 S2.B.dv),ah,ah,al [.fn 28 [.p 13 0]],al (S2.C.m.c 46 22 47 S2.C.dv),ah,ah,al (db 15 27 S2.s S2.b (fV S2.A.z) (fv 48 S2.A.z)),aa (.ext (.lit (dX S2.A.R S2.A.n))),ah,ah,al (db 19 31 S2.s S2.b (fV S2.B.z) (fv 50 S2.B.z)),aa (.ext (.lit (dX S2.B.R S2.B.n))),ah,ah,al (db 23 35 S2.s S2.b (fV S2.C.z) (fv 52 S2.C.z)),aa (.ext (.lit (dX S2.C.R S2.C.n))),ah,ah,aa (.ext (.ar S2.V S2.fs)),aa (.ext (.fam E)),ao 94 (aN S2.ro),ao 106 (i5 S2.fr),ao 164 (aI S2.A.m.l),ao 94 (aN S2.A.m.ds),ao 164 (aI S2.B.m.l),ao 94 (aN S2.B.m.ds),ao 164 (aI S2.C.m.l),ao 94 (aN S2.C.m.ds),al (cT S2.s S2.b 49 S2.A.z),aC 5 (dG S2.A.z),al (cT S2.s S2.b 51 S2.B.z),aC 5 (dG S2.B.z),al (cT S2.s S2.b 53 S2.C.z),aC 5 (dG S2.C.z)],.b ab,?_,rfl,?_⟩
            .exact bU
            refine y8 ?_;refine zc ?_;refine⟨⟨(i+1,S2),by dsimp only;omega,⟨K2,W2,x5⟩,x0⟩,by dsimp only;omega,?_⟩;dsimp only;refine bP [0,1,2,3,4,5,6,7,8,40,41,11,12,13,14,15,42,43,18,19,44,45,22,23,46,47,26,27,48,49,30,31,50,51,34,35,52,53,38] ?_ ?_
            ·(repeat'(first|exact trivial|refine aJ ?_ ?_|fail))<;>first|rfl|exact dh ag|fail
            .exact bU
           .have e2:decide ((d.p.2.2.length:Int)>400)=ab:=EG;conv=>whnf
            repeat(first|refine zW (bl e2) ?_)
            exact bE [0,1,2,3,4]
          |none=>
           have hil:ds.length<=i:=List.getElem?_eq_none_iff.1 hd;have e1:decide ((i:Int)<(ds.length:Int))=af:=ox;refine AX ?_;exact AY
end Go.Sh
