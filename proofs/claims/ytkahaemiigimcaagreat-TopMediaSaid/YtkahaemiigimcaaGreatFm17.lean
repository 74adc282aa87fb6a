/- Merged for a claim: W30, Sh57, W32, W37, Sh58, W38, W39, W41, W42, Y3, W36, Sh59, Sh61, Sh62, Sh63. -/
import Derived.Test.YtkahaemiigimcaaGreatFm16
set_option linter.unusedSimpArgs false
set_option linter.unusedVariables false
set_option maxHeartbeats 8000000
open Option renaming some->aa,none->ah
open Bool renaming true->ab,false->af,and_eq_true->fI,false_eq_true->gE
open List renaming take->aB,drop->aG,replicate->aK,length_append->aW,take_of_length_le->bW,drop_zero->cq,length_map->dm,getElem?_eq_getElem->dy,getElem?_eq_some_iff->dA,getElem?_eq_none->dI,map_append->dU,length_take->eZ,length_set->fJ,length_drop->fQ,getElem?_append_left->gP,append_assoc->iw,getElem?_append_right->iR,getElem?_drop->iS,map_cons->iT,length_cons->jM,mem_cons_of_mem->jN,mem_of_getElem?->jO,mem_cons_self->kX,mem_map->mw,take_append_drop->nJ,length_nil->oZ,drop_left->qP,take_left->sZ,getElem?_set_self->uk,take_left'->vz,take_succ_eq_append_getElem->Bc
open UInt64 renaming ofNat->aF,toNat_inj->dJ,lt_iff_toNat_lt->gh,toNat_add->lY,toNat_div->nL,toNat_mod->nM,toNat_toUInt8->oB,toNat_shiftRight->sr,toNat_shiftLeft->uv,toNat_and->wW,toNat->Be,toNat_or->Bg
open And renaming intro->aJ
open Int renaming toNat->aU,toNat_natCast->mq
open Nat renaming le_refl->bH,le_of_ble_eq_true->cr,ble->eU,mul_one->fS,mod_eq_of_lt->gq,lt_or_ge->js,min_eq_left->jt,le_trans->jP,zero_le->kD,shiftLeft_eq->nk,shiftRight_eq_div_pow->np,sub_self->pR,add_zero->qT,pow_le_pow_right->uo,div_eq_of_lt->vD
open Go.Sem renaming run_bind->bM,run_pure->bZ
open Go.Result renaming andThen_ok->bQ
open UInt8 renaming ofNat->cX,toNat_inj->my,toNat_toUInt64->qU
open Exists renaming intro->fW
open Iff renaming rfl->qO
namespace Go.Sh
open Go.Proofs
variable{l:List Hd}{i:Nat}{now:UInt64}
abbrev Ef(now:UInt64):UInt64:=now+(if aF (aU 18446744073709551615)-now<aF (aU 100)then aF (aU 18446744073709551615)-now else aF (aU 100))
def gu(now:UInt64)(x:Hd):Hd:=if x.en then x else{x with un:=Ef now,en:=ab}
def gv(now:UInt64)(l:List Hd)(i:Nat):List Hd:=(l.take i).map (gu now)++l.drop i
theorem JF(now:UInt64)(l:List Hd)(i:Nat)(h:i<=l.length):(gv now l i).length=l.length:=by unfold gv;rw [aW,dm,eZ,fQ];omega
theorem FD{x:Hd}(h:l[i]?=aa x):(gv now l i)[i]?=aa x:=by have hi:=(dA.1 h).1;unfold gv;rw [iR NR,dm,eZ,jt ag,pR,iS,qT,h]
theorem Pq{x:Hd}(h:l[i]?=aa x):gv now l (i+1)=(gv now l i).set i (gu now x):=by have hi:=(dA.1 h).1;have hx:=(dA.1 h).2;unfold gv;rw [List.set_append_right _ _ NR,dm,eZ,jt ag,pR,List.drop_eq_getElem_cons hi,List.set_cons_zero,Bc hi,dU,iw,hx];rfl
theorem JE(now:UInt64)(l:List Hd):gv now l 0=l:=by simp [gv]
theorem JG(now:UInt64)(l:List Hd):gv now l l.length=l.map (gu now):=by simp [gv]
theorem JH{x:Hd}(h:l[i]?=aa x)(he:x.en=ab):gv now l (i+1)=gv now l i:=by
 rw [Pq h];have:gu now x=x:=by unfold gu;rw [if_pos he]
 rw [this];obtain⟨h1,h2⟩:=dA.1 (FD (now:=now) h);have h3:= @List.set_getElem_self _ (gv now l i) i h1;rw [h2]at h3;exact h3
theorem acC{k j:Nat}{x:Hd}{v:SV}(h:l[i]?=aa x)(hj:(iq x)[j]?=aa v)(hk:k=i*23+j):(SB.row 164 (aI l)).cells[k]?=aa v:=by have:=ai1 h hj hk;simp only [dz,gE,if_false]at this;exact this
theorem K0{sel:List Nat}{hi hj r u:Nat}{M N:SV}{s g:UInt8}{sm:Bool}{ep:UInt64}{n:Nat}(hM:bG sel M=aa N)(h1:sel[hi]?=aa hj)(h2:sel[r]?=aa u):cZ sel (.box (bA hi r M s sm g ep n))=al (bA hj u N s sm g ep n):=by simp only [cZ,uU hM h1 h2]
theorem abN(l:List Hd)(hn:l.length<999999){M:SV}(hM:MV M){X:List SV}(hX:bJ X=ab)(nn:UInt8){s:UInt8}(hs:s=0\/s=1\/s=2)(sm:Bool)(g:UInt8)(ep ep2 now:UInt64)(V:sm=af\/(sm=ab/\g=5))(hlt:decide (ep2<=ep)=af)(O:decide (ep2<aF (aU 1))=af)(U:decide (ep2>aF (aU 1099511627776))=af){ds:List UInt8}(hm:ds∈jI)(h2:s∈ds)(f:Bool)(p:Nat)(hp:oC (de now (l.map (gu now))) (aP ep2 0 s) p):aQ 68 [.p 0 0,.agg (ln ep2 (.sl 5 0 ds.length 2 f)),.u64 now] [al (bA 1 3 M s sm g ep l.length),ao 164 (aI l),an X,an [.fn 28 [.p 4 0]],al [.u8 nn],an (aN ds)] (.tup [.sl 8 0 (ds.filter λd=>d !=s).length 23 af,.i 0]) [al (bA 7 3 (.sl 6 0 ds.length 2 af) s ab 5 ep2 ((de now (l.map (gu now))).length+1)),ah,an X,an [.fn 28 [.p 4 0]],al [.u8 (nn+1)],an (aN ds),ao 94 (aN ds),ao 164 (aI (i6 (de now (l.map (gu now))) p ⟨ep2,s,aP ep2 0 s,jS (nn+1),0,af⟩)),ao 154 (qu (pq ep2 s (aP ep2 0 s) (jS (nn+1))) (ds.filter λd=>d !=s))]:=by
 have q1:=Qj ep2 O U f ds hm;have q2:=Qk f ds hm;obtain⟨m1,G⟩:=ax (sm);obtain⟨g1,F⟩:=ax (g);obtain⟨l2,el2⟩:=ax (de now (l.map (gu now)));have q3:=BG (l.map (gu now)) gX now hM hX nn s m1 g1 ep;rw [dm,<-el2]at q3;rw [<-el2]at hp|-;obtain⟨x,ex⟩:=ax (pq ep2 s (aP ep2 0 s) (jS (nn+1)));have Z:x.length=21:=by rw [ex];rfl
 have h6:bJ x=ab:=by rw [ex];rfl
 have I:ds.length<100:=(by decide:∀ds∈jI,ds.length<100) ds hm;have hl2:l2.length<=l.length:=NZ;have q4:=F6 ep2 af hs hm;rw [decide_eq_true h2]at q4;have q5:=Gu ep2 0 s;have q6:=Qd l2 ag p ep2 s (aP ep2 0 s) (jS (nn+1)) hp (uW ds.length) (jG ds) (nn+1) s ab 5 ep2;rcases V with rfl|⟨rfl,rfl⟩
 all_goals
  refine aL (fn:=Tryz.f68) ?_;refine zp ?_;refine yj ?_;refine zW (aE [5] [af] ab q1) ?_;repeat(first|refine zW (bC hlt) ?_|refine zf ?_)
  refine bT l.length (λi=> [(0,.p 0 0),(2,.u64 now),(4,.p 6 0),(58,.i (l.length:Int)),(59,.i (i.1:Int))]) (λi=> [al (bA 1 3 M s m1 g1 ep l.length),ao 164 (aI (gv now l i.1)),an X,an [.fn 28 [.p 4 0]],al [.u8 nn],an (aN ds),al (ln ep2 (.sl 5 0 ds.length 2 f))]) 7 ?_ ?_
  .subst G F;rw [JE];exact xp
  .rintro⟨i,hi⟩;dsimp only;have hel:=JF now l i hi;have I:=mJ (gv now l i);by_cases hil:i<l.length
   .have e1:decide ((i:Int)<(l.length:Int))=ab:=aA;obtain⟨x,hx⟩:∃x,l[i]?=aa x:=⟨_,dy hil⟩;have hx2:=FD (now:=now) hx;have ew:au ((i:Int)+1)=((i+1:Nat):Int):=cp;obtain⟨x1,x2,x3,x4,u,x6⟩:=x;cases x6 with
    |true=>
     have W:=JH (now:=now) hx rfl;refine ym ?_;refine zL ?_;refine zC ?_;rw [W];exact bL [0,1,2,3,4,5,6]
    |false=>
     refine Nw ?_;have e2:bN (aI (gv now l i)) (0+((i:Nat):Int).toNat*23+22) (.b ab)=aI ((gv now l i).set i ⟨x1,x2,x3,x4,u,ab⟩):=HE (j:=22) (y:=⟨x1,x2,x3,x4,u,ab⟩) hx2 rfl aw rfl aq;have hx3:((gv now l i).set i ⟨x1,x2,x3,x4,u,ab⟩)[i]?=aa ⟨x1,x2,x3,x4,u,ab⟩:=N2;have e3:bN (aI ((gv now l i).set i ⟨x1,x2,x3,x4,u,ab⟩)) (0+((i:Nat):Int).toNat*23+21) (.u64 (Ef now))=aI (gv now l (i+1)):=by exact Ns
     rw [e2];refine aJ ⟨rfl,N4⟩ ?_;exact NG
   .have e1:decide ((i:Int)<(l.length:Int))=af:=aA;obtain rfl:i=l.length:=ag;rw [JG];refine AX ?_;refine WG ?_;refine oN [5] [an (aN ds),ao 94 (aN ds)] (.sl 7 0 ds.length 2 af) (q2) rfl rfl ⟨⟨rfl,az⟩,bU,XV,az,?_⟩;refine yE ?_;refine zc ?_;refine zW (aE [] [] ab q5) ?_;refine zc ?_;refine zW (afz [3,4] [(4,al [.u8 (nn+1)])] (.s (jS (nn+1))) (abn nn) rfl rfl frM rfl rfl rfl ⟨rfl,rfl,trivial⟩ rfl rfl rfl) ?_;refine NK ?_;refine zW (dY [0,1,7,3,4] [al (bA 9 3 (.sl 7 0 ds.length 2 af) s ab 5 ep2 (l2.length+1)),ah,an (aN ds),an [.fn 28 [.p 4 0]],an [.u8 (nn+1)],ao 164 (aI (i6 l2 p ⟨ep2,s,aP ep2 0 s,jS (nn+1),0,af⟩))] (.tup []) q6) ?_;refine Ew ?_;refine bT ds.length (λi=> [(0,.p 0 0),(10,.p 9 0),(13,.sl 8 0 (sJ s ds i.1).length 23 af),(169,.sl 6 0 ds.length 2 af),(170,.i (ds.length:Int)),(171,.i (i.1:Int))]) (λi=> [al (bA 7 3 (.sl 6 0 ds.length 2 af) s ab 5 ep2 (l2.length+1)),ah,an X,an [.fn 28 [.p 4 0]],al [.u8 (nn+1)],an (aN ds),ao 94 (aN ds),ao 164 (aI (i6 l2 p ⟨ep2,s,aP ep2 0 s,jS (nn+1),0,af⟩)),ao 154 (qu (pq ep2 s (aP ep2 0 s) (jS (nn+1))) (sJ s ds i.1)),al (pq ep2 s (aP ep2 0 s) (jS (nn+1)))]) 10 ?_ ?_
    .refine(cl.virt 13 154 23 rfl).trans ?_;exact bL [0,1,2,3,4,5,7,9,10,8]
    .rintro⟨i,hi⟩;dsimp only;by_cases hil:i<ds.length
     .have e1:decide ((i:Int)<(ds.length:Int))=ab:=aA;obtain⟨d,hd⟩:∃d,ds[i]?=aa d:=⟨_,dy hil⟩;have ew:au ((i:Int)+1)=((i+1:Nat):Int):=cp;have ho:=agp s ds i;have hq:ju (SB.box [.u8 0,.u8 d]).cells (aB Cq.sz (aG (0+1) (SB.box (bA 7 3 (.sl 6 0 ds.length 2 af) s ab 5 ep2 (l2.length+1))).cells))=(d==s):=by
       show((0:UInt8)==0&&(d==s&&ab))=(d==s)
       simp
      cases e3:d==s with
      |true=>
       have r:=RZ (s:=s) hd;rw [e3,if_pos rfl]at r;refine Xa ?_;refine zL ?_;refine xI ?_;rw [r];refine bP [0,1,2,3,4,5,6,7,8,9] ?_ ?_
       ·(repeat'(first|exact trivial|refine aJ ?_ ?_|fail))<;>first|rfl|exact dh ag|fail
       ·(repeat'(first|exact trivial|exact aY hX rfl|exact qA _ _|exact qB _ _|exact aY (GM rfl _) rfl|refine aJ ?_ ?_|(refine dM ?_ ?_)))<;>first|rfl|fail
      |false=>
       have r:=RZ (s:=s) hd;rw [e3,if_neg aq]at r;refine Xa ?_;conv=>whnf
       refine yj ?_;refine zN ⟨by rw [Lo rfl];omega,bH _,by show _*64<=_;omega⟩ ?_;have el:(sJ s ds i++ [d]).length=(sJ s ds i).length+1:=aq;refine xI ?_;rw [r,el];refine bP [0,1,2,3,4,5,6,7,12,9] ?_ ?_
       ·(repeat'(first|exact trivial|refine aJ ?_ ?_|fail))<;>first|rfl|exact dh ag|fail
       ·(repeat'(first|exact trivial|exact aY hX rfl|exact qA _ _|exact qB _ _|exact aY (GM rfl _) (ags rfl _ _ rfl)|refine aJ ?_ ?_|(refine dM ?_ ?_)))<;>first|rfl|fail
     .have e1:decide ((i:Int)<(ds.length:Int))=af:=aA;obtain rfl:i=ds.length:=ag;rw [agq];refine AX ?_;refine⟨[0,1,2,3,4,5,6,7,8],?_,rfl,rfl,?_,rfl⟩
      .exact zo
      ·(repeat'(first|exact trivial|exact aY hX rfl|exact qA _ _|exact qB _ _|exact aY (GM rfl _) rfl|refine aJ ?_ ?_|(refine dM ?_ ?_)))<;>first|rfl|fail
end Go.Sh
namespace Go.Sh
variable{X:List SV}
structure X0(A:Nat)(e0:Exit)(R0:RL)(H0:HL)(L0:Nat)(e:Exit)(R:RL)(H:HL)(L:Nat):Prop where
 he:e=e0
 hw:cl A R H L R0 H0 L0
theorem bp.cut{P:Program}{M:Option Nat->Prop}{N A:Nat}{c:Code}{Q:Exit->RL->HL->Nat->Prop}{R:RL}{H:HL}{L:Nat}(r:Exit)(R0:RL)(H0:HL)(L0:Nat)(h:bp P M N A c (X0 A r R0 H0 L0) R H L)(k:Q r R0 H0 L0):bp P M N A c Q R H L:=
 bp.less h λe F H1 u hq=>⟨R0,H0,L0,hq.hw,hq.he▸k⟩
open Go.Proofs
theorem abP(l:List Hd)(hn:l.length<999999){M:SV}(hM:MV M)(hX:bJ X=ab)(nn:UInt8){s:UInt8}(hs:s=0\/s=1\/s=2)(sm:Bool)(g:UInt8)(ep ep2 now:UInt64)(O:sm=af\/(sm=ab/\g=5))(hlt:decide (ep2<=ep)=af)(G:decide (ep2<aF (aU 1))=af)(I:decide (ep2>aF (aU 1099511627776))=af){ds:List UInt8}(hm:ds∈jI)(h2:¬s∈ds)(f:Bool):aQ 68 [.p 0 0,.agg (ln ep2 (.sl 5 0 ds.length 2 f)),.u64 now] [al (bA 1 3 M s sm g ep l.length),ao 164 (aI l),an X,an [.fn 28 [.p 4 0]],al [.u8 nn],an (aN ds)] (.tup [.slnil,.i 0]) [al (bA 7 3 (.sl 6 0 ds.length 2 af) s ab 5 ep2 0),ah,an X,an [.fn 28 [.p 4 0]],al [.u8 nn],an (aN ds),ao 94 (aN ds),ao 164 []]:=by
 have q1:=Qj ep2 G I f ds hm;have q2:=Qk f ds hm;obtain⟨m1,F⟩:=ax (sm);obtain⟨g1,u⟩:=ax (g);obtain⟨l2,el2⟩:=ax (de now (l.map (gu now)));have q3:=BG (l.map (gu now)) gX now hM hX nn s m1 g1 ep;rw [dm,<-el2]at q3;have hl2:l2.length<=l.length:=NZ;have q4:=F6 ep2 af hs hm;rw [decide_eq_false h2]at q4;rcases O with rfl|⟨rfl,rfl⟩
 all_goals
  refine Xc ?_;refine zW (aE [5] [af] ab q1) ?_;repeat(first|refine zW (bC hlt) ?_|refine zf ?_)
  refine bp.cut (.exit 1) [(0,.p 0 0),(2,.u64 now),(4,.p 6 0)] [al (bA 1 3 M s m1 g1 ep l.length),ao 164 (aI (l.map (gu now))),an X,an [.fn 28 [.p 4 0]],al [.u8 nn],an (aN ds),al (ln ep2 (.sl 5 0 ds.length 2 f))] 7 ?_ ?_
  .skip
   refine bT l.length (λi=> [(0,.p 0 0),(2,.u64 now),(4,.p 6 0),(58,.i (l.length:Int)),(59,.i (i.1:Int))]) (λi=> [al (bA 1 3 M s m1 g1 ep l.length),ao 164 (aI (gv now l i.1)),an X,an [.fn 28 [.p 4 0]],al [.u8 nn],an (aN ds),al (ln ep2 (.sl 5 0 ds.length 2 f))]) 7 ?_ ?_
   .subst F u;rw [JE];exact xp
   .rintro⟨i,hi⟩;dsimp only;have hel:=JF now l i hi;have W:=mJ (gv now l i);by_cases hil:i<l.length
    .have e1:decide ((i:Int)<(l.length:Int))=ab:=aA;obtain⟨x,hx⟩:∃x,l[i]?=aa x:=⟨_,dy hil⟩;have hx2:=FD (now:=now) hx;have ew:au ((i:Int)+1)=((i+1:Nat):Int):=cp;obtain⟨x1,x2,x3,x4,r,Z⟩:=x;cases Z with
     |true=>
      have V:=JH (now:=now) hx rfl;refine ym ?_;refine zL ?_;refine zC ?_;rw [V];exact bL [0,1,2,3,4,5,6]
     |false=>
      refine Nw ?_;have e2:bN (aI (gv now l i)) (0+((i:Nat):Int).toNat*23+22) (.b ab)=aI ((gv now l i).set i ⟨x1,x2,x3,x4,r,ab⟩):=HE (j:=22) (y:=⟨x1,x2,x3,x4,r,ab⟩) hx2 rfl aw rfl aq;have hx3:((gv now l i).set i ⟨x1,x2,x3,x4,r,ab⟩)[i]?=aa ⟨x1,x2,x3,x4,r,ab⟩:=N2;have e3:bN (aI ((gv now l i).set i ⟨x1,x2,x3,x4,r,ab⟩)) (0+((i:Nat):Int).toNat*23+21) (.u64 (Ef now))=aI (gv now l (i+1)):=by exact Ns
      rw [e2];refine aJ ⟨rfl,N4⟩ ?_;exact NG
    .have e1:decide ((i:Int)<(l.length:Int))=af:=aA;have U:gv now l i=l.map (gu now):=by rw [show i=l.length by omega,JG]
     refine AX ?_;refine⟨rfl,?_⟩;rw [U];exact xp
  conv=>whnf
  refine WG ?_;refine oN [5] [an (aN ds),ao 94 (aN ds)] (.sl 7 0 ds.length 2 af) (q2) rfl rfl ⟨⟨rfl,az⟩,bU,XV,az,?_⟩;refine yE ?_;refine zl ?_;refine bp.weak (cl.virtB 0 22 164 23 rfl rfl rfl rfl rfl) ?_;refine zu ?_;exact bE [0,1,2,3,4,5,7,8]
theorem abO(l:List Hd)(hn:l.length<999999){M:SV}(hM:MV M)(hX:bJ X=ab)(nn:UInt8){s:UInt8}(ep ep2 now:UInt64)(hlt:decide (ep2<=ep)=af)(u:decide (ep2<aF (aU 1))=af)(F:decide (ep2>aF (aU 1099511627776))=af):aQ 68 [.p 0 0,.agg (ln ep2 .slnil),.u64 now] [al (bA 1 3 M s ab 5 ep l.length),ao 164 (aI l),an X,an [.fn 28 [.p 4 0]],al [.u8 nn],aa (.ext .nm)] (.tup [.slnil,.i 0]) [al (bA 7 3 (.sl 6 0 0 2 af) s ab 5 ep2 0),ah,an X,an [.fn 28 [.p 4 0]],al [.u8 nn],aa (.ext .nm),ao 94 [],ao 164 []]:=by
 have q1:=ab0 ep2 u F;have q2:=ab1;obtain⟨l2,el2⟩:=ax (de now (l.map (gu now)));have q3:=BG (l.map (gu now)) gX now hM hX nn s ab 5 ep;rw [dm,<-el2]at q3;have hl2:l2.length<=l.length:=NZ;have q4:=ab2 ep2 s;refine Xc ?_;refine zW (aE [] [] ab q1) ?_;repeat(first|refine zW (bC hlt) ?_|refine zf ?_)
 refine bp.cut (.exit 1) [(0,.p 0 0),(2,.u64 now),(4,.p 6 0)] [al (bA 1 3 M s ab 5 ep l.length),ao 164 (aI (l.map (gu now))),an X,an [.fn 28 [.p 4 0]],al [.u8 nn],aa (.ext .nm),al (ln ep2 .slnil)] 7 ?_ ?_
 .skip
  refine bT l.length (λi=> [(0,.p 0 0),(2,.u64 now),(4,.p 6 0),(58,.i (l.length:Int)),(59,.i (i.1:Int))]) (λi=> [al (bA 1 3 M s ab 5 ep l.length),ao 164 (aI (gv now l i.1)),an X,an [.fn 28 [.p 4 0]],al [.u8 nn],aa (.ext .nm),al (ln ep2 .slnil)]) 7 ?_ ?_
  .rw [JE];exact xp
  .rintro⟨i,hi⟩;dsimp only;have hel:=JF now l i hi;have O:=mJ (gv now l i);by_cases hil:i<l.length
   .have e1:decide ((i:Int)<(l.length:Int))=ab:=aA;obtain⟨x,hx⟩:∃x,l[i]?=aa x:=⟨_,dy hil⟩;have hx2:=FD (now:=now) hx;have ew:au ((i:Int)+1)=((i+1:Nat):Int):=cp;obtain⟨x1,x2,x3,x4,r,U⟩:=x;cases U with
    |true=>
     have I:=JH (now:=now) hx rfl;refine ym ?_;refine zL ?_;refine zC ?_;rw [I];exact bL [0,1,2,3,4,5,6]
    |false=>
     refine Nw ?_;have e2:bN (aI (gv now l i)) (0+((i:Nat):Int).toNat*23+22) (.b ab)=aI ((gv now l i).set i ⟨x1,x2,x3,x4,r,ab⟩):=HE (j:=22) (y:=⟨x1,x2,x3,x4,r,ab⟩) hx2 rfl aw rfl aq;have hx3:((gv now l i).set i ⟨x1,x2,x3,x4,r,ab⟩)[i]?=aa ⟨x1,x2,x3,x4,r,ab⟩:=N2;have e3:bN (aI ((gv now l i).set i ⟨x1,x2,x3,x4,r,ab⟩)) (0+((i:Nat):Int).toNat*23+21) (.u64 (Ef now))=aI (gv now l (i+1)):=by exact Ns
     rw [e2];refine aJ ⟨rfl,N4⟩ ?_;exact NG
   .have e1:decide ((i:Int)<(l.length:Int))=af:=aA;have G:gv now l i=l.map (gu now):=by rw [show i=l.length by omega,JG]
    refine AX ?_;refine⟨rfl,?_⟩;rw [G];exact xp
 conv=>whnf
 refine zW (dY [0,1,2,3,4] [al (bA 1 3 M s ab 5 ep l2.length),ao 164 (aI l2),an X,an [.fn 28 [.p 4 0]],an [.u8 nn]] (.tup []) q3) ?_;refine zc ?_;refine zW (aE [] [] ab q2) ?_;refine Ex ?_;rw [show bN (bN (bN (bA 1 3 M s ab 5 ep l2.length) (0+3) (.b ab)) (0+4) (.agg (SB.box (bN (ln ep2 .slnil) (0+17) .slnil)).cells)) (0+23) .slnil=bA 1 3 .slnil s ab 5 ep2 l2.length from rfl,show bN (ln ep2 .slnil) (0+17) .slnil=ln ep2 .slnil from rfl];refine zW (aE [] [] ab q4) ?_;refine zl ?_;refine bp.weak (cl.virtB 0 22 164 23 rfl rfl rfl rfl rfl) ?_;refine bp.weak (cl.virtB 0 21 94 2 rfl rfl rfl rfl rfl) ?_;refine zu ?_;exact bE [0,1,2,3,4,5,8,7]
end Go.Sh
namespace Go.Sh
variable{l:List Hd}{X:List SV}{b:Nat}{M:SV}{Φ:SV->HL->Prop}{s:UInt16}{e ep g kid p:UInt64}{d:UInt8}
theorem uP{H:HL}{r:Option SB}{id:Nat}{b:SB}(h:hg (H++ [r]) id=aa b):hg H id=aa b\/(id=H.length/\r=aa b):=by
 unfold hg at h|-;rcases js id H.length with h1|h1
 .rw [gP h1]at h;exact .inl h
 .rw [iR h1]at h;rcases Nat.eq_or_lt_of_le h1 with h2|h2
  .refine .inr ⟨h2.symm,?_⟩;rw [<-h2,pR]at h;simpa using h
  .rw [dI aA]at h;simp at h
theorem bV.virtR{P:Program}{f:Nat}{args:List SV}{H0 H1:HL}{e:SV}(h:bV P f args H0 (.tup [.slnil,e]) H1)(t sz:Nat)(hl:eU H0.length H1.length=ab):bV P f args H0 (.tup [.sl H1.length 0 0 sz af,e]) (H1++ [aa (.row t [])]):=by
 have hle:=cr hl;refine⟨h.fn,λn ρ w vs a b c d=>(h.call n ρ w vs a b c d).mono λen w' hr=>?_⟩;cases en with
 |returned v=>
  obtain⟨ρ1,q1,q2,q3,q4,O⟩:=hr;have hn:=q4 _ (bH _);have hx:fK ρ1 (setR ρ1 H1.length ⟨0,0,0,ab⟩):=fK.setR _ hn;have ne:∀{id b},hg H1 id=aa b->id≠H1.length:=fun{id b} hb e=>by subst e;unfold hg at hb;rw [dI (bH _)]at hb;simp at hb
  have I:∀k q,¬foot ⟨0,0,0,ab⟩ (.row t []) k q:=λk q hf=>by cases hf.1
  refine⟨setR ρ1 H1.length ⟨0,0,0,ab⟩,?_,?_,?_,?_,⟨λid hid rb hr=>hx id rb (O.ext id hid rb hr),O.fr,?_⟩⟩
  .simp only [av]at q1|-;obtain⟨cs,e1,e2⟩:=q1;refine⟨cs,e1,?_⟩;simp only [aD]at e2|-;obtain⟨y,ys,e3,G,V⟩:=e2;refine⟨y,ys,e3,?_,?_⟩
   .simp only [av]at G|-;exact⟨_,ah,0,gN _ _ _,G,bH _,λh=>(by cases h),.inl rfl⟩
   .obtain⟨z,zs,W,Z,e8⟩:=V;exact⟨z,zs,W,av.ext hx _ Z,e8⟩
  .intro id b hb;rcases uP hb with hb|⟨u,F⟩
   .obtain⟨rb,g1,g2⟩:=q2 id b hb;exact⟨rb,hx _ _ g1,g2.ext hx⟩
   .subst u;cases F;exact⟨_,gN _ _ _,.inl ⟨rfl,rfl⟩⟩
  .intro i j bi U ri rj hne hi hj hri r hw k q ⟨f1,f2⟩;rcases uP hi with hi|⟨u,F⟩
   .rw [lO _ _ (ne hi)]at hri;rcases uP hj with hj|⟨u,F⟩
    .rw [lO _ _ (ne hj)]at r;exact q3 i j bi U ri rj hne hi hj hri r hw k q ⟨f1,f2⟩
    .subst u;cases F;rw [gN]at r;cases r;exact I k q f2
   .subst u;cases F;rw [gN]at hri;cases hri;exact I k q f1
  .intro id hid;simp at hid;rw [lO _ _ ag];exact q4 id ag
  .rintro k q ⟨id,b,rb,e1,e2,e3,G⟩;rcases uP e1 with e1|⟨u,F⟩
   .rw [lO _ _ (ne e1)]at e2;exact O.own k q ⟨id,b,rb,e1,e2,e3,G⟩
   .subst u;cases F;rw [gN]at e2;cases e2;exact absurd G (I k q)
 |_=>exact hr
open Go.Proofs
def Af(l:List Hd)(now ep2:UInt64)(ds:List UInt8)(s nn:UInt8)(p:Nat):List Hd:=if s∈ds then i6 (de now (l.map (gu now))) p ⟨ep2,s,aP ep2 0 s,jS (nn+1),0,af⟩else []
def nv(ds:List UInt8)(s nn:UInt8):UInt8:=if s∈ds then nn+1 else nn
def sB(ds:List UInt8)(s:UInt8):List UInt8:=if s∈ds then ds.filter λd=>d !=s else []
def S9(id:Nat)(f:Bool):List UInt8->SV
 | []=> .slnil
 |d::ds=> .sl id 0 (d::ds).length 2 f
def LR:List UInt8->SB
 | []=> .ext .nm
 |d::ds=> .ro (aN (d::ds))
theorem S8{ds:List UInt8}(h:ds∈jI):LR ds= .ro (aN ds):=by
 cases ds with
 |nil=>exact absurd h aw
 |cons d ds=>rfl
theorem Ta(id:Nat)(f:Bool){ds:List UInt8}(h:ds∈jI):S9 id f ds= .sl id 0 ds.length 2 f:=by
 cases ds with
 |nil=>exact absurd h aw
 |cons d ds=>rfl
theorem Pr(l:List Hd)(hn:l.length<999999)(hM:MV M)(hX:bJ X=ab)(nn:UInt8){s:UInt8}(hs:s=0\/s=1\/s=2)(sm:Bool)(g:UInt8)(ep ep2 now:UInt64)(hlt:decide (ep2<=ep)=af)(r:decide (ep2<aF (aU 1))=af)(u:decide (ep2>aF (aU 1099511627776))=af){ds:List UInt8}(hm:(ds∈jI/\(sm=af\/(sm=ab/\g=5)))\/(ds= []/\sm=ab/\g=5))(f:Bool)(p:Nat)(hp:s∈ds->oC (de now (l.map (gu now))) (aP ep2 0 s) p):aQ 68 [.p 0 0,.agg (ln ep2 (S9 5 f ds)),.u64 now] [al (bA 1 3 M s sm g ep l.length),ao 164 (aI l),an X,an [.fn 28 [.p 4 0]],al [.u8 nn],aa (LR ds)] (.tup [.sl 8 0 (sB ds s).length 23 af,.i 0]) [al (bA 7 3 (.sl 6 0 ds.length 2 af) s ab 5 ep2 (Af l now ep2 ds s nn p).length),ah,an X,an [.fn 28 [.p 4 0]],al [.u8 (nv ds s nn)],aa (LR ds),ao 94 (aN ds),ao 164 (aI (Af l now ep2 ds s nn p)),ao 154 (qu (pq ep2 s (aP ep2 0 s) (jS (nn+1))) (sB ds s))]:=by
 rcases hm with⟨hm,F⟩|⟨rfl,rfl,rfl⟩
 .rw [Ta 5 f hm,S8 hm];by_cases h2:s∈ds
  .unfold Af nv sB;rw [if_pos h2,if_pos h2,if_pos h2];have el:(i6 (de now (l.map (gu now))) p ⟨ep2,s,aP ep2 0 s,jS (nn+1),0,af⟩).length=(de now (l.map (gu now))).length+1:=by have:=(hp h2).le;unfold i6;rw [aW,jM,eZ,fQ];omega
   rw [el];exact abN l hn hM hX nn hs sm g ep ep2 now F hlt r u hm h2 f p (hp h2)
  .unfold Af nv sB;rw [if_neg h2,if_neg h2,if_neg h2];exact(abP l hn hM hX nn hs sm g ep ep2 now F hlt r u hm h2 f).virtR 154 23 rfl
 .exact(abO l hn hM hX nn ep ep2 now hlt r u).virtR 154 23 rfl
theorem F0(i:Nat)(hi:i<3):aQ 31 [.i (i:Int)] [] (.agg [.u8 0,.u8 (cX i)]) []:=by
 match i,hi with
 |0,_=>
  refine NJ ?_;refine zq ?_;exact bE []
 |1,_=>
  refine NJ ?_;refine zq ?_;exact bE []
 |2,_=>
  refine NJ ?_;exact xU
abbrev eW(x y z:Bool):List SV:= .b x:: .b y:: .b z::aK 29 (.b af)
def ji(x y z:Bool):Nat->Bool
 |0=>x
 |1=>y
 |2=>z
 |_=>af
def mb(x y z:Bool):Nat->List UInt8
 |0=> []
 |i+1=>if ji x y z i=ab then mb x y z i++ [cX i]else mb x y z i
theorem Pj(x y z:Bool):∀i,(mb x y z i).length<=i
 |0=>bH _
 |i+1=>by
  have:=Pj x y z i;unfold mb;split
  .rw [aW];simp only [jM,oZ];omega
  .omega
theorem OD(x y z:Bool)(i:Nat)(h:3<=i):ji x y z i=af:=by
 match i,h with
 |i+3,_=>rfl
theorem Ph(x y z:Bool):∀i,mb x y z (i+3)=mb x y z 3
 |0=>rfl
 |i+1=>by
  have h:mb x y z (i+1+3)=if ji x y z (i+3)=ab then mb x y z (i+3)++ [cX (i+3)]else mb x y z (i+3):=rfl
  rw [h,OD x y z (i+3) ag,if_neg aw,Ph x y z i]
def nu(x y z:Bool):List UInt8:=mb x y z 3
theorem OI(x y z:Bool){i k:Nat}(hi:i<32)(hk:k=i):dz af 1 (eW x y z) k=aa (.b (ji x y z i)):=by
 subst hk
 match k,hi with
 |0,_=>rfl
 |1,_=>rfl
 |2,_=>rfl
 |i+3,hi=>
  have:(aK 29 (SV.b af))[i]?=aa (.b af):=by rw [List.getElem?_replicate];rw [if_pos (by omega)]
  simp only [dz,gE,if_false];exact this
theorem Zw(l:List UInt8)(d:UInt8){R:List SV}(hR:R= [.u8 0,.u8 d]):aN (l++ [d])=aB (l.length*2) (aG 0 (aN l))++aB (1*2) (aG 0 R):=by subst hR;rw [cq,cq,bW (by rw [Fz];exact bH _)];simp [aN]
theorem abL(x y z:Bool)(f:Bool)(hne:nu x y z≠ []):aM 67 [.sl 0 0 32 1 f] [an (eW x y z)] (.sl 1 0 (nu x y z).length 2 af) [ao 94 (aN (nu x y z))]:=by
 have hBp:bJ (eW x y z)=ab:=rfl;have r:= @OI x y z;generalize eW x y z=B at hBp r|-;refine aL (fn:=Tryz.f67) ?_;refine zp ?_;refine bT 32 (λi=> [(0,.sl 0 0 32 1 f),(3,.sl 1 0 (mb x y z i.1).length 2 af),(4,.i (i.1:Int))]) (λi=> [an B,ao 94 (aN (mb x y z i.1))]) 2 ?_ ?_
 .refine(cl.virt 3 94 2 rfl).trans ?_;exact bL [0,1]
 .rintro⟨i,hi⟩;dsimp only;have O:=Pj x y z i;by_cases hil:i<32
  .have e1:decide ((i:Int)<32)=ab:=aA;have ew:au ((i:Int)+1)=((i+1:Nat):Int):=cp;cases hb:ji x y z i with
   |true=>
    have F:mb x y z (i+1)=mb x y z i++ [cX i]:=by
     show(if ji x y z i=ab then _ else _)=_
     rw [hb,if_pos rfl]
    have U:i<3:=by
     rcases js i 3 with h|h
     .exact h
     .rw [OD x y z i h]at hb;cases hb
    have el:(mb x y z i++ [cX i]).length=(mb x y z i).length+1:=aq;obtain⟨j,hj⟩:=ax (i+1);have I:au ((i:Int)+1)=((i+1:Nat):Int):=ew;have u:i=0\/i=1\/i=2:=ag;rcases u with rfl|rfl|rfl
    all_goals
     conv=>whnf
     refine zW (du rfl) ?_;refine fW _ (aJ rfl (aJ hil ?_));conv=>whnf
     refine fW _ (aJ (r hil rfl) ?_);conv=>whnf
     first|refine du (by exact hb) ?_|fail
     refine zL ?_;first|(refine aJ ⟨by rw [Fz];omega,bH _,by show _*2<=_;omega⟩ ?_;conv=>whnf)|skip
     refine⟨⟨j,ag⟩,dt,?_⟩;dsimp only;rw [hj,F,el];refine bP [0,3] ?_ ?_
     .exact zo
     ·(repeat'(first|exact trivial|exact aY hBp rfl|exact aY (jG _) (Zw _ _ rfl)|refine aJ ?_ ?_|fail))<;>first|rfl|fail
   |false=>
    have F:mb x y z (i+1)=mb x y z i:=by
     show(if ji x y z i=ab then _ else _)=_
     rw [hb,if_neg aw]
    conv=>whnf
    first|refine du (by exact e1) ?_|fail
    conv=>whnf
    refine fW _ (aJ (bg (m:=i) rfl) (aJ hil ?_));conv=>whnf
    refine fW _ (aJ (r hil aq) ?_);conv=>whnf
    first|refine eV (by exact hb) ?_|fail
    conv=>whnf
    refine xI ?_;rw [F];refine bP [0,1] ?_ ?_
    ·(repeat'(first|exact trivial|refine aJ ?_ ?_|fail))<;>first|rfl|exact dh ag|fail
    .exact bU
  .have e1:decide ((i:Int)<32)=af:=aA;have G:mb x y z i=nu x y z:=by rw [show i=29+3 by omega];exact Ph x y z 29
   conv=>whnf
   first|refine eV (by exact e1) ?_|fail
   conv=>whnf
   rw [G];exact jy
theorem Yq:∀i,ji af af af i=af
 |0=>rfl
 |1=>rfl
 |2=>rfl
 |_+3=>rfl
theorem abM(f:Bool):aM 67 [.sl 0 0 32 1 f] [an (eW af af af)] .slnil []:=by
 have hBp:bJ (eW af af af)=ab:=rfl;have r:= @OI af af af;generalize eW af af af=B at hBp r|-;refine aL (fn:=Tryz.f67) ?_;refine zp ?_;refine bT 32 (λi=> [(0,.sl 0 0 32 1 f),(3,.slnil),(4,.i (i.1:Int))]) (λi=> [an B]) 1 ?_ ?_
 .exact bL [0]
 .rintro⟨i,hi⟩;dsimp only;by_cases hil:i<32
  .have e1:decide ((i:Int)<32)=ab:=aA;have ew:au ((i:Int)+1)=((i+1:Nat):Int):=cp;have hb:=Yq i;conv=>whnf
   first|refine du (by exact e1) ?_|fail
   conv=>whnf
   refine fW _ (aJ (bg (m:=i) rfl) (aJ hil ?_));conv=>whnf
   refine fW _ (aJ (r hil aq) ?_);conv=>whnf
   first|refine eV (by exact hb) ?_|fail
   conv=>whnf
   refine zC ?_;exact bL [0]
  .have e1:decide ((i:Int)<32)=af:=aA;conv=>whnf
   first|refine eV (by exact e1) ?_|fail
   conv=>whnf
   exact gH
structure Oe where
 to:UInt8
 fr:UInt8
 key:List UInt8
variable{o:Oe}
def GD(ep:UInt64)(o:Oe):List SV:= .u8 0:: .u8 o.to::pq ep o.fr (aP ep 0 o.fr) o.key
def gU(ep:UInt64)(l:List Oe):List SV:=l.flatMap (GD ep)
theorem GF(ep:UInt64)(o:Oe)(l:List Oe):gU ep (o::l)=GD ep o++gU ep l:=rfl
theorem Ry(ep:UInt64)(a b:List Oe):gU ep (a++b)=gU ep a++gU ep b:=by simp [gU]
theorem tL(ep:UInt64):∀l:List Oe,(gU ep l).length=l.length*23
 | []=>rfl
 |o::l=>by rw [GF,aW,tL ep l];show 23+_=(_+1)*23;omega
theorem GG(ep:UInt64):∀l:List Oe,bJ (gU ep l)=ab
 | []=>rfl
 |o::l=>by rw [GF,DH,GG ep l,Bool.and_true];rfl
theorem Sa(ep:UInt64)(s:UInt8)(key:List UInt8):∀r:List UInt8,qu (pq ep s (aP ep 0 s) key) r=gU ep (r.map λd=>⟨d,s,key⟩)
 | []=>rfl
 |d::r=>by rw [Ln,Sa ep s key r,iT,GF];rfl
theorem afm{l:List Oe}{i k:Nat}(h:l[i]?=aa o)(hk:k=i*23):dz ab 23 (gU ep l) k=aa (.agg (GD ep o)):=by
 subst hk;have hi:=(dA.1 h).1;have e:l=l.take i++o::l.drop (i+1):=by rw [<-(dA.1 h).2];simp
 have hl:(gU ep (l.take i)).length=i*23:=by rw [tL,eZ,jt (by omega)]
 have e2:gU ep l=gU ep (l.take i)++(GD ep o++gU ep (l.drop (i+1))):=by
  conv=>lhs;rw [e]
  rw [Ry,GF]
 rw [e2];simp only [dz,if_true];rw [List.drop_left' hl,vz az,if_pos (by rw [aW,aW,hl];show _+23<=_+(23+_);omega)]
def ny(l:List Hd)(kid:UInt64):Nat:=(l.takeWhile λx=>decide (x.kid<kid)).length
def nr(l:List Hd):Prop:=l.Pairwise λa b=>a.kid<b.kid
theorem DJ(h:nr l):oC l kid (ny l kid):=by
 induction l with
 |nil=>exact⟨bH _,λi x hi=>by simp [ny]at hi,λi x _ hx=>by simp at hx⟩
 |cons a l ih=>
  obtain⟨h1,h2⟩:=List.pairwise_cons.1 h;have ih:=ih h2;unfold ny at ih|-;by_cases r:a.kid<kid
  .rw [List.takeWhile_cons_of_pos (by simpa using r),jM];refine⟨by have:=ih.le;simp only [jM];omega,λi x hi hx=>?_,λi x hi hx=>?_⟩
   .cases i with
    |zero=>simp at hx;subst hx;exact r
    |succ i=>exact ih.lt i x ag wN
   .cases i with
    |zero=>omega
    |succ i=>exact ih.ge i x ag wN
  .rw [List.takeWhile_cons_of_neg (by simpa using r)];refine⟨kD _,λi x hi=>by simp at hi,λi x _ hx=>?_⟩;cases i with
   |zero=>simp at hx;subst hx;exact r
   |succ i=>
    have:=h1 x (jO wN);rw [gh]at this r|-;omega
theorem ac5{p:Nat}(h:∀x,x∈l->x.kid≠kid):rF l kid p=af:=by
 unfold rF;split
 .rename_i x hx;simpa using h x (jO hx)
 .rfl
def om(ep:UInt64)(l:List Hd)(o:Oe):List Hd:=i6 l (ny l (aP ep 0 o.fr)) ⟨ep,o.fr,aP ep 0 o.fr,o.key,0,af⟩
def gg(ep:UInt64)(j:UInt8):List Oe->List Hd->List Hd
 | [],l=>l
 |o::E,l=>gg ep j E (if(o.to==j)=ab then om ep l o else l)
theorem Vq(ep:UInt64)(j:UInt8):∀(E F:List Oe) (l:List Hd),gg ep j (E++F) l=gg ep j F (gg ep j E l)
 | [],F,l=>rfl
 |o::E,F,l=>Vq ep j E F _
theorem ML{j:UInt8}{E:List Oe}{i:Nat}(h:E[i]?=aa o):gg ep j (E.take (i+1)) l=if(o.to==j)=ab then om ep (gg ep j (E.take i) l) o else gg ep j (E.take i) l:=by rw [List.take_add_one,h,Vq];rfl
theorem QF(l:List Hd)(p:Nat)(hp:p<=l.length)(x:Hd):(i6 l p x).length=l.length+1:=by unfold i6;rw [aW,jM,eZ,fQ];omega
theorem TM(ep:UInt64)(l:List Hd)(o:Oe):(om ep l o).length=l.length+1:=QF _ _ ((List.takeWhile_sublist _).length_le) _
theorem MK(ep:UInt64)(j:UInt8):∀(E:List Oe) (l:List Hd),(gg ep j E l).length<=l.length+E.length
 | [],l=>bH _
 |o::E,l=>by
  have:=MK ep j E (if(o.to==j)=ab then om ep l o else l);show(gg ep j E _).length<=_
  simp only [jM];split at this
  .rw [TM]at this;rename_i h;rw [if_pos h];omega
  .rename_i h;rw [if_neg h];omega
abbrev kg(m me se ro fr op sl:Nat)(g:UInt8)(ep now:UInt64)(nd nf:Nat):List SV:= [.sl m 0 3 1 af,.sl me 0 3 1 af,.sl se 0 32 1 ab,.u8 g,.u8 0,.u8 0,.u8 0,.u8 0,.u8 0,.u8 0,.u8 0,.u8 0,.u8 0,.u8 0,.u8 0,.u8 0,.u8 0,.u8 0,.u8 0,.u64 ep,.sl ro 0 nd 2 af,.u64 now,.sl fr 0 nf 3 af,.mp op,.mp sl]
structure Mb where
 sm:Bool
 g:UInt8
 ep:UInt64
 ds:List UInt8
 l:List Hd
abbrev Mb.c(b:Mb)(hi xi di:Nat)(s:UInt8):List SV:=bA hi xi (.sl di 0 b.ds.length 2 af) s b.sm b.g b.ep b.l.length
def ka(ds:List UInt8)(s nn:UInt8):List Oe:=(sB ds s).map λd=>⟨d,s,jS (nn+1)⟩
structure Mb.Ok(b:Mb)(e2:UInt64):Prop where
 n:b.l.length<999999
 lt:decide (e2<=b.ep)=af
 sm:b.sm=af\/(b.sm=ab/\b.g=5)
 srt:nr b.l
def Ag(l:List Hd)(e2 now:UInt64)(ds:List UInt8)(s nn:UInt8):List Hd:=Af l now e2 ds s nn (ny (de now (l.map (gu now))) (aP e2 0 s))
theorem TB(now:UInt64)(h:nr l):nr (de now (l.map (gu now))):=by
 refine List.Pairwise.filter _ (List.pairwise_map.2 (h.imp fun{a b} hab=>?_));have e:∀x:Hd,(gu now x).kid=x.kid:=λx=>by unfold gu;(try split)<;>first|rfl|done
 rw [e,e];exact hab
theorem JI(b:Mb)(nn:UInt8){s:UInt8}(hs:s=0\/s=1\/s=2)(e2 now:UInt64)(hb:b.Ok e2)(r:decide (e2<aF (aU 1))=af)(u:decide (e2>aF (aU 1099511627776))=af){ds:List UInt8}(hd:ds∈jI):aQ 68 [.p 0 0,.agg (ln e2 (.sl 5 0 ds.length 2 af)),.u64 now] [al (b.c 1 3 2 s),ao 164 (aI b.l),an (aN b.ds),an [.fn 28 [.p 4 0]],al [.u8 nn],an (aN ds)] (.tup [.sl 8 0 (ka ds s nn).length 23 af,.i 0]) [al (bA 7 3 (.sl 6 0 ds.length 2 af) s ab 5 e2 (Ag b.l e2 now ds s nn).length),ah,an (aN b.ds),an [.fn 28 [.p 4 0]],al [.u8 (nv ds s nn)],an (aN ds),ao 94 (aN ds),ao 164 (aI (Ag b.l e2 now ds s nn)),ao 154 (gU e2 (ka ds s nn))]:=by have q:=Pr b.l hb.n (M:= .sl 2 0 b.ds.length 2 af) (λsel h=>by simp only [bG,h]) (X:=aN b.ds) (jG b.ds) nn hs b.sm b.g b.ep e2 now hb.lt r u (.inl ⟨hd,hb.sm⟩) af (ny (de now (b.l.map (gu now))) (aP e2 0 s)) (λ_=>DJ (TB now hb.srt));rw [Ta 5 af hd,S8 hd,Sa]at q;unfold ka;rw [dm];exact q
theorem L7{ds:List UInt8}(h:ds∈jI)(hd:d∈ds):d=0\/d=1\/d=2:=by have h3:∀ds,ds∈jI->∀d,d∈ds->d=0\/d=1\/d=2:=aw;exact h3 ds h d hd
theorem afl{ds:List UInt8}{s nn:UInt8}(h:o∈ka ds s nn):o.fr=s/\s∈ds/\o.to∈ds/\o.to≠s:=by
 unfold ka sB at h;obtain⟨d,hd,rfl⟩:=mw.1 h;split at hd
 .rename_i hs;obtain⟨h1,h2⟩:=List.mem_filter.1 hd;exact⟨rfl,hs,h1,mY⟩
 .exact absurd hd aq
def EP(e2:UInt64)(j:UInt8)(E:List Oe)(l:List Hd):Prop:=∀i o,E[i]?=aa o->o.to=j->nr (gg e2 j (E.take i) l)/\(∀x,x∈gg e2 j (E.take i) l->x.kid≠aP e2 0 o.fr)/\(gg e2 j (E.take i) l).length<1000000
theorem Ks(l:List Hd)(n:UInt8)(e2:UInt64)(he:CL e2){ds:List UInt8}(r:ds∈jI){j:UInt8}(key:List UInt8)(hj:j∈ds)(hd:d∈ds)(hne:j≠d)(h1:nr l)(h2:∀x,x∈l->x.kid≠aP e2 0 d)(h3:l.length<1000000):aQ 69 [.p 0 0,.agg (pq e2 d (aP e2 0 d) key)] [al (bA 1 3 (.sl 2 0 ds.length 2 af) j ab 5 e2 l.length),ao 164 (aI l),an (aN ds),an [.fn 28 [.p 4 0]],an [.u8 n]] (.i 0) [al (bA 5 3 (.sl 2 0 ds.length 2 af) j ab 5 e2 (om e2 l ⟨j,d,key⟩).length),ah,an (aN ds),an [.fn 28 [.p 4 0]],an [.u8 n],ao 164 (aI (om e2 l ⟨j,d,key⟩))]:=by have q:=abQ l h3 (ny l (aP e2 0 d)) e2 he (L7 r hd) (L7 r hj) (by simp only [beq_eq_false_iff_ne,ne_eq];exact λh=>hne h.symm) key (DJ h1) (ac5 h2) r hd hj n;rw [TM];exact q
theorem K6{ds:List UInt8}(h:ds∈jI)(s nn:UInt8):(ka ds s nn).length<=3:=by
 have h3:∀d,d∈jI->d.length<=3:=aw;unfold ka sB;rw [dm];split
 .exact jP (List.length_filter_le _ _) (h3 ds h)
 .exact kD _
theorem afn(ep:UInt64)(l d:List Oe)(hX:X=gU ep d):gU ep (l++d)=aB (l.length*23) (aG 0 (gU ep l))++aB (d.length*23) (aG 0 X):=by subst hX;rw [cq,cq,bW (by rw [tL];exact bH _),bW (by rw [tL];exact bH _),Ry]
theorem Tl(x:UInt64)(n:Nat)(h:n<64):(dr x n).toNat=x.toNat*2^n%2^64:=by unfold dr;rw [if_pos h,uv];have:(aF n).toNat%64=n:=aA;rw [this,nk]
theorem Ma(x:UInt64)(n:Nat)(h:n<64):(bh x n).toNat=x.toNat/2^n:=by unfold bh;rw [if_pos h,sr];have:(aF n).toNat%64=n:=aA;rw [this,np]
theorem Du(he:e.toNat<2^41)(hd:d.toNat<3):(aP e 0 d).toNat=e.toNat*32+d.toNat:=by unfold aP Lr;have u:(aF (aU 5)).toNat=5:=aw;have r:(0:UInt8).toUInt64*aF (aU 4)=0:=aw;rw [u,r,lY,lY,Tl _ _ aw,qU];simp only [UInt64.toNat_zero];omega
theorem Ao{u:UInt64}{r:UInt8}(he:e.toNat<2^41)(hd:d.toNat<3)(G:u.toNat<2^41)(F:r.toNat<3)(h:aP e 0 d=aP u 0 r):e=u/\d=r:=by have h1:=congrArg Be h;rw [Du he hd,Du G F]at h1;exact⟨dJ.1 ag,my.1 ag⟩
theorem KP(hb:b<=16):(cB b).toNat=2^b-1:=by have:∀b:Fin 17,(cB b.1).toNat=2^b.1-1:=aw;exact this ⟨b,ag⟩
theorem Ay(hb:b<=16):0<2^b/\2^b<=65536:=⟨Nat.pow_pos (by decide),by have:=uo (n:=2) (by decide) hb;omega⟩
theorem QP(hb:b<=16)(hp:p.toNat<2^47)(hg:g.toNat<2^b):(aV p b g).toNat=p.toNat*2^b+g.toNat:=by
 unfold aV;have h2:=Ay hb;have h3:p.toNat*2^b<2^64:=by have:p.toNat*2^b<=p.toNat*65536:=Nat.mul_le_mul_left _ h2.2;omega
 rw [Bg,mq,Tl _ _ ag,gq h3,<-nk,<-Nat.shiftLeft_add_eq_or_of_lt hg,nk]
theorem Gl(hb:b<=16)(hp:p.toNat<2^47)(hg:g.toNat<2^b):aV p b g&&&cB b=g:=by refine dJ.1 ?_;rw [wW,QP hb hp hg,KP hb,Nat.and_two_pow_sub_one_eq_mod,Nat.mul_comm,Nat.mul_add_mod,gq hg]
theorem Gm(hb:b<=16)(hp:p.toNat<2^47)(hg:g.toNat<2^b):bh (aV p b g) ((b:Nat):Int).toNat=p:=by refine dJ.1 ?_;rw [mq,Ma _ _ ag,QP hb hp hg,Nat.mul_comm,Nat.mul_add_div (Ay hb).1,vD hg,qT]
theorem BN{G F:UInt64}(hb:b<=16)(hp:p.toNat<2^47)(hg:g.toNat<2^b)(u:G.toNat<2^47)(r:F.toNat<2^b)(h:aV p b g=aV G b F):p=G/\g=F:=
 ⟨by rw [<-Gm hb hp hg,h,Gm hb u r],by rw [<-Gl hb hp hg,h,Gl hb u r]⟩
theorem adi(he:e.toNat<2^41)(hd:d.toNat<3):((aP e 0 d&&&aF (aU 31))/aF (aU 4)).toUInt8=0/\((aP e 0 d&&&aF (aU 31))%aF (aU 4)).toUInt8=d/\bh (aP e 0 d) (aF (aU 5)).toNat=e:=by
 have F:(aF (aU 5)).toNat=5:=aw;have r:(aF (aU 31)).toNat=2^5-1:=aw;have u:(aF (aU 4)).toNat=4:=aw;have n:=Du he hd;have h1:(aP e 0 d&&&aF (aU 31)).toNat=d.toNat:=by rw [wW,r,Nat.and_two_pow_sub_one_eq_mod,n];omega
 refine⟨my.1 ?_,my.1 ?_,dJ.1 ?_⟩
 .rw [oB,nL,h1,u];have:(0:UInt8).toNat=0:=rfl;omega
 .rw [oB,nM,h1,u];omega
 .rw [Ma _ _ (by rw [F];decide),F,n];omega
theorem SA(hb:b<=16)(hp:p.toNat<2^47):decide (p>bh qZ ((b:Int)).toNat)=af:=by
 rw [decide_eq_false_iff_not,GT.gt,gh,mq,Ma _ _ ag];have h2:=Ay hb;have r:qZ.toNat=2^64-1:=aw;rw [r];have:2^47<=(2^64-1)/2^b:=by rw [Nat.le_div_iff_mul_le h2.1];have:2^47*2^b<=2^47*65536:=Nat.mul_le_mul_left _ h2.2;omega
 omega
theorem akf{a b r u:UInt64}(h:pI a b=pI r u):a=r/\b=u:=by
 unfold pI at h;injection h with h
 have:=congrArg Array.toList h;simp only [List.cons.injEq,Value.int.injEq,true_and,and_true]at this;exact⟨dJ.1 ag,dJ.1 ag⟩
theorem VK{i F:Nat}{a b r u:UInt64}(h:jx (i:Int) a b=jx (F:Int) r u):i=F/\a=r/\b=u:=by
 unfold jx at h;injection h with h
 have:=congrArg Array.toList h;simp only [List.cons.injEq,Value.int.injEq,true_and,and_true]at this;exact⟨ag,dJ.1 ag,dJ.1 ag⟩
theorem Lb{t:Nat}{K N A X Y:List UInt8}(hl:Y.length=X.length)(ht:Y.take (jj t X)=X.take (jj t X))(hne:Y≠X)(ok:rQ t K N A X=ab):rQ t K N A Y=af:=by
 have hc:jj t Y=jj t X:=by unfold jj;rw [hl]
 unfold rQ at ok|-;rw [fI,decide_eq_true_eq,decide_eq_true_eq]at ok;rw [hc,ht,ok.2,Bool.and_eq_false_iff];refine .inr (decide_eq_false λh=>hne ?_);rw [<-nJ (jj t X) Y,ht,<-h,nJ]
theorem RP{w:List UInt8}{R:Nat}{N A X Y:List UInt8}(hl:Y.length=X.length)(ht:Y.take (gr X)=X.take (gr X))(hne:Y≠X)(ok:jD w R N A X=ab):jD w R N A Y=af:=by
 have hc:gr Y=gr X:=by unfold gr;rw [hl]
 unfold jD at ok|-;rw [fI,decide_eq_true_eq,decide_eq_true_eq]at ok;rw [hc,ht,ok.2,Bool.and_eq_false_iff];refine .inr (decide_eq_false λh=>hne ?_);rw [<-nJ (gr X) Y,ht,<-h,nJ]
theorem af2(h:1<=s.toNat)(h2:s.toNat<=5){K N A X Y:List UInt8}(hl:Y.length=X.length)(hx:dH s<=X.length)(ht:Y.take (X.length-dH s)=X.take (X.length-dH s))(hne:Y≠X)(ok:mM s K N A X=ab):mM s K N A Y=af:=by
 have r:∀t,t=dH s->jj t X=X.length-dH s:=λt e=>by subst e;rfl
 rcases qG h h2 with rfl|rfl|rfl|rfl|rfl
 .exact Lb hl (by rw [r _ rfl];exact ht) hne ok
 .exact Lb hl (by rw [r _ rfl];exact ht) hne ok
 .exact Lb hl (by rw [r _ rfl];exact ht) hne ok
 .exact RP hl ht hne ok
 .exact RP hl ht hne ok
def rA(s:UInt16)(b:Nat)(K:List UInt8)(p g c:UInt64)(P:List UInt8):List UInt8:=bF (aV p b g) c++mA s (dR s (aV p b g) (dp s K g.toNat)) (bf (dP s (aV p b g) (dp s K g.toNat)) c) (bF (aV p b g) c) P
theorem Ku(h:1<=s.toNat)(h2:s.toNat<=5)(b:Nat)(K:List UInt8)(p g c:UInt64)(P:List UInt8):(rA s b K p g c P).length=(bF (aV p b g) c).length+(P.length+dH s):=by unfold rA;rw [aW,Bp h h2]
section
variable {s:UInt16} (h:1<=s.toNat) (h2:s.toNat<=5) {b:Nat} (hb:b<=16) (K:List UInt8) {p g:UInt64} (hp:p.toNat<2^47) (hg:g.toNat<2^b) (c:UInt64) {P:List UInt8} (hP:P.length<=400)
include h h2 hb hp hg hP
theorem Qr{X:List UInt8}{v:Bool}{Q:List UInt8}(hX:X.length=P.length+dH s)(hv:mM s (dR s (aV p b g) (dp s K g.toNat)) (bf (dP s (aV p b g) (dp s K g.toNat)) c) (bF (aV p b g) c) X=v)(hq:v=ab->mh s (dR s (aV p b g) (dp s K g.toNat)) (bf (dP s (aV p b g) (dp s K g.toNat)) c) X=Q):ux s b p K g c (bF (aV p b g) c++X) (bF (aV p b g) c).length v Q:=by
 have hl:=sC (aV p b g) c;have ht:=Co s;refine⟨⟨h,h2,?_,BJ _ _ _,?_,?_,hl.2,?_,ag,?_,?_⟩,Gl hb hp hg,?_,?_⟩
 .rw [aW,hX];omega
 .rw [Gm hb hp hg];simp
 .rw [Gl hb hp hg]
 .rw [aW];omega
 .rw [aW,hX];omega
 .rw [aW,hX];omega
 .rw [sZ,qP];exact hv
 .rw [qP];exact hq
theorem acd:ux s b p K g c (rA s b K p g c P) (bF (aV p b g) c).length ab P:=by have q:=Lh h h2 (dR s (aV p b g) (dp s K g.toNat)) (bf (dP s (aV p b g) (dp s K g.toNat)) c) (bF (aV p b g) c) P;exact Qr h h2 hb K hp hg c hP (Bp h h2 _ _ _ _) q.1 λ_=>q.2
theorem acb{i:Nat}(hi:i<4){v:UInt8}(hv:(rA s b K p g c P)[(rA s b K p g c P).length-1-i]?≠aa v)(Q:List UInt8):ux s b p K g c ((rA s b K p g c P).set ((rA s b K p g c P).length-1-i) v) (bF (aV p b g) c).length af Q:=by
 have q:=Lh h h2 (dR s (aV p b g) (dp s K g.toNat)) (bf (dP s (aV p b g) (dp s K g.toNat)) c) (bF (aV p b g) c) P;have hn:=Ku h h2 b K p g c P;have ht:=Co s;have hx:=Bp h h2 (dR s (aV p b g) (dp s K g.toNat)) (bf (dP s (aV p b g) (dp s K g.toNat)) c) (bF (aV p b g) c) P;generalize hX:mA s (dR s (aV p b g) (dp s K g.toNat)) (bf (dP s (aV p b g) (dp s K g.toNat)) c) (bF (aV p b g) c) P=X at q hx;have r:rA s b K p g c P=bF (aV p b g) c++X:=by unfold rA;rw [hX]
 rw [r]at hv hn|-;rw [hn]at hv|-;rw [List.set_append_right _ _ ag];rw [iR ag]at hv;refine Qr h h2 hb K hp hg c hP (by rw [fJ];exact hx) (af2 h h2 (fJ ..) ag ?_ ?_ q.1) λh=>(by cases h)
 .rw [List.take_set_of_le ag]
 .intro e;refine hv ?_;rw [<-e,uk (by rw [hx];omega)]
end
theorem abS(r:List Hd)(hn:r.length<1000000)(hM:MV M)(hX:bJ X=ab)(nn dv g:UInt8)(ep:UInt64)(s:UInt16)(b:Nat)(z:Option il)(R:List ij)(F:Nat)(l:List AE)(fs:List FE)(pF:cC)(I:aX pF∈fs)(O:pF.2.2.length<1000000)(u:Nat)(G c:UInt64)(hT:fg pF.2.2=aa (u,G,c))(kid:UInt64)(hkid:bh G ((b:Nat):Int).toNat=kid)(d:UInt8)(hd0:((kid&&&aF (aU 31))/aF (aU 4)).toUInt8=0)(hd1:((kid&&&aF (aU 31))%aF (aU 4)).toUInt8=d)(e:Int)(he:pz r d (bh kid (aF (aU 5)).toNat) ab ep=e)(hne:(e !=0)=ab):aQ 72 [.p 5 0,.slnil,.lit pF.1] [an (bA 1 3 M dv ab g ep r.length),an (aI r),an X,an [.fn 28 [.p 4 0]],an [.u8 nn],an (db 0 6 s b (fV z) (fv 8 z)),aa (.ext (.lit (dX R F))),aa (.ext (.ar l fs)),an (cT s b 9 z),ak (dG z)] (.tup [.slnil,.agg [.u8 0,.u8 0],.i e]) [an (bA 1 3 M dv ab g ep r.length),an (aI r),an X,an [.fn 28 [.p 4 0]],an [.u8 nn],an (db 0 6 s b (fV z) (fv 8 z)),aa (.ext (.lit (dX (sL R kid) F))),aa (.ext (.ar l fs)),an (cT s b 9 z),ak (dG z)]:=by
 have q0:=f17 pF.2.2 ag;rw [hT]at q0;have qt:=bV.lend (f:=27) (p:=pF) (Y:= .ar l fs) [] (bs:= []) 0 1 q0 (.inr ⟨l,rfl⟩) I rfl aw rfl rfl ⟨.inl rfl,trivial⟩ ⟨.inl rfl,trivial⟩ (bH _) (λid b h hb=>by match id,h with|0,h=>exact .inl rfl|id+1,h=>simp [hg]at h);have qk:=Kj r hn d (bh kid (aF (aU 5)).toNat) hM hX nn dv ab g ep;rw [he]at qk;refine aL (fn:=Tryz.f72) ?_;refine zM ?_;refine zW (aE [7] [ab] ab qt) ?_;refine zq ?_;rw [hkid,hd0,hd1];refine zW (aE [0,1,2,3,4] [af,af,af,af,af] ab qk) ?_;repeat(first|refine zW (bl hne) ?_|refine zf ?_)
 refine zW (afC 6 rfl rfl (by kernel_rfl:Tryz.prog.underlying 143=aa (.map 24 209)) (by kernel_rfl:Tryz.prog.underlying 24=aa (.int .u64)) rfl rfl rfl) ?_;refine zq ?_;exact EA
def tJ(s:UInt16)(pF:cC)(u:Nat)(d:UInt8)(e:Int):SV:=if e=0 then .tup [.sl 10 0 (pF.2.2.length-u-dH s) 1 af,.agg [.u8 0,.u8 d],.i 0]else .tup [.slnil,.agg [.u8 0,.u8 0],.i e]
theorem abT(G:List Hd)(hn:G.length<1000000)(hM:MV M)(hX:bJ X=ab)(nn dv g:UInt8)(ep:UInt64)(s:UInt16)(b:Nat)(z:Option il)(R:List ij)(U:Nat)(l:List AE)(fs:List FE)(pF:cC)(V:aX pF∈fs)(Z:pF.2.2.length<1000000)(u:Nat)(F c:UInt64)(hT:fg pF.2.2=aa (u,F,c))(kid:UInt64)(hkid:bh F ((b:Nat):Int).toNat=kid)(d:UInt8)(hd0:((kid&&&aF (aU 31))/aF (aU 4)).toUInt8=0)(hd1:((kid&&&aF (aU 31))%aF (aU 4)).toUInt8=d)(he:pz G d (bh kid (aF (aU 5)).toNat) ab ep=0){x:Rk}(hx:EO x s b kid)(hf:EM s b kid pF.2.2 u F c){q:Rp}{j k t:Nat}(hj:R[j]?=aa (kid,(q.r,q.o),t))(hjl:∀n y,n<j->R[n]?=aa y->(kid==y.1)=af)(W:q.pa.2.2=x.a.d)(hb:q.pb.2.2=x.b.d)(hl:l[k]?=aa (q.ae x))(m1:aX q.pa∈fs)(m2:aX q.pb∈fs)(I:∀q1 q2:cC,q1.2.2=(gd x F c pF.2.2 u).2.1.a.d->q2.2.2=(gd x F c pF.2.2 u).2.1.b.d->Φ (tJ s pF u d (gd x F c pF.2.2 u).1) ([an (bA 1 3 M dv ab g ep G.length),an (aI G),an X,an [.fn 28 [.p 4 0]],an [.u8 nn],an (db 0 6 s b (fV z) (fv 8 z)),aa (.ext (.lit (dX R U))),aa (.ext (.ar (l.set k ((⟨q.r,q.o,q1,q2⟩:Rp).ae (gd x F c pF.2.2 u).2.1)) (aX q1::aX q2::fs))),an (cT s b 9 z),ak (dG z)]++nA (gd x F c pF.2.2 u).2.2 F c pF.2.2 u (gd x F c pF.2.2 u).1)):fc Tryz.prog 72 [.p 5 0,.slnil,.lit pF.1] [an (bA 1 3 M dv ab g ep G.length),an (aI G),an X,an [.fn 28 [.p 4 0]],an [.u8 nn],an (db 0 6 s b (fV z) (fv 8 z)),aa (.ext (.lit (dX R U))),aa (.ext (.ar l fs)),an (cT s b 9 z),ak (dG z)] Φ:=by
 have q0:=f17 pF.2.2 ag;rw [hT]at q0;have qt:=bV.lend (f:=27) (p:=pF) (Y:= .ar l fs) [] (bs:= []) 0 1 q0 (.inr ⟨l,rfl⟩) V rfl aw rfl rfl ⟨.inl rfl,trivial⟩ ⟨.inl rfl,trivial⟩ (bH _) (λid b h hb=>by match id,h with|0,h=>exact .inl rfl|id+1,h=>simp [hg]at h);have qk:=Kj G hn d (bh kid (aF (aU 5)).toNat) hM hX nn dv ab g ep;rw [he]at qk;have O:=Te (pF:=pF) rfl hx hf W hb hl m1 m2 V;by_cases h0:(gd x F c pF.2.2 u).1=0
 .skip
  unfold Ci AG nA at O;unfold tJ nA at I;rw [if_pos h0,if_pos h0]at O I;refine yW ?_;refine D3 (zs:= [.lp q.r q.o,.slnil,.lit pF.1]) (caps:= []) [7] [ab,ab] af bD O rfl rfl rfl rfl rfl rfl rfl ⟨rfl,trivial⟩ rfl ?_;rintro ret H1 ⟨rfl,q1,q2,e1,e2,rfl⟩;refine⟨IU,rfl,?_⟩;refine y8 ?_;refine zq ?_;refine⟨_,_,I q1 q2 e1 e2,?_⟩;conv=>whnf
  refine yl ?_;exact bE [0,1,2,3,4,5,6,7,8,9,13]
 .skip
  have hne:((gd x F c pF.2.2 u).1 !=0)=ab:=by simpa using h0
  unfold Ci AG nA at O;unfold tJ nA at I;rw [if_neg h0,if_neg h0]at O I;refine yW ?_;refine D3 (zs:= [.lp q.r q.o,.slnil,.lit pF.1]) (caps:= []) [7] [ab,ab] ab bD O rfl rfl rfl rfl rfl rfl rfl ⟨rfl,trivial⟩ rfl ?_;rintro ret H1 ⟨rfl,q1,q2,e1,e2,rfl⟩;refine WL ?_;refine⟨_,_,I q1 q2 e1 e2,?_⟩;conv=>whnf
  refine yl ?_;exact EA
def kQ(s:UInt16)(b:Nat)(p:UInt64)(d:List UInt8):Rk:=⟨⟨s,p,b,0,d,af,af,0,qK⟩,⟨0,0,0,0,[],af,af,0,qK⟩,af⟩
theorem ahy{d:List UInt8}(h0:0<d.length)(h1:d.length<=1024):EO (kQ s b p d) s b p:=⟨rfl,rfl,rfl,rfl,rfl,rfl,rfl,⟨h0,h1⟩,λh=>by cases h⟩
theorem Tj{α:Type}(l:List α)(x y:α):(l++ [x]).set l.length y=l++ [y]:=by rw [List.set_append_right _ _ (bH _),pR];rfl
theorem abU(I:List Hd)(hn:I.length<1000000)(hM:MV M)(hX:bJ X=ab)(nn dv g:UInt8)(ep:UInt64)(s:UInt16)(b:Nat)(z:Option il)(R:List ij)(W:Nat)(l:List AE)(fs:List FE)(pF:cC)(mF:aX pF∈fs)(hF:pF.2.2.length<1000000)(u:Nat)(F c:UInt64)(hT:fg pF.2.2=aa (u,F,c))(kid:UInt64)(hkid:bh F ((b:Nat):Int).toNat=kid)(d:UInt8)(hd0:((kid&&&aF (aU 31))/aF (aU 4)).toUInt8=0)(hd1:((kid&&&aF (aU 31))%aF (aU 4)).toUInt8=d)(he:pz I d (bh kid (aF (aU 5)).toNat) ab ep=0)(h6:1<=s.toNat)(h7:s.toNat<=5)(hb:b<=16)(hpx:decide (kid>bh qZ ((b:Int)).toNat)=af)(K:List UInt8)(hK:vR I d (bh kid (aF (aU 5)).toNat)=K)(U:0<K.length)(V:K.length<=1024)(hf:EM s b kid pF.2.2 u F c)(hR:∀y,y∈R->(kid==y.1)=af)(O:∀r o (p1 p2 q1 q2:cC),q1.2.2=(gd (kQ s b kid K) F c pF.2.2 u).2.1.a.d->q2.2.2=(gd (kQ s b kid K) F c pF.2.2 u).2.1.b.d->Φ (tJ s pF u d (gd (kQ s b kid K) F c pF.2.2 u).1) ([an (bA 1 3 M dv ab g ep I.length),an (aI I),an X,an [.fn 28 [.p 4 0]],an [.u8 nn],an (db 0 6 s b (fV z) (fv 8 z)),aa (.ext (.lit (dX (R++ [(kid,(r,o),W)]) (W+1)))),aa (.ext (.ar (l++ [(⟨r,o,q1,q2⟩:Rp).ae (gd (kQ s b kid K) F c pF.2.2 u).2.1]) (aX q1::aX q2::aX p1::aX p2::fs))),an (cT s b 9 z),ak (dG z)]++nA (gd (kQ s b kid K) F c pF.2.2 u).2.2 F c pF.2.2 u (gd (kQ s b kid K) F c pF.2.2 u).1)):fc Tryz.prog 72 [.p 5 0,.slnil,.lit pF.1] [an (bA 1 3 M dv ab g ep I.length),an (aI I),an X,an [.fn 28 [.p 4 0]],an [.u8 nn],an (db 0 6 s b (fV z) (fv 8 z)),aa (.ext (.lit (dX R W))),aa (.ext (.ar l fs)),an (cT s b 9 z),ak (dG z)] Φ:=by
 have q0:=f17 pF.2.2 ag;rw [hT]at q0;have qt:=bV.lend (f:=27) (p:=pF) (Y:= .ar l fs) [] (bs:= []) 0 1 q0 (.inr ⟨l,rfl⟩) mF rfl aw rfl rfl ⟨.inl rfl,trivial⟩ ⟨.inl rfl,trivial⟩ (bH _) (λid b h hb=>by match id,h with|0,h=>exact .inl rfl|id+1,h=>simp [hg]at h);have qk:=Kj I hn d (bh kid (aF (aU 5)).toNat) hM hX nn dv ab g ep;rw [he]at qk;rw [hK]at qk;have q8:=λf=>aa6 h6 h7 kid b hb hpx K U V f
 have G:∀r o (p1 p2:cC),p1.2.2=K->p2.2.2= []->_:=λr o p1 p2 e1 e2=>Te (pF:=pF) (l:=l++ [(⟨r,o,p1,p2⟩:Rp).ae (kQ s b kid K)]) (fs:=aX p1::aX p2::fs) (k:=l.length) (q:=⟨r,o,p1,p2⟩) rfl (ahy U V) hf e1 e2 aq (kX ..) (jN _ (kX ..)) (jN _ (jN _ mF))
 by_cases h0:(gd (kQ s b kid K) F c pF.2.2 u).1=0
 .skip
  unfold Ci AG nA at G;unfold tJ nA at O;rw [if_pos h0,if_pos h0]at O;simp only [h0,if_true,Tj]at G;refine zS ?_;refine yn ?_;intro r o p1 p2 d1 Z;have G:=G r o p1 p2 d1 Z;refine x8 ?_;refine D3 (zs:= [.lp r o,.slnil,.lit pF.1]) (caps:= []) [7] [ab,ab] af bD G rfl rfl rfl rfl rfl rfl rfl ⟨rfl,trivial⟩ rfl ?_;rintro ret H1 ⟨rfl,q1,q2,e1,e2,rfl⟩;refine⟨IU,rfl,?_⟩;refine y8 ?_;refine zq ?_;refine⟨_,_,O r o p1 p2 q1 q2 e1 e2,?_⟩;conv=>whnf
  refine yl ?_;exact bE [0,1,2,3,4,5,6,7,8,9,16]
 .skip
  have hne:((gd (kQ s b kid K) F c pF.2.2 u).1 !=0)=ab:=by simpa using h0
  unfold Ci AG nA at G;unfold tJ nA at O;rw [if_neg h0,if_neg h0]at O;simp only [h0,if_false,Tj]at G;refine zS ?_;refine yn ?_;intro r o p1 p2 d1 Z;have G:=G r o p1 p2 d1 Z;refine x8 ?_;refine D3 (zs:= [.lp r o,.slnil,.lit pF.1]) (caps:= []) [7] [ab,ab] ab bD G rfl rfl rfl rfl rfl rfl rfl ⟨rfl,trivial⟩ rfl ?_;rintro ret H1 ⟨rfl,q1,q2,e1,e2,rfl⟩;refine WL ?_;refine⟨_,_,O r o p1 p2 q1 q2 e1 e2,?_⟩;conv=>whnf
  refine yl ?_;exact EA
end Go.Sh
namespace Go.Sh
variable{H H0:HL}{args:List SV}{L f:Nat}{P:Program}{R:RL}{Φ:SV->HL->Prop}
theorem HC{N:Nat}{r:Array Oper}{Q:RL->HL->Nat->Prop}{o:Oper}{u:List Oper}{d:Nat}{x:Operand}{args:Array Operand}{tys:Array TypeId}{caps zs args0:List SV}(sel:List Nat)(hd:rz N r=ab)
  (hc:fc P f args0 H0 Φ) (ho:o.op= .call ⟨.value x,args,tys⟩) (hgp:nU r o (rg R)=aa ab) (hdst:o.dst=aa d) (hx:aZ (rg R) x=aa (.fn f caps)) (hargs:args.toList.map (aZ (rg R))=zs.map aa) (hren:bu sel args0=aa (zs++caps))
  (cx:sel.length=H0.length) (hok:iF sel H sel H0) (hdu:iA sel 0 sel H0=ab)
  (h:∀ret H1,Φ ret H1->∃H1r z,pG (sel++dc L (H1.length-H0.length)) H1 H1r/\bG (sel++dc L (H1.length-H0.length)) ret=aa z/\(match iZ (sel++dc L (H1.length-H0.length)) H0 H1r with
   |some W=>qX P N r Q u ((d,z)::R) (uQ H W) (L+(H1.length-H0.length))
   | none => False)) : qX P N r Q (o :: u) R H L := by
 refine Tw sel hd hc ho hgp hdst hx hargs hren cx hok hdu λret H1 F=>?_
 obtain⟨H1r,z,h1,h2,h3⟩:=h ret H1 F;split at h3
 .rename_i W hW;exact⟨W,z,ze _ _ _ _ _ h1 hW,h2,by rw [<-Dp];exact h3⟩
 .exact h3.elim
theorem bV.virtB{H1:HL}{ret:SV}(h:bV P f args H0 ret H1)(q k t sz:Nat){l:List SV}(hl:eU H0.length H1.length=ab)(hq:hg H1 q=aa (.box l))(hx:l[k]?=aa .slnil):bV P f args H0 ret (H1.set q (aa (.box (l.set k (.sl H1.length 0 0 sz af))))++ [aa (.row t [])]):=by
 have hle:=cr hl;have G:q<H1.length:=by unfold hg at hq;rcases js q H1.length with h|h;exact h;rw [dI h]at hq;simp at hq
 have hg2:∀{id b},hg (H1.set q (aa (.box (l.set k (.sl H1.length 0 0 sz af))))++ [aa (.row t [])]) id=aa b->(id=H1.length/\b= .row t [])\/(id=q/\b= .box (l.set k (.sl H1.length 0 0 sz af)))\/(id≠q/\id<H1.length/\hg H1 id=aa b):=fun{id b} hb=>by
  rcases uP hb with hb|⟨e1,e2⟩
  .by_cases e:id=q
   .subst e;unfold hg at hb;rw [uk G]at hb;cases hb;exact .inr (.inl ⟨rfl,rfl⟩)
   .have hb2:hg H1 id=aa b:=by unfold hg at hb|-;rwa [List.getElem?_set_ne (λh=>e h.symm)]at hb
    refine .inr (.inr ⟨e,?_,hb2⟩);unfold hg at hb2;rcases js id H1.length with h|h;exact h;rw [dI h]at hb2;simp at hb2
  .refine .inl ⟨by rw [e1,fJ],?_⟩;cases e2;rfl
 refine⟨h.fn,λn ρ w vs a b c d=>(h.call n ρ w vs a b c d).mono λen w' hr=>?_⟩;cases en with
 |returned v=>
  obtain⟨ρ1,q1,q2,q3,q4,V⟩:=hr;have hn:=q4 _ (bH _);have hx2:fK ρ1 (setR ρ1 H1.length ⟨0,0,0,ab⟩):=fK.setR _ hn;have em:∀k q,¬foot ⟨0,0,0,ab⟩ (.row t []) k q:=λk q hf=>by cases hf.1
  have hf:∀rb kk o,foot rb (.box (l.set k (.sl H1.length 0 0 sz af))) kk o↔foot rb (.box l) kk o:=λrb kk o=>by simp only [foot,fJ]
  have u:∀{id b r},hg (H1.set q (aa (.box (l.set k (.sl H1.length 0 0 sz af))))++ [aa (.row t [])]) id=aa b->setR ρ1 H1.length ⟨0,0,0,ab⟩ id=aa r->(id=H1.length/\∀k q,¬foot r b k q)\/∃F,hg H1 id=aa F/\ρ1 id=aa r/\F.own=b.own/\∀k q,foot r b k q↔foot r F k q:=fun{id b r} hb hr=>by
   rcases hg2 hb with⟨e,rfl⟩|⟨e,rfl⟩|⟨e,e2,e3⟩
   .subst e;rw [gN]at hr;cases hr;exact .inl ⟨rfl,em⟩
   .subst e;rw [lO _ _ ag]at hr;exact .inr ⟨_,hq,hr,rfl,λk q=>hf _ _ _⟩
   .rw [lO _ _ ag]at hr;exact .inr ⟨_,e3,hr,rfl,λk q=>qO⟩
  refine⟨setR ρ1 H1.length ⟨0,0,0,ab⟩,av.ext hx2 _ q1,?_,?_,?_,⟨λid hid rb hr=>hx2 id rb (V.ext id hid rb hr),V.fr,?_⟩⟩
  .intro id b hb;rcases hg2 hb with⟨e,rfl⟩|⟨e,rfl⟩|⟨e,e2,e3⟩
   .subst e;exact⟨_,gN _ _ _,.inl ⟨rfl,rfl⟩⟩
   .subst e;obtain⟨rb,h1,⟨c,t,fz,g1,g2,g3,g4,g5⟩,g6,g7⟩:=q2 id _ hq;refine⟨rb,hx2 _ _ h1,⟨c,t,fz,g1,Jh g2 rfl,?_,g4,by rw [fJ];exact g5⟩,by rw [fJ];exact g6,g7⟩;rw [fJ];refine SO (aD.ext hx2 _ g3) hx λv hv=>?_
    simp only [av]at hv|-;exact⟨_,ah,0,gN _ _ _,hv,bH _,λh=>(by cases h),.inl rfl⟩
   .obtain⟨rb,g1,g2⟩:=q2 id b e3;exact⟨rb,hx2 _ _ g1,g2.ext hx2⟩
  .intro i j bi bj ri rj hne hi hj hri I hw kk o ⟨f1,f2⟩;rcases u hi hri with⟨_,g⟩|⟨W,i1,i2,O,U⟩
   .exact g _ _ f1
   .rcases u hj I with⟨_,g⟩|⟨F,j1,j2,j3,j4⟩
    .exact g _ _ f2
    .exact q3 i j _ _ _ _ hne i1 j1 i2 j2 (by rw [O];exact hw) kk o ⟨(U _ _).1 f1,(j4 _ _).1 f2⟩
  .intro id hid;simp at hid;rw [lO _ _ ag];exact q4 id ag
  .rintro kk o ⟨id,b,rb,e1,e2,e3,Z⟩;rcases u e1 e2 with⟨_,g⟩|⟨W,i1,i2,O,U⟩
   .exact absurd Z (g _ _)
   .exact V.own kk o ⟨id,W,rb,i1,i2,by rw [O];exact e3,(U _ _).1 Z⟩
 |_=>exact hr
theorem bV.more{H1:HL}{ret:SV}(h:bV P f args H0 ret H1)(X:SB)(hl:eU H0.length H1.length=ab)(hX:∀ρ w,iX ρ (hg H1) w->∃rb,(∀ρ2,cd ρ2 w rb X)/\∀k o,¬foot rb X k o):bV P f args H0 ret (H1++ [aa X]):=by
 have hle:=cr hl;refine⟨h.fn,λn ρ w vs a b c d=>(h.call n ρ w vs a b c d).mono λen Z hr=>?_⟩;cases en with
 |returned v=>
  obtain⟨ρ1,q1,q2,q3,q4,I⟩:=hr;obtain⟨U,x1,G⟩:=hX ρ1 Z q2;have hx:fK ρ1 (setR ρ1 H1.length U):=fK.setR _ (q4 _ (bH _));have ne:∀{id b},hg H1 id=aa b->id≠H1.length:=fun{id b} hb e=>by subst e;unfold hg at hb;rw [dI (bH _)]at hb;simp at hb
  refine⟨setR ρ1 H1.length U,av.ext hx _ q1,?_,?_,?_,⟨λid hid rb hr=>hx id rb (I.ext id hid rb hr),I.fr,?_⟩⟩
  .intro id b hb;rcases uP hb with hb|⟨u,F⟩
   .obtain⟨rb,g1,g2⟩:=q2 id b hb;exact⟨rb,hx _ _ g1,g2.ext hx⟩
   .subst u;cases F;exact⟨_,gN _ _ _,x1 _⟩
  .intro i j bi V ri W hne hi hj hri r hw k q ⟨f1,f2⟩;rcases uP hi with hi|⟨u,F⟩
   .rw [lO _ _ (ne hi)]at hri;rcases uP hj with hj|⟨u,F⟩
    .rw [lO _ _ (ne hj)]at r;exact q3 i j bi V ri W hne hi hj hri r hw k q ⟨f1,f2⟩
    .subst u;cases F;rw [gN]at r;cases r;exact G k q f2
   .subst u;cases F;rw [gN]at hri;cases hri;exact G k q f1
  .intro id hid;simp at hid;rw [lO _ _ ag];exact q4 id ag
  .rintro k q ⟨id,b,rb,e1,e2,e3,O⟩;rcases uP e1 with e1|⟨u,F⟩
   .rw [lO _ _ (ne e1)]at e2;exact I.own k q ⟨id,b,rb,e1,e2,e3,O⟩
   .subst u;cases F;rw [gN]at e2;cases e2;exact absurd O (G k q)
 |_=>exact hr
section
variable {P:Program} {f:Nat} {args:List SV} {H0 H1:HL} {ret:SV}
theorem bV.moreAr(h:bV P f args H0 ret H1)(hl:eU H0.length H1.length=ab):bV P f args H0 ret (H1++ [aa (.ext (.ar [] []))]):=
 h.more _ hl λ_ _ _=>⟨⟨0,0,0,ab⟩,λ_=>⟨⟨λe he=>by simp at he,.nil⟩,λe he=>by simp at he,λe he=>by simp at he⟩,λk o hf=>by
  rcases hf with⟨e,he,_⟩|⟨e,he,_⟩<;>simp at he⟩
theorem bV.moreRow(h:bV P f args H0 ret H1)(t:Nat)(hl:eU H0.length H1.length=ab):bV P f args H0 ret (H1++ [aa (.row t [])]):=
 h.more _ hl λ_ _ _=>⟨⟨0,0,0,ab⟩,λ_=> .inl ⟨rfl,rfl⟩,λk o hf=>by cases hf.1⟩
theorem bV.moreBox(h:bV P f args H0 ret H1)(q:Nat){l:List SV}(hq:hg H1 q=aa (.box l))(hl:eU H0.length H1.length=ab):bV P f args H0 ret (H1++ [aa (.box [])]):=
 h.more _ hl λ_ _ hH=>by
  obtain⟨rb,_,⟨c,t,fz,g1,_,_,g4,g5⟩,_,g7⟩:=hH q _ hq;exact⟨rb,λ_=>⟨⟨c,t,fz,g1,rfl,aD.nil_iff.2 aq,g4,by simp only [oZ];omega⟩,kD _,g7⟩,λk o hf=>by
   obtain⟨_,h1,h2⟩:=hf;simp only [oZ]at h2;omega⟩
end
theorem fc.ren{args0:List SV}{Ψ:SV->HL->Prop}(hc:fc P f args0 H0 Φ)(sel:List Nat)(U:bu sel args0=aa args)(cx:sel.length=H0.length)(G:iF sel H sel H0)(h6:iA sel 0 sel H0=ab)
  (k:∀ret H1,Φ ret H1->∃H1r z,pG (sel++dc H.length (H1.length-H0.length)) H1 H1r/\bG (sel++dc H.length (H1.length-H0.length)) ret=aa z/\(match iZ (sel++dc H.length (H1.length-H0.length)) H0 H1r with
   |some W=>Ψ z (uQ H W)/\eU (H.length+(H1.length-H0.length)) (uQ H W).length=ab
   | none => False)) : fc P f args H Ψ := by
 refine⟨hc.fn,λn ρ w vs hA hH hS hF=>?_⟩;have I:∀id∈sel,∀b,hg H id=aa b->∃rb,ρ id=aa rb/\cd ρ w rb b:=λid _ b hb=>hH id b hb
 obtain⟨g1,g2,g3⟩:=Lv cx G h6 I (λi _ j _=>hS i j);refine(hc.call n (cu sel ρ) w vs ((jH args0 U).2 hA) g1 g2 g3).mono ?_;rintro e w' ⟨ret,H1,hΦ,O⟩;cases e with
 |returned v=>
  obtain⟨H1r,z,h1,hz,h3⟩:=k ret H1 hΦ;split at h3
  .rename_i W V;have hW:=ze _ _ _ _ _ h1 V;obtain⟨h3,h4⟩:=h3;obtain⟨w1,w2,w3,w4,w5⟩:=vJ hW;have u:∀id F,(id,F)∈W->id<H.length+(H1.length-H0.length)/\(id∉sel->H.length<=id):=by
    intro id F hm;obtain⟨j,hj,h8⟩:=w3 id F hm;by_cases h7:j<H0.length
    .rw [gP ag]at hj;obtain⟨b0,Z⟩:=w5 j h7;obtain⟨s,b,e1,e2,_⟩:=mL G Z;rw [hj]at e1;cases e1;have:=gn (bH H.length) (by rw [kJ];exact e2:hk H _=aa b);exact⟨ag,λhn=>absurd (jO hj) hn⟩
    .rw [iR ag,vX]at hj;split at hj
     .have:=Option.some.inj hj;exact⟨ag,λ_=>ag⟩
     .cases hj
   obtain⟨ρo,k1,k2⟩:=Jv (bH _) cx G hW hz I (λid F hm hn=>hF id ((u id F hm).2 hn)) O;have r:=k1.evo (H:=hg H) (λid F hm=>rfl) hH hS;have hg2:hg (uQ H W)=jX (hg H) W:=by rw [Dp,mK]
   rw [<-hg2]at r;refine⟨z,_,h3,ρo,k2,r.heap,r.sep,λid hid=>?_,⟨λid hid rb hr=>r.ext id rb hr,r.fr,r.own⟩⟩;have h5:=cr h4;cases hr:ρo id with
   |none=>rfl
   |some rb=>
    rcases k1.dom id rb hr with h|⟨F,h⟩
    .rw [hF id ag]at h;cases h
    .have:=(u id F h).1;omega
  .exact h3.elim
 |_=>exact O.elim
section
variable {P:Program} {o:Oper} {p:cC} {Y:YB} {fs:List FE}
theorem Kf{w:World}{rb:RB}(h:tl w rb Y)(hY:Y= .fam fs\/∃la,Y= .ar la fs)(hm:aX p∈fs):jQ w (aX p):=by
 rcases hY with rfl|⟨la,rfl⟩
 .exact h _ hm
 .exact h.2.1 _ hm
theorem ad0{R:eM}{H:cG}{s d el q:Nat}{x:Operand}(ho:o.op= .convert s d x)(hs:P.underlying s=aa (.slice el))(he:P.underlying el=aa (.int .u8))(hd:P.underlying d=aa .string)(hx:aZ R x=aa (.lit p.1))(hq:H q=aa (.ext Y))(hY:Y= .fam fs\/∃la,Y= .ar la fs)(hm:aX p∈fs):LT P o R H [q] [] (aa (.s p.2.2)):=by
 refine LT.pure cJ λe w ρ h1 h2=>?_
 have hx2:=h1 x dj _ hx;obtain⟨rb,hr,F⟩:=h2 q aq _ hq;have I:=TA (P:=P) (ρ:=ρ) (Kf F hY hm);simp only [av]at hx2;obtain⟨hx2,a,n,c,hv⟩:=hx2;obtain⟨vs,_,hf,G,_,cx,_⟩:=I;have O:=SM G;have r:=hf w.drawn;refine⟨.string ⟨⟨p.2.2⟩⟩,?_,gO⟩;obtain⟨a2,U,V,W,_⟩:=(Kf F hY hm).1;have V:p.1= .slice a2 p.2.2.length U:=V;rw [V]at r hx2;have u:(convert s d (.slice a2 p.2.2.length U)).run P w= .ok (.string ⟨⟨p.2.2⟩⟩) w:=by
  rw [run_convert_bytes_string w s d el a2 p.2.2.length U hs he hd];cases a2 with
  |none=>
   simp only [Builtin.firstCells,bZ]at r;injection r with h3 h4
   have:vs= []:=by have:=congrArg Array.toList h3;simpa using this.symm
   subst this;generalize p.2.2=l at*;cases l with
   |nil=>rfl
   |cons x l=>simp at O
  |some a=>
   simp only [Builtin.firstCells,fS]at r;rw [run_bytesToString w a p.2.2.length U (p.2.2.map λb=>(b.toNat:Int)) (by rw [r,O]),Qo];congr 2;apply WideShapes.bytes_inj;simp
 simp only [execOp,ho,hx2,bM,u,bQ,bZ]
theorem afu{k:K1}{s d el:Nat}(q:Nat){x:Operand}(ho:o.op= .convert s d x)(hs:P.underlying s=aa (.slice el))(he:P.underlying el=aa (.int .u8))(hd:P.underlying d=aa .string)(hx:ev R x=aa (.lit p.1))(hq:hk H q=aa (.ext Y))(hY:Y= .fam fs\/∃la,Y= .ar la fs)(hm:aX p∈fs)(h:k (aa (.s p.2.2)) [] [q] L):cR P o R H L k:=
 dB (ad0 ho hs he hd (bq hx) (gb hq) hY hm) h
theorem afr{k:K1}{x y:Operand}{t xT el by_ n id j q:Nat}{r:Bool}{z:SV}{l:List SV}{la:List AE}(F:pe P t xT el 1 by_ z)(ho:o.op= .call {callee:= .builtin .append,args:= #[x,y],argTypes:= #[t,xT]})(hx:ev R x=aa (.sl id j n 1 r))(hid:hk H id=aa (.row el l))(u:j+n*1<=l.length)(hy:ev R y=aa (.lit p.1))(hq:hk H q=aa (.ext (.ar la fs)))(hm:aX p∈fs)(hn:(n+p.2.2.length)*by_<=140737488355328)(hl:H.length<=L)(h:k (aa (.sl L 0 (n+p.2.2.length) 1 af)) [(id,ah),(L,aa (.row el ((l.drop j).take (n*1)++p.2.2.map .u8)))] [id,q] (L+1)):cR P o R H L k:=by have h1:=gn hl hid;have h2:=gn hl hq;exact K9 h1 aq (adV ho F (bq hx) (gb hid) u (bq hy) (gb hq) hm hn ag) h
end
end Go.Sh
