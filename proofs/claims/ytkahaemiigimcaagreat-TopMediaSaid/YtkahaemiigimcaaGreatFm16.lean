/- Merged for a claim: Sh54, Sh55, Sh56, W35, Y1, Y2, Sh60, W40, W31. -/
import Derived.DeepKeys3
import Derived.Test.YtkahaemiigimcaaGreatFm15
set_option linter.unusedSimpArgs false
set_option linter.unusedVariables false
set_option maxHeartbeats 4000000
open Option renaming some->aa,none->ah
open Bool renaming true->ab,false->af,and_eq_true->fI,false_eq_true->gE,eq_iff_iff->jq,or_eq_true->oy,not_false->wP
open List renaming take->aB,drop->aG,replicate->aK,length_append->aW,take_of_length_le->bW,drop_zero->cq,getD_eq_getElem?_getD->dk,length_map->dm,getElem?_eq_some_iff->dA,getElem?_eq_none->dI,length_take->eZ,length_set->fJ,mem_cons->gy,lookup_cons->gJ,append_assoc->iw,map_cons->iT,append_nil->jz,nil_append->jA,length_cons->jM,mem_cons_of_mem->jN,mem_of_getElem?->jO,ext_getElem?->ku,getElem?_map->ky,mem_cons_self->kX,mem_singleton->lx,take_length->ly,mem_append->mu,mem_map->mw,take_append_drop->nJ,cons_append->oz,length_nil->oZ,getElem?_cons_succ->pP,getElem?_set->pQ,map_nil->qR,getElem?_toArray->sY,all_append->uf,getElem?_cons_zero->uh,getElem?_set_self->uk,lookup_nil->vB,take_succ_eq_append_getElem->Bc
open UInt64 renaming ofNat->aF,toNat_inj->dJ,lt_iff_toNat_lt->gh,toNat_add->lY,toNat_div->nL,toNat_mod->nM,le_iff_toNat_le->oA,toNat_shiftRight->sr,toNat_shiftLeft->uv,toNat_and->wW,toNat_sub_of_le->wX,toNat_or->Bg
open Int renaming toNat->aU
open Nat renaming le_refl->bH,le_of_ble_eq_true->cr,ble->eU,mul_one->fS,mod_eq_of_lt->gq,zero_add->ig,lt_or_ge->js,le_trans->jP,shiftLeft_eq->nk,shiftRight_eq_div_pow->np,add_zero->qT
open Go.Sem renaming run_bind->bM,run_pure->bZ
open Go.Result renaming andThen_ok->bQ
open Prod renaming fst->iW
open Array renaming getElem?_eq_some_iff->jL
namespace Go.Sh
variable{f:Bool}{Q:Exit->RL->HL->Nat->Prop}{H:HL}{l:List AE}{fs:List FE}{d:List UInt8}{L N i k:Nat}{m:Operand}{p:cC}{P:Program}{R:RL}{ρ:bw}{b:SB}{zv:SV}{kk:UInt64}{w:World}
abbrev cf(A B C:List SV)(x y:SV):List SV:=A++x::(B++y::C)
theorem HR(A B C:List SV)(x y:SV):(cf A B C x y).length=A.length+B.length+C.length+2:=by simp only [cf,aW,jM];omega
theorem MU{A B C:List SV}{x y:SV}:cw (cf A B C x y)=(cw A&&(x.atom&&(cw B&&(y.atom&&cw C)))):=by simp [cf,cw]
theorem LI{A B C:List SV}{x y:SV}{vs:List Value}(hA:bJ A=ab)(hB:bJ B=ab)(V:bJ C=ab)(h:aD ρ (cf A B C x y) vs):∃v u,av ρ x v/\av ρ y u/\∀ρ' I O,av ρ' I v->av ρ' O u->aD ρ' (cf A B C I O) vs:=by
 obtain⟨g1,g2⟩:=LH h;obtain⟨v,r,e,g3,g4⟩:∃v r,vs.drop A.length=v::r/\av ρ x v/\aD ρ (B++y::C) r:=by simpa only [aD]using g2
 obtain⟨g5,g6⟩:=LH g4;obtain⟨u,G,e2,g7,U⟩:∃u G,r.drop B.length=u::G/\av ρ y u/\aD ρ C G:=by simpa only [aD]using g6
 refine⟨v,u,g3,g7,λρ' I O hx hy=>?_⟩;rw [<-nJ A.length vs,e,<-nJ B.length r,e2];exact aD.append (oR hA g1) (aD.cons hx (aD.append (oR hB g5) (aD.cons hy (oR V U))))
def ahZ(d:List UInt8)(b:SB):Prop:=b= .ro (d.map .u8)\/b= .row 5 (d.map .u8)
theorem Df{v:Value}{rb:RB}(h:av ρ (.sl i 0 d.length 1 f) v)(hr:ρ i=aa rb)(hb:cd ρ w rb b)(hd:ahZ d b):jQ w (aX (v,rb,d))/\(∃a n c,v= .slice a n c)/\∀G k o,YB.foot G (.fam [aX (v,rb,d)]) k o->foot rb b k o:=by
 simp only [av]at h;obtain⟨W,a,c,k1,U,V,_,O⟩:=h;rw [hr]at k1;cases k1;refine⟨⟨⟨a,c,U,V,?_⟩,?_⟩,⟨a,_,c,U⟩,?_⟩
 .rcases O with O|⟨g1,g2,g3⟩
  .exact .inl O
  .exact .inr ⟨g1,g2,by show c*1<=rb.cap;omega⟩
 .rcases hd with rfl|rfl
  .rcases hb with r|⟨⟨I,t,fz,g1,g2,g3,g4,g5⟩,g6,g7⟩
   .exact .inl r
   .exact .inr ⟨⟨I,t,fz,g1,g2,oR (cY _) g3,λh=>(by cases h),g5⟩,g6,g7⟩
  .rcases hb with⟨_,r⟩|⟨hv,I,fz,g1,g2,g3,g4,g5,g6⟩
   .exact .inl r
   .exact .inr ⟨⟨I,5,fz,g1,g4,oR (cY _) g5,λh=>(by cases h),by show rb.off+(d.map SV.u8).length<=_;omega⟩,g6,hv⟩
 .rintro G k o ⟨e,he,e1,e2,e3⟩;simp at he;subst he;rcases hd with rfl|rfl
  .exact⟨e1,e2,e3⟩
  .rcases hb with⟨_,r⟩|⟨hv,_⟩
   .have:(aX (v,rb,d)).cells= []:=r;rw [this]at e3;simp at e3;omega
   .exact⟨hv,e1,e2⟩
theorem tA(h:jQ w (aX p))(hr:ρ i=aa p.2.1):av ρ (.sl i 0 p.2.2.length 1 af) p.1/\cd ρ w p.2.1 (.ro (p.2.2.map .u8)):=by
 obtain⟨⟨a,c,k1,G,I⟩,O⟩:=h;refine⟨?_,?_⟩
 .simp only [av];exact⟨p.2.1,a,c,hr,k1,G,λh=>(by cases h),I.imp id λ⟨g1,g2,g3⟩=>⟨g1,by rw [g2];rfl,by show 0+c*1<=_;have:c*1<=p.2.1.cap:=g3;omega⟩⟩
 .exact O.imp id λh=>⟨h.1.ext (λi r h=>by cases h),h.2⟩
theorem ab8{x y:AE}(hk:l[k]?=aa x)(hf:y.foot=x.foot):(l.set k y).map AE.foot=l.map AE.foot:=by
 rw [List.map_set,hf];apply ku;intro i;by_cases h:i=k
 .subst h;rw [uk (by simpa using (dA.1 hk).1),ky,hk];rfl
 .rw [List.getElem?_set_ne (λe=>h e.symm)]
theorem ab6{r:List AE}(h:r.map AE.foot=l.map AE.foot)(k o:Nat):(∃e,e∈r/\e.foot k o)↔∃e,e∈l/\e.foot k o:=by
 have e:∀(l:List AE),(∃e,e∈l/\e.foot k o)↔∃F,F∈l.map AE.foot/\F k o:=λl=>by
  constructor
  .rintro⟨e,he,hf⟩;exact⟨_,List.mem_map_of_mem he,hf⟩
  .rintro⟨F,G,hf⟩;obtain⟨e,he,rfl⟩:=mw.1 G;exact⟨e,he,hf⟩
 rw [e,e,h]
theorem ag1{r:List AE}(h:r.map AE.foot=l.map AE.foot)(hp:l.Pairwise λa b=>∀k o,¬(a.foot k o/\b.foot k o)):r.Pairwise λa b=>∀k o,¬(a.foot k o/\b.foot k o):=by
 have e:∀l:List AE,(l.Pairwise λa b=>∀k o,¬(a.foot k o/\b.foot k o))↔(l.map AE.foot).Pairwise λF G=>∀k o,¬(F k o/\G k o):=λl=>(List.pairwise_map (f:=AE.foot) (R:=λF G=>∀k o,¬(F k o/\G k o))).symm
 rw [e]at hp|-;rw [h];exact hp
theorem ah1{ρ':bw}{rb:RB}{t:Nat}{F:List SV}(O:bJ F=ab)(h:cd ρ w rb (.row t F)):cd ρ' w rb (.row t F):=by
 rcases h with h|⟨hv,c,fz,e1,e2,e3,r,G,I⟩
 .exact .inl h
 .exact .inr ⟨hv,c,fz,e1,e2,e3,r,oR O G,I⟩
def D6(p1 p2:cC)(H1:HL)(i:Nat)(d:List UInt8):Prop:=(i=1/\d=p1.2.2)\/(i=2/\d=p2.2.2)\/(4<=i/\hg H1 i=aa (.row 5 (d.map .u8)))
theorem jQ.frame{r:World}{e:FE}{S:Nat->Nat->Prop}(h:jQ w e)(hf:Fr S w r)(hd:∀k o,pZ e k o->¬S k o):jQ r e:=
 ⟨h.1,h.2.imp id λq=>⟨q.1.frame hf λo h1 h2=>hd _ _ ⟨rfl,h1,h2⟩,q.2⟩⟩
theorem jQ.lt{e:FE}(h:jQ w e){o:Nat}(hk:pZ e k o):k<w.heap.size:=by
 obtain⟨rfl,h1,h2⟩:=hk;rcases h.2 with q|⟨⟨c,t,fz,hb,_⟩,_⟩
 .rw [q]at h2;simp at h2;omega
 .exact(jL.1 hb).1
theorem bV.ar{f:Nat}{A B C A' B' C':List SV}{p1 p2 pF:cC}{ret ret':SV}{H1:HL}{j:Nat}{d1 d2:List UInt8}{f1 f2:Bool}{r o:Nat}{E:Option (Nat×List UInt8)}(h:bV P f [.p 0 0,.slnil,.sl 3 0 pF.2.2.length 1 af] [aa (.box (cf A B C (.sl 1 0 p1.2.2.length 1 af) (.sl 2 0 p2.2.2.length 1 af))),aa (.ro (p1.2.2.map .u8)),aa (.ro (p2.2.2.map .u8)),aa (.ro (pF.2.2.map .u8))] ret H1)(h0:hg H1 0=aa (.box (cf A' B' C' (.sl i 0 d1.length 1 f1) (.sl j 0 d2.length 1 f2))))(hi:D6 p1 p2 H1 i d1)(hj:D6 p1 p2 H1 j d2)(hE:∀e,E=aa e->hg H1 e.1=aa (.row 5 (e.2.map .u8))/\4<=e.1/\e.1≠i/\e.1≠j)(hA:bJ A=ab)(hB:bJ B=ab)(hC:bJ C=ab)(hA':bJ A'=ab)(hB':bJ B'=ab)(hC':bJ C'=ab)(cx:A'.length+B'.length+C'.length=A.length+B.length+C.length)(hret:bG (H1.length::(E.map iW).toList) ret'=aa ret)(hk:l[k]?=aa ⟨r,o,cf A B C (cA p1) (cA p2)⟩)(hm1:aX p1∈fs)(hm2:aX p2∈fs)(hmF:aX pF∈fs):fc P f [.lp r o,.slnil,.lit pF.1] [aa (.ext (.ar l fs))] (λx H=>x=ret'/\∃q1 q2:cC,q1.2.2=d1/\q2.2.2=d2/\H=aa (.ext (.ar (l.set k ⟨r,o,cf A' B' C' (cA q1) (cA q2)⟩) (aX q1::aX q2::fs)))::(E.map λe=>aa (SB.row 5 (e.2.map .u8))).toList):=by
 refine⟨h.fn,λn ρ w vs hAr hH hS hFr=>?_⟩;obtain⟨h7,hr0,⟨hB0,hB0p⟩,h9,x0⟩:=hH 0 (.ext (.ar l fs)) rfl;have I:=jO hk;obtain⟨c,t,fz,c1,c2,c3,c4,c5⟩:=hB0 _ I;have g1:=h9 _ hm1;have g2:=h9 _ hm2;have gF:=h9 _ hmF;dsimp only at c1 c2 c3 c5;obtain⟨N,hN⟩:=ax (A.length+B.length+C.length+2);have lX:∀x y,(cf A B C x y).length=N:=λx y=>by rw [HR,hN]
 have lX':∀x y,(cf A' B' C' x y).length=N:=λx y=>by rw [HR,hN,cx]
 let ρs:bw:=λid=>if id=0 then aa ⟨r,o,N,af⟩else if id=1 then aa p1.2.1 else if id=2 then aa p2.2.1 else if id=3 then aa pF.2.1 else ah
 have s0:ρs 0=aa ⟨r,o,N,af⟩:=rfl;have s1:ρs 1=aa p1.2.1:=rfl;have s2:ρs 2=aa p2.2.1:=rfl;have s3:ρs 3=aa pF.2.1:=rfl;have hno:∀id,4<=id->ρs id=ah:=λid h=>by
  show(if id=0 then _ else if id=1 then _ else if id=2 then _ else if id=3 then _ else ah)=ah
  rw [if_neg ag,if_neg ag,if_neg ag,if_neg ag]
 have hA2:aD ρs [.p 0 0,.slnil,.sl 3 0 pF.2.2.length 1 af] vs:=by simp only [aD]at hAr;obtain⟨v,us,rfl,hv,v2,us2,rfl,hv2,v3,us3,rfl,hv3,rfl⟩:=hAr;simp only [av]at hv hv2 hv3;rw [hv,hv2,hv3.1];exact aD.cons (by simp only [av];exact⟨_,s0,rfl⟩) (aD.cons gO (aD.cons (tA gF s3).1 (aD.nil_iff.2 rfl)))
 have hAE:∀{k o},(∃e,e∈l/\e.foot k o)->k<w.heap.size:=fun{k o} ⟨e,he,hf⟩=>by obtain⟨c,t,fz,e1,_⟩:=hB0 e he;rw [hf.1];exact(jL.1 e1).1
 have hFE:∀{k o},(∃e,e∈fs/\pZ e k o)->k<w.heap.size:=fun{k o} ⟨e,he,hf⟩=>(h9 e he).lt hf
 have x6:∀q,o<=q->q<o+N->AE.foot ⟨r,o,cf A B C (cA p1) (cA p2)⟩ r q:=λq h1 h2=>⟨rfl,h1,by dsimp only;rw [lX];exact h2⟩
 have hHs:iX ρs (hg [aa (.box (cf A B C (.sl 1 0 p1.2.2.length 1 af) (.sl 2 0 p2.2.2.length 1 af))),aa (.ro (p1.2.2.map .u8)),aa (.ro (p2.2.2.map .u8)),aa (.ro (pF.2.2.map .u8))]) w:=by
  intro id b hb
  match id,hb with
  |0,hb=>
   cases hb;refine⟨_,s0,⟨c,t,fz,c1,?_,?_,c4,by rw [lX]at c5|-;exact c5⟩,by rw [lX];exact bH _,rfl⟩
   .rw [MU]at c2|-;exact c2
   .obtain⟨v,u,hv,hu,hgo⟩:=LI hA hB hC c3;simp only [cA,av]at hv hu;have:=hgo ρs _ _ (hv.1▸(tA g1 s1).1) (hu.1▸(tA g2 s2).1);rw [lX]at this|-;exact this
  |1,hb=>cases hb;exact⟨_,s1,(tA g1 s1).2⟩
  |2,hb=>cases hb;exact⟨_,s2,(tA g2 s2).2⟩
  |3,hb=>cases hb;exact⟨_,s3,(tA gF s3).2⟩
  |id+4,hb=>simp [hg]at hb
 have W:∀V:List SV,V.length=N->∀k q,foot ⟨r,o,N,af⟩ (.box V) k q↔k=r/\o<=q/\q<o+N:=λV hV k q=>by simp only [foot,hV]
 have O:∀k q,dV ρs (hg [aa (.box (cf A B C (.sl 1 0 p1.2.2.length 1 af) (.sl 2 0 p2.2.2.length 1 af))),aa (.ro (p1.2.2.map .u8)),aa (.ro (p2.2.2.map .u8)),aa (.ro (pF.2.2.map .u8))]) k q->k=r/\o<=q/\q<o+N:=by
  rintro k q ⟨id,b,rb,e1,e2,e3,e4⟩
  match id,e1 with
  |0,e1=>cases e1;rw [s0]at e2;cases e2;exact(W _ (lX _ _) k q).1 e4
  |1,e1=>cases e1;cases e3
  |2,e1=>cases e1;cases e3
  |3,e1=>cases e1;cases e3
  |id+4,e1=>simp [hg]at e1
 have hSs:l7 ρs (hg [aa (.box (cf A B C (.sl 1 0 p1.2.2.length 1 af) (.sl 2 0 p2.2.2.length 1 af))),aa (.ro (p1.2.2.map .u8)),aa (.ro (p2.2.2.map .u8)),aa (.ro (pF.2.2.map .u8))]):=by
  intro i j bi bj ri rj hne hi hj hri h6 hw k q ⟨f1,f2⟩;have o1:=O k q ⟨i,bi,ri,hi,hri,hw,f1⟩;obtain⟨rfl,o2,o3⟩:=o1;have i0:i=0:=by
   match i,hi with
   |0,_=>rfl
   |1,hi=>cases hi;cases hw
   |2,hi=>cases hi;cases hw
   |3,hi=>cases hi;cases hw
   |id+4,hi=>simp [hg]at hi
  subst i0
  match j,hj with
  |0,_=>exact hne rfl
  |1,hj=>cases hj;rw [s1]at h6;cases h6;exact x0 _ I _ hm1 k q ⟨x6 q o2 o3,f2⟩
  |2,hj=>cases hj;rw [s2]at h6;cases h6;exact x0 _ I _ hm2 k q ⟨x6 q o2 o3,f2⟩
  |3,hj=>cases hj;rw [s3]at h6;cases h6;exact x0 _ I _ hmF k q ⟨x6 q o2 o3,f2⟩
  |id+4,hj=>simp [hg]at hj
 refine(h.call n ρs w vs hA2 hHs hSs (λid hid=>hno id ou)).mono λe w' hR=>?_
 cases e with
 |returned v=>
  obtain⟨ρ1,q1,q2,q3,q4,q5⟩:=hR;obtain⟨rbx,k1,hBx1⟩:=q2 0 _ h0;have e0:=q5.ext 0 aq _ s0;rw [e0]at k1;cases k1;obtain⟨⟨c',t',fz',m1,m2,m3,m4,m5⟩,m6,m7⟩:=hBx1;obtain⟨v1,v2,w1,w2,hgo⟩:=LI hA' hB' hC' m3;have Z:∀m b x7,4<=m->hg H1 m=aa b->b.own=ab->ρ1 m=aa x7->∀k q,foot x7 b k q->w.heap.size<=k:=λm b x7 h4 hb hw hr k q hf=>by
   rcases q5.own k q ⟨m,b,x7,hb,hr,hw,hf⟩with ho|ho
   .obtain⟨o1,o2,o3⟩:=O k q ho;exact absurd ⟨(W _ (lX' _ _) k q).2 ⟨o1,o2,o3⟩,hf⟩ (q3 0 m _ b _ x7 ag h0 hb e0 hr rfl k q)
   .exact ho
  have frE:∀e,e∈fs->jQ w' e:=λe he=>(h9 e he).frame q5.fr λk q hf hO=>by obtain⟨rfl,o2,o3⟩:=O k q hO;exact x0 _ I e he k q ⟨x6 q o2 o3,hf⟩
  have fsrc:∀{i:Nat} {d:List UInt8} {v:Value} {f:Bool},D6 p1 p2 H1 i d->av ρ1 (.sl i 0 d.length 1 f) v->∃Q:cC,Q.1=v/\Q.2.2=d/\jQ w' (aX Q)/\(∃a n c,v= .slice a n c)/\
    ∀k q,pZ (aX Q) k q->(∃e,e∈fs/\pZ e k q)\/∃rb,4<=i/\hg H1 i=aa (.row 5 (d.map .u8))/\ρ1 i=aa rb/\foot rb (.row 5 (d.map .u8)) k q:=by
   intro i d v f hs hv;have old:∀{p:cC} {id:Nat},aX p∈fs->id<4->ρs id=aa p.2.1->i=id->d=p.2.2->∃Q:cC,Q.1=v/\Q.2.2=d/\jQ w' (aX Q)/\(∃a n c,v= .slice a n c)/\
    ∀k q,pZ (aX Q) k q->(∃e,e∈fs/\pZ e k q)\/∃rb,4<=i/\hg H1 i=aa (.row 5 (d.map .u8))/\ρ1 i=aa rb/\foot rb (.row 5 (d.map .u8)) k q:=by
    intro p id hm hid hsid hi1 hd1;subst hi1;subst hd1;have hr:=q5.ext i ou _ hsid;obtain⟨z1,z2,_⟩:=Df hv hr (tA (frE _ hm) hr).2 (.inl rfl);exact⟨(v,p.2.1,p.2.2),rfl,rfl,z1,z2,λk q hf=> .inl ⟨_,hm,hf⟩⟩
   rcases hs with⟨hs,hd⟩|⟨hs,hd⟩|⟨hs,hd⟩
   .exact old (id:=1) hm1 aw s1 hs hd
   .exact old (id:=2) hm2 aw s2 hs hd
   .obtain⟨rb,hr,hb⟩:=q2 i _ hd;obtain⟨z1,z2,z3⟩:=Df hv hr hb (.inr rfl);exact⟨(v,rb,d),rfl,rfl,z1,z2,λk q hf=> .inr ⟨rb,hs,hd,hr,z3 rb k q ⟨_,lx.2 rfl,hf⟩⟩⟩
  obtain⟨Q1,a1,a2,a3,a4,a5⟩:=fsrc hi w1;obtain⟨Q2,b1,b2,b3,b4,b5⟩:=fsrc hj w2;subst a1 b1;have x5:=hgo (λ_=>ah) (cA Q1) (cA Q2) (by simp only [cA,av,true_and];exact a4) (by simp only [cA,av,true_and];exact b4);have hfe:(l.set k ⟨r,o,cf A' B' C' (cA Q1) (cA Q2)⟩).map AE.foot=l.map AE.foot:=ab8 hk (by funext k o;simp only [AE.foot,lX,lX']);have h8:∀k q e,e∈aX Q1::aX Q2::fs->pZ e k q->(∃e,e∈fs/\pZ e k q)\/∃(m:Nat) (d:List UInt8) (rb:RB),(m=i\/m=j)/\4<=m/\hg H1 m=aa (.row 5 (d.map .u8))/\ρ1 m=aa rb/\foot rb (.row 5 (d.map .u8)) k q:=by
   intro k q e he hf;rcases gy.1 he with rfl|he
   .exact(a5 k q hf).imp id λ⟨rb,z⟩=>⟨i,d1,rb,.inl rfl,z⟩
   .rcases gy.1 he with rfl|he
    .exact(b5 k q hf).imp id λ⟨rb,z⟩=>⟨j,d2,rb,.inr rfl,z⟩
    .exact .inl ⟨e,he,hf⟩
  let ρ':bw:=λid=>if id=0 then ρ 0 else if id=1 then(match E with|some e=>ρ1 e.1|none=>ah)else ah
  have t0:ρ' 0=aa h7:=hr0;have t1:ρ' 1=(match E with|some e=>ρ1 e.1|none=>ah):=rfl;have tn:∀id,2<=id->ρ' id=ah:=λid h=>by
   show(if id=0 then _ else if id=1 then _ else ah)=ah
   rw [if_neg ag,if_neg ag]
  have hblk:∀b,hg (aa (SB.ext (.ar (l.set k ⟨r,o,cf A' B' C' (cA Q1) (cA Q2)⟩) (aX Q1::aX Q2::fs)))::(E.map λe=>aa (SB.row 5 (e.2.map .u8))).toList) 1=aa b->∃e rb,E=aa e/\b= .row 5 (e.2.map .u8)/\hg H1 e.1=aa b/\4<=e.1/\e.1≠i/\e.1≠j/\ρ1 e.1=aa rb/\ρ' 1=aa rb/\cd ρ1 w' rb b:=by
   intro b hb;cases E with
   |none=>simp [hg]at hb
   |some e=>
    have e1:b= .row 5 (e.2.map .u8):=by simp [hg]at hb;exact hb.symm
    subst e1;obtain⟨z1,z2,z3,z4⟩:=hE e rfl;obtain⟨rb,hr,hb⟩:=q2 e.1 _ z1;exact⟨e,rb,rfl,rfl,z1,z2,z3,z4,hr,hr,hb⟩
  have hgt:∀id b,hg (aa (SB.ext (.ar (l.set k ⟨r,o,cf A' B' C' (cA Q1) (cA Q2)⟩) (aX Q1::aX Q2::fs)))::(E.map λe=>aa (SB.row 5 (e.2.map .u8))).toList) (id+2)=aa b->False:=by intro id b hb;cases E<;>simp [hg]at hb
  have U:∀G q,(∃e,e∈l.set k ⟨r,o,cf A' B' C' (cA Q1) (cA Q2)⟩/\e.foot G q)->∃e,e∈l/\e.foot G q:=λG q hf=>(ab6 hfe G q).1 hf
  refine⟨ret',_,⟨rfl,Q1,Q2,a2,b2,rfl⟩,ρ',?_,?_,?_,?_,⟨λid hid rb hr=>?_,?_,?_⟩⟩
  .refine av.ext ?_ ret' ((lM ret' hret).2 q1);intro id rb hid;have eK:ρ1 H1.length=ah:=q4 _ (bH _)
   match id,hid with
   |0,hid=>simp only [cu,uh,eK]at hid;cases hid
   |1,hid=>
    rw [t1];cases E with
    |none=>simp [cu]at hid
    |some e=>simpa [cu]using hid
   |id+2,hid=>exfalso;cases E<;>simp [cu]at hid
  .intro id b hb
   match id,hb with
   |0,hb=>
    cases hb;refine⟨h7,t0,⟨λe he=>?_,ag1 hfe hB0p⟩,λe he=>?_,λa ha e he G q ⟨f1,f2⟩=>?_⟩
    .obtain⟨m,hm⟩:=List.mem_iff_getElem?.1 he;by_cases hmk:m=k
     .subst hmk;rw [uk (dA.1 hk).1]at hm;cases hm;refine⟨c',t',fz',m1,?_,?_,m4,by rw [lX']at m5|-;exact m5⟩
      .rw [MU]at m2|-;exact m2
      .rw [lX']at x5|-;exact x5
     .rw [List.getElem?_set_ne (λe=>hmk e.symm)]at hm;refine(hB0 e (jO hm)).frame q5.fr λq h1 h2 hO=>?_
      obtain⟨z1,z2,z3⟩:=O _ _ hO;have hp:=List.pairwise_iff_getElem.1 hB0p;obtain⟨km,I⟩:=dA.1 hm;obtain⟨kk,hkk⟩:=dA.1 hk;have fe:e.foot e.r q:=⟨rfl,h1,h2⟩;have fx:AE.foot ⟨r,o,cf A B C (cA p1) (cA p2)⟩ e.r q:=⟨z1,z2,by dsimp only;rw [lX];exact z3⟩;rcases Nat.lt_or_gt_of_ne hmk with hlt|hlt
      .have:=hp m k km kk hlt e.r q;rw [I,hkk]at this;exact this ⟨fe,fx⟩
      .have:=hp k m kk km hlt e.r q;rw [I,hkk]at this;exact this ⟨fx,fe⟩
    .rcases gy.1 he with rfl|he
     .exact a3
     .rcases gy.1 he with rfl|he
      .exact b3
      .exact frE e he
    .obtain⟨a0,ha0,hf0⟩:=U G q ⟨a,ha,f1⟩;rcases h8 G q e he f2 with⟨e2,h2,h3⟩|⟨m,d,rb,_,h4,hb,hr,hf⟩
     .exact x0 a0 ha0 e2 h2 G q ⟨hf0,h3⟩
     .have:=Z m _ rb h4 hb rfl hr G q hf;have:=hAE ⟨a0,ha0,hf0⟩;omega
   |1,hb=>
    obtain⟨e,rb,z1,rfl,z2,z3,z4,z5,z6,z7,z8⟩:=hblk b hb;exact⟨rb,z7,ah1 (cY _) z8⟩
   |id+2,hb=>exact(hgt id b hb).elim
  .have key:∀G q b rb,hg (aa (SB.ext (.ar (l.set k ⟨r,o,cf A' B' C' (cA Q1) (cA Q2)⟩) (aX Q1::aX Q2::fs)))::(E.map λe=>aa (SB.row 5 (e.2.map .u8))).toList) 1=aa b->ρ' 1=aa rb->foot rb b G q->YB.foot h7 (.ar (l.set k ⟨r,o,cf A' B' C' (cA Q1) (cA Q2)⟩) (aX Q1::aX Q2::fs)) G q->False:=by
    intro G q b rb hb hr hf ha;obtain⟨e,rb3,z1,rfl,z2,z3,z4,z5,z6,z7,z8⟩:=hblk b hb;rw [z7]at hr;cases hr;have hge:=Z e.1 _ _ z3 z2 rfl z6 G q hf;rcases ha with ha|⟨e2,h2,h3⟩
    .have:=hAE (U G q ha);omega
    .rcases h8 G q e2 h2 h3 with h4|⟨m,d,rb,hm,h4,hb,hr,hf2⟩
     .have:=hFE h4;omega
     .exact q3 e.1 m _ _ _ _ (by rcases hm with rfl|rfl<;>assumption) z2 hb z6 hr rfl G q ⟨hf,hf2⟩
   intro x y bx byy rx ry hne hx hy hrx hry hw G q ⟨f1,f2⟩
   match x,hx with
   |0,hx=>
    cases hx;rw [t0]at hrx;cases hrx
    match y,hy with
    |0,_=>exact hne rfl
    |1,hy=>exact key G q _ _ hy hry f2 f1
    |y+2,hy=>exact(hgt y _ hy).elim
   |1,hx=>
    match y,hy with
    |0,hy=>cases hy;rw [t0]at hry;cases hry;exact key G q _ _ hx hrx f1 f2
    |1,_=>exact hne rfl
    |y+2,hy=>exact(hgt y _ hy).elim
   |x+2,hx=>exact(hgt x _ hx).elim
  .intro id hid
   match id,hid with
   |0,hid=>simp at hid
   |1,hid=>
    rw [t1];cases E with
    |none=>rfl
    |some e=>simp at hid
   |id+2,hid=>exact tn _ ag
  .match id,hid with
   |0,_=>exact hr
   |id+1,hid=>exact absurd hid aq
  .exact q5.fr.mono λk q _ hO=>by obtain⟨rfl,o2,o3⟩:=O k q hO;exact⟨0,_,h7,rfl,hr0,rfl,.inl ⟨_,I,x6 q o2 o3⟩⟩
  .rintro G q ⟨id,b,rb,e1,e2,e3,e4⟩
   match id,e1 with
   |0,e1=>
    cases e1;rw [t0]at e2;cases e2;rcases e4 with e4|⟨e,he,hf⟩
    .exact .inl ⟨0,_,h7,rfl,hr0,rfl,.inl (U G q e4)⟩
    .rcases h8 G q e he hf with h4|⟨m,d,rb,_,h4,hb,hr,hf2⟩
     .exact .inl ⟨0,_,h7,rfl,hr0,rfl,.inr h4⟩
     .exact .inr (Z m _ rb h4 hb rfl hr G q hf2)
   |1,e1=>
    obtain⟨e,rb2,z1,rfl,z2,z3,z4,z5,z6,z7,z8⟩:=hblk b e1;rw [z7]at e2;cases e2;exact .inr (Z e.1 _ _ z3 z2 rfl z6 G q e4)
   |id+2,e1=>exact(hgt id b e1).elim
 |_=>exact hR.elim
open Go.MapKept
abbrev ij:=UInt64×(Nat×Nat)×Nat
variable{M:List ij}
def mR(x:ij):MapEntry:=⟨.int .u64 (x.1.toNat:Int),.pointer (aa ⟨x.2.1.1,x.2.1.2,ah⟩),x.2.2⟩
def dX(M:List ij)(c:Nat):Obj:= .map (M.map mR).toArray c
theorem Ed{a b:UInt64}:((a.toNat:Int)==(b.toNat:Int))=(a==b):=by rw [jq];simp only [beq_iff_eq];exact⟨λh=>dJ.1 ag,λh=>by rw [h]⟩
theorem LG{k:UInt64}:∀{M:List ij} (i:Nat),(∀x,x∈M->(k==x.1)=af)->Instr.findNow (.int .u64) (.int .u64 (k.toNat:Int)) (M.map mR) i=aa ah
 | [],_,_=>rfl
 |x::M,i,h=>by
  rw [iT];simp only [Instr.findNow,mR,Instr.sameNow,if_true,Ed,h x (kX ..)];exact LG (i+1) λy hy=>h y (jN _ hy)
theorem SH{k:UInt64}{x:ij}:∀{M:List ij} {j:Nat} (i:Nat),M[j]?=aa x->(k==x.1)=ab->(∀n y,n<j->M[n]?=aa y->(k==y.1)=af)->Instr.findNow (.int .u64) (.int .u64 (k.toNat:Int)) (M.map mR) i=aa (aa (i+j,.pointer (aa ⟨x.2.1.1,x.2.1.2,ah⟩)))
 | [],_,_,h,_,_=>pM
 |y::M,0,i,h,he,_=>by
  simp at h;subst h;rw [iT];simp only [Instr.findNow,mR,Instr.sameNow,if_true,Ed,he,qT]
 |y::M,j+1,i,h,he,hl=>by
  rw [iT];simp only [Instr.findNow,mR,Instr.sameNow,if_true,Ed,hl 0 y ag rfl];have:=SH (M:=M) (j:=j) (i+1) kV he λn z hn hz=>hl (n+1) z ag (by simpa using hz)
  rw [this];congr 3;omega
section
variable {P:Program} {o:Oper} {R:RL} {H:HL} {L:Nat} {k:K1}
theorem Q8{R:eM}{H:cG}{t kt Z id:Nat}{x:Operand}{z:SV}{c:Nat}(ho:o.op= .lookup t m x af)(hm:P.underlying t=aa (.map kt Z))(hd:P.underlying kt=aa (.int .u64))(em:aZ R m=aa (.mp id))(ek:aZ R x=aa (.u64 kk))(hb:H id=aa (.ext (.lit (dX M c))))(hz:jm P Z=aa zv){r:Option (Nat×Value)}(hf:Instr.findNow (.int .u64) (.int .u64 (kk.toNat:Int)) (M.map mR) 0=aa r)(hr:(∃i v,r=aa (i,v)/\∀ρ,av ρ z v)\/(r=ah/\z=zv)):LT P o R H [id] [] (aa z):=by
 refine LT.pure cJ λe w ρ h1 h2=>?_
 have g1:=h1 m dj _ em;have g2:=h1 x dj _ ek;simp only [av]at g1 g2;obtain⟨rb,hr1,he⟩:=g1;obtain⟨h6,O,V⟩:=h2 id aq _ hb;rw [hr1]at O;cases O;obtain⟨_,hw⟩:=V;have G:IsKey (.int .u64) (.int .u64 (kk.toNat:Int)):=rfl;have I:Instr.findNow (.int .u64) (.int .u64 (kk.toNat:Int)) ((M.map mR).toArray).toList 0=aa r:=hf;have U:∀(t:TypeId) (d:TypeDesc),P.underlying t=aa d->(underlying t).run P w= .ok d w:=λt d h=>eS h
 rcases hr with⟨i,v,rfl,hv⟩|⟨rfl,rfl⟩
 .refine⟨v,?_,hv ρ⟩;simp only [execOp,ho,he,g2,Instr.lookup,bM,U _ _ hm,MapKept.run_getObj_map hw,MapKept.run_checkKey hd G,MapKept.run_findKey hd I,bQ,bZ,gE,if_false]
 .obtain⟨v,hv,W,_⟩:=Hu (P:=P) (w:=w) hz;refine⟨v,?_,W ρ⟩;simp only [execOp,ho,he,g2,Instr.lookup,bM,U _ _ hm,MapKept.run_getObj_map hw,MapKept.run_checkKey hd G,MapKept.run_findKey hd I,bQ,bZ,gE,if_false,hv]
theorem afE{t G r:Nat}(id:Nat){x:Operand}{c j:Nat}{e:ij}(ho:o.op= .lookup t m x af)(hm:P.underlying t=aa (.map G r))(hd:P.underlying G=aa (.int .u64))(O:ev R m=aa (.mp id))(I:ev R x=aa (.u64 kk))(hb:hk H id=aa (.ext (.lit (dX M c))))(hz:jm P r=aa zv)(hj:M[j]?=aa e)(he:(kk==e.1)=ab)(hl:∀n y,n<j->M[n]?=aa y->(kk==y.1)=af)(h:k (aa (.lp e.2.1.1 e.2.1.2)) [] [id] L):cR P o R H L k:=
 dB (Q8 ho hm hd (bq O) (bq I) (gb hb) hz (SH 0 hj he hl) (.inl ⟨_,_,rfl,λρ=>gO⟩)) h
theorem afF{t G r:Nat}(id:Nat){x:Operand}{c:Nat}(ho:o.op= .lookup t m x af)(hm:P.underlying t=aa (.map G r))(hd:P.underlying G=aa (.int .u64))(O:ev R m=aa (.mp id))(I:ev R x=aa (.u64 kk))(hb:hk H id=aa (.ext (.lit (dX M c))))(hz:jm P r=aa zv)(hl:∀y,y∈M->(kk==y.1)=af)(h:k (aa zv) [] [id] L):cR P o R H L k:=
 dB (Q8 ho hm hd (bq O) (bq I) (gb hb) hz (LG 0 hl) (.inr ⟨rfl,rfl⟩)) h
theorem aeI{R:eM}{H:cG}{t W et id r q:Nat}{x y:Operand}{c:Nat}(ho:o.op= .mapUpdate t m x y)(hm:P.underlying t=aa (.map W et))(hd:P.underlying W=aa (.int .u64))(em:aZ R m=aa (.mp id))(ek:aZ R x=aa (.u64 kk))(ey:aZ R y=aa (.lp r q))(hb:H id=aa (.ext (.lit (dX M c))))(hl:∀y,y∈M->(kk==y.1)=af):LT P o R H [id] [(id,aa (.ext (.lit (dX (M++ [(kk,(r,q),c)]) (c+1)))))] ah:=by
 refine LT.of_run cJ λe w ρ h1 h2 _ _=>?_
 have g1:=h1 m dj _ em;have g2:=h1 x dj _ ek;have g3:=h1 y dj _ ey;simp only [av]at g1 g2 g3;obtain⟨rb,hr,he⟩:=g1;obtain⟨h6,O,U⟩:=h2 id aq _ hb;rw [hr]at O;cases O;obtain⟨⟨_,I⟩,hw⟩:=U;have G:IsKey (.int .u64) (.int .u64 (kk.toNat:Int)):=rfl;have hf:Instr.findNow (.int .u64) (.int .u64 (kk.toNat:Int)) ((M.map mR).toArray).toList 0=aa ah:=LG 0 hl;have V:∀(t:TypeId) (d:TypeDesc),P.underlying t=aa d->(underlying t).run P w= .ok d w:=λt d h=>eS h
 have Z:((M++ [(kk,(r,q),c)]).map mR).toArray=(M.map mR).toArray.push ⟨.int .u64 (kk.toNat:Int),.pointer (aa ⟨r,q,ah⟩),c⟩:=by simp [mR]
 refine⟨.skip,_,ρ,?_,cI.putObj hb hr hw I (by simp [jT,dX]) (by simp [jT,dX]),.inr ⟨rfl,rfl⟩⟩;have key:(Instr.mapUpdate t (.map (aa rb.blk)) (.int .u64 (kk.toNat:Int)) (.pointer (aa ⟨r,q,ah⟩))).run P w= .ok () {w with heap:=w.heap.setIfInBounds rb.blk (dX (M++ [(kk,(r,q),c)]) (c+1))}:=by simp only [Instr.mapUpdate,bM,V _ _ hm,MapKept.run_getObj_map hw,MapKept.run_checkKey hd G,MapKept.run_findKey hd hf,MapKept.run_setObj_map _ hw,bQ,dX,Z]
 simp only [execOp,ho,he,g2,g3,bM,key,bQ,bZ]
theorem afD{t G U r q:Nat}(id:Nat){x y:Operand}{c:Nat}(hle:eU H.length L=ab)(ho:o.op= .mapUpdate t m x y)(hm:P.underlying t=aa (.map G U))(hd:P.underlying G=aa (.int .u64))(O:ev R m=aa (.mp id))(I:ev R x=aa (.u64 kk))(V:ev R y=aa (.lp r q))(hb:hk H id=aa (.ext (.lit (dX M c))))(hl:∀y,y∈M->(kk==y.1)=af)(h:k ah [(id,aa (.ext (.lit (dX (M++ [(kk,(r,q),c)]) (c+1)))))] [id] L):cR P o R H L k:=
 rN (gn (cr hle) hb) aq (aeI ho hm hd (bq O) (bq I) (bq V) (gb hb) hl) h
def sL(M:List ij)(kk:UInt64):List ij:=M.eraseP λx=>kk==x.1
theorem SF{kk:UInt64}:∀(M:List ij) (i:Nat),∃r,Instr.findNow (.int .u64) (.int .u64 (kk.toNat:Int)) (M.map mR) i=aa r/\((r=ah/\sL M kk=M)\/∃j v,r=aa (i+j,v)/\j<M.length/\sL M kk=M.eraseIdx j)
 | [],i=>⟨ah,rfl,.inl ⟨rfl,rfl⟩⟩
 |x::M,i=>by
  rw [iT];cases h:kk==x.1 with
  |true=>exact⟨aa (i+0,.pointer (aa ⟨x.2.1.1,x.2.1.2,ah⟩)),by simp only [Instr.findNow,mR,Instr.sameNow,if_true,Ed,h,qT],.inr ⟨0,_,rfl,aq,by simp [sL,List.eraseP_cons,h]⟩⟩
  |false=>
   obtain⟨r,h1,h2⟩:=SF (kk:=kk) M (i+1);refine⟨r,by simp only [Instr.findNow,mR,Instr.sameNow,if_true,Ed,h];exact h1,?_⟩;rcases h2 with⟨h2,h3⟩|⟨j,v,h2,h3,h4⟩
   .exact .inl ⟨h2,by unfold sL at h3|-;simp [List.eraseP_cons,h,h3]⟩
   .exact .inr ⟨j+1,v,by rw [h2];congr 2;omega,by simpa using h3,by unfold sL at h4|-;simp [List.eraseP_cons,h,h4]⟩
theorem Pv{α β:Type}(f:α->β):∀(l:List α) (j:Nat),(l.map f).eraseIdx j=(l.eraseIdx j).map f
 | [],_=>rfl
 |x::l,0=>rfl
 |x::l,j+1=>by simp [Pv f l j]
theorem aeH{R:eM}{H:cG}{t t2 W et id:Nat}{x:Operand}{c:Nat}(ho:o.op= .call {callee:= .builtin .delete,args:= #[m,x],argTypes:= #[t,t2]})(hm:P.underlying t=aa (.map W et))(hd:P.underlying W=aa (.int .u64))(em:aZ R m=aa (.mp id))(Z:aZ R x=aa (.u64 kk))(hb:H id=aa (.ext (.lit (dX M c)))):LT P o R H [id] [(id,aa (.ext (.lit (dX (sL M kk) c))))] (aa (.tup [])):=by
 refine LT.of_run cJ λe w ρ h1 h2 _ _=>?_
 have g1:=h1 m fG _ em;have g2:=h1 x fG _ Z;simp only [av]at g1 g2;obtain⟨rb,hr,he⟩:=g1;obtain⟨h6,O,V⟩:=h2 id aq _ hb;rw [hr]at O;cases O;obtain⟨⟨_,I⟩,hw⟩:=V;have r:IsKey (.int .u64) (.int .u64 (kk.toNat:Int)):=rfl;obtain⟨q,hf,hq⟩:=SF (kk:=kk) M 0;have G:Instr.findNow (.int .u64) (.int .u64 (kk.toNat:Int)) ((M.map mR).toArray).toList 0=aa q:=hf;have U:∀(t:TypeId) (d:TypeDesc),P.underlying t=aa d->(underlying t).run P w= .ok d w:=λt d h=>eS h
 refine⟨.value (.tuple #[]),_,ρ,?_,cI.putObj hb hr hw I (by simp [jT,dX]) (by simp [jT,dX]),.inl ⟨_,rfl,λv hv=>by cases hv;simp only [av];exact⟨[],rfl,by simp only [aD]⟩⟩⟩;have hj:∀j,j<M.length->((M.map mR).toArray).eraseIdxIfInBounds j=((M.eraseIdx j).map mR).toArray:=λj hj=>by unfold Array.eraseIdxIfInBounds;rw [dif_pos ua];simp [Pv]
 rcases hq with⟨rfl,hq⟩|⟨j,v,rfl,hjl,hq⟩
 .rw [hq];simp only [execOp,ho,resolve,invoke,builtin,bM,bZ,bQ,List.map_toArray,iT,qR,Builtin.delete_,sY,uh,pP,U _ _ hm,he,g2,MapKept.run_getObj_map hw,MapKept.run_checkKey hd r,MapKept.run_findKey hd G,MapKept.run_setObj_map _ hw,dX]
 .rw [hq];simp only [execOp,ho,resolve,invoke,builtin,bM,bZ,bQ,List.map_toArray,iT,qR,Builtin.delete_,sY,uh,pP,U _ _ hm,he,g2,MapKept.run_getObj_map hw,MapKept.run_checkKey hd r,MapKept.run_findKey hd G,MapKept.run_setObj_map _ hw,dX,ig,hj j hjl]
theorem afC{t t2 r O:Nat}(id:Nat){x:Operand}{c:Nat}(hle:eU H.length L=ab)(ho:o.op= .call {callee:= .builtin .delete,args:= #[m,x],argTypes:= #[t,t2]})(hm:P.underlying t=aa (.map r O))(hd:P.underlying r=aa (.int .u64))(I:ev R m=aa (.mp id))(G:ev R x=aa (.u64 kk))(hb:hk H id=aa (.ext (.lit (dX M c))))(h:k (aa (.tup [])) [(id,aa (.ext (.lit (dX (sL M kk) c))))] [id] L):cR P o R H L k:=
 rN (gn (cr hle) hb) aq (aeH ho hm hd (bq I) (bq G) (gb hb)) h
end
theorem acJ{j q:Nat}(U:k≠q)(O:j≠q):∀id,hg (eX H [(k,ah),(j,ah),(q,aa b)]) id=if id=k then ah else if id=j then ah else if id=q then aa b else hg H id:=λid=>by
 rw [mK];unfold jX;simp only [gJ,vB];by_cases e1:id=k
 .subst e1;simp
 .have G:(id==k)=af:=by simpa using e1
  by_cases e2:id=j
  .have r:(id==j)=ab:=wO;simp only [G,r,if_neg e1,if_pos e2]
  .have r:(id==j)=af:=wO;by_cases e3:id=q
   .have I:(id==q)=ab:=by simpa using e3
    simp only [G,r,I,if_neg e1,if_neg e2,if_pos e3]
   .have I:(id==q)=af:=by simpa using e3
    simp only [G,r,I,if_neg e1,if_neg e2,if_neg e3]
theorem Ou{B':Nat}{a:Act}{j q:Nat}{bk bj:SB}{l2:List AE}{f2:List FE}(hs:dO N B' L ρ (rg R) (hg H) a w)(hl:H.length<=L)(x5:l2= []\/k≠j)(U:hk H k=aa bk)(hj:hk H j=aa bj)(hq:hk H q=aa (.ext (.ar l fs)))(ok:bk.own=ab)(oj:bj.own=ab)(h7:k≠q)(x0:j≠q){h9 h8:RB}(kr:ρ k=aa h9)(jr:ρ j=aa h8)(h1:∀e,e∈l2->kY (λ_=>ah) w e.r e.off e.cells ab)(hp:l2.Pairwise λa b=>∀k o,¬(a.foot k o/\b.foot k o))(h2:∀e,e∈f2->jQ w e)(e1:∀e,e∈l2->∀k o,e.foot k o->foot h9 bk k o)(e2:∀e,e∈f2->∀k o,pZ e k o->foot h8 bj k o):dO N B' L ρ (rg R) (hg (eX H [(k,ah),(j,ah),(q,aa (.ext (.ar (l++l2) (f2++fs))))])) a w/\(eX H [(k,ah),(j,ah),(q,aa (.ext (.ar (l++l2) (f2++fs))))]).length<=L/\∀G o',dV ρ (hg (eX H [(k,ah),(j,ah),(q,aa (.ext (.ar (l++l2) (f2++fs))))])) G o'->dV ρ (hg H) G o':=by
 have x6:=gn hl U;have lj:=gn hl hj;have lq:=gn hl hq;rw [kJ]at U hj hq;obtain⟨ha,W,⟨qb,qp⟩,qf,qx⟩:=hs.heap q _ hq;have hg2:=acJ (H:=H) (b:= .ext (.ar (l++l2) (f2++fs))) h7 x0;have O:∀{id b},hg (eX H [(k,ah),(j,ah),(q,aa (.ext (.ar (l++l2) (f2++fs))))]) id=aa b->(id=q/\b= .ext (.ar (l++l2) (f2++fs)))\/(id≠k/\id≠j/\id≠q/\hg H id=aa b):=fun{id b} hb=>by
  rw [hg2]at hb;by_cases c1:id=k
  .rw [if_pos c1]at hb;cases hb
  .rw [if_neg c1]at hb;by_cases c2:id=j
   .rw [if_pos c2]at hb;cases hb
   .rw [if_neg c2]at hb;by_cases c3:id=q
    .rw [if_pos c3]at hb;cases hb;exact .inl ⟨c3,rfl⟩
    .rw [if_neg c3]at hb;exact .inr ⟨c1,c2,c3,hb⟩
 have Z:∀G o',YB.foot ha (.ar (l++l2) (f2++fs)) G o'->YB.foot ha (.ar l fs) G o'\/foot h9 bk G o'\/foot h8 bj G o':=by
  rintro G o' (⟨e,he,hf⟩|⟨e,he,hf⟩)
  .rcases mu.1 he with he|he
   .exact .inl (.inl ⟨e,he,hf⟩)
   .exact .inr (.inl (e1 e he G o' hf))
  .rcases mu.1 he with he|he
   .exact .inr (.inr (e2 e he G o' hf))
   .exact .inl (.inr ⟨e,he,hf⟩)
 have I:∀{i m bi bm ri rm},i≠m->hg H i=aa bi->hg H m=aa bm->ρ i=aa ri->ρ m=aa rm->bi.own=ab->∀G o',foot ri bi G o'->foot rm bm G o'->False:=fun{i m bi bm ri rm} h1 h2 h3 h4 h5 h6 G o' f1 f2=>hs.sep i m bi bm ri rm h1 h2 h3 h4 h5 h6 G o' ⟨f1,f2⟩
 refine⟨⟨hs.size,hs.regs,?_,?_,hs.fresh,hs.dfr⟩,pw hl (λid ob hm=>?_),?_⟩
 .intro id b hb;rcases O hb with⟨rfl,rfl⟩|⟨_,_,_,hb⟩
  .refine⟨ha,W,⟨λe he=>?_,?_⟩,λe he=>?_,λx hx e he G o' ⟨f1,f3⟩=>?_⟩
   .exact(mu.1 he).elim (qb e) (h1 e)
   .refine List.pairwise_append.2 ⟨qp,hp,λe he y hy G o' hf=>?_⟩;exact I h7 U hq kr W ok G o' (e1 y hy G o' hf.2) (.inl ⟨e,he,hf.1⟩)
   .exact(mu.1 he).elim (h2 e) (qf e)
   .rcases mu.1 hx with hx|hx<;>rcases mu.1 he with he|he
    .exact I x0 hj hq jr W oj G o' (e2 e he G o' f3) (.inl ⟨x,hx,f1⟩)
    .exact qx x hx e he G o' ⟨f1,f3⟩
    .exact I (x5.resolve_left λe=>by rw [e]at hx;simp at hx) U hj kr jr ok G o' (e1 x hx G o' f1) (e2 e he G o' f3)
    .exact I h7 U hq kr W ok G o' (e1 x hx G o' f1) (.inr ⟨e,he,f3⟩)
  .exact hs.heap id b hb
 .intro i m bi bm ri rm hne hi hm hri V hw G o' ⟨f1,f2⟩;rcases O hi with⟨ei,eb⟩|⟨i1,i2,i3,gi⟩
  .subst ei eb;rw [W]at hri;cases hri;rcases O hm with⟨em,ec⟩|⟨m1,m2,m3,gm⟩
   .exact hne em.symm
   .rcases Z G o' f1 with f1|f1|f1
    .exact I (λe=>m3 e.symm) hq gm W V rfl G o' f1 f2
    .exact I (λe=>m1 e.symm) U gm kr V ok G o' f1 f2
    .exact I (λe=>m2 e.symm) hj gm jr V oj G o' f1 f2
  .rcases O hm with⟨em,ec⟩|⟨m1,m2,m3,gm⟩
   .subst em ec;rw [W]at V;cases V;rcases Z G o' f2 with f2|f2|f2
    .exact I i3 gi hq hri W hw G o' f1 f2
    .exact I i1 gi U hri kr hw G o' f1 f2
    .exact I i2 gi hj hri jr hw G o' f1 f2
   .exact I hne gi gm hri V hw G o' f1 f2
 .simp only [gy,List.mem_nil_iff,or_false,Prod.mk.injEq]at hm;rcases hm with⟨rfl,_⟩|⟨rfl,_⟩|⟨rfl,_⟩<;>assumption
 .rintro G o' ⟨id,b,rb,g1,g2,g3,g4⟩;rcases O g1 with⟨rfl,rfl⟩|⟨_,_,_,hb⟩
  .rw [W]at g2;cases g2;rcases Z G o' g4 with f|f|f
   .exact⟨_,_,_,hq,W,rfl,f⟩
   .exact⟨_,_,_,U,kr,ok,f⟩
   .exact⟨_,_,_,hj,jr,oj,f⟩
  .exact⟨id,b,rb,hb,g2,g3,g4⟩
theorem aiX{B':Nat}{a:Act}{H:cG}{t:Nat}{x y:SV}(hs:dO N B' L ρ (rg R) H a w)(ht:lk t R=aa x)(h:∀v,av ρ x v->av ρ y v):dO N B' L ρ (rg ((t,y)::R)) H a w:=by
 refine⟨hs.size,?_,hs.heap,hs.sep,hs.fresh,hs.dfr⟩;intro t2 z hz;simp only [rg,gJ]at hz;split at hz
 .rename_i e;have:t2=t:=lS;subst this;cases hz;exact h _ (hs.regs t2 x pN)
 .exact hs.regs t2 z hz
theorem bp.toAr{M:Option Nat->Prop}{A0:Nat}{c:Code}(t k j q:Nat){A B C:List SV}(ht:lk t R=aa (.p k 0))(I:hk H k=aa (.box (cf A B C (.sl j 0 d.length 1 f) .slnil)))(hj:hk H j=aa (.row 5 (d.map .u8)))(hq:hk H q=aa (.ext (.ar l fs)))(hA:bJ A=ab)(hB:bJ B=ab)(hC:bJ C=ab)(h:∀r o (p1 p2:cC),p1.2.2=d->p2.2.2= []->bp P M N A0 c Q ((t,.lp r o)::R) (eX H [(k,ah),(j,ah),(q,aa (.ext (.ar (l++ [⟨r,o,cf A B C (cA p1) (cA p2)⟩]) (aX p1::aX p2::fs))))]) L):bp P M N A0 c Q R H L:=by
 refine⟨λr n B' ρ a w hM hs hl=>?_⟩;have x0:k≠q:=λe=>by subst e;rw [I]at hq;cases hq
 have ha:k≠j:=λe=>by subst e;rw [I]at hj;cases hj
 have h9:j≠q:=λe=>by subst e;rw [hj]at hq;cases hq
 have hk2:=I;have U:=hj;rw [kJ]at hk2 U;obtain⟨G,kr,kc,kl,kv⟩:=hs.heap k _ hk2;obtain⟨V,jr,jb⟩:=hs.heap j _ U;obtain⟨cc,ty,fz,c1,c2,c3,c4,c5⟩:=kc;obtain⟨v,u,hv,hu,hgo⟩:=LI hA hB hC c3;obtain⟨z1,z2,z3⟩:=Df hv jr jb (.inr rfl);obtain⟨p1,hp1⟩:∃p1:cC,p1=(v,V,d):=⟨_,rfl⟩;rw [<-hp1]at z1 z3;obtain⟨p2,hp2⟩:∃p2:cC,p2=(.slice ah 0 0,⟨0,0,0,ab⟩,[]):=⟨_,rfl⟩;have y1:jQ w (aX p2):=by rw [hp2];exact⟨⟨ah,0,rfl,bH _,.inl rfl⟩,.inl rfl⟩
 simp only [av]at hu;have O:=hgo (λ_=>ah) (cA p1) (cA p2) (by simp only [cA,av];rw [hp1];exact⟨rfl,z2⟩) (by simp only [cA,av];rw [hp2,hu];exact⟨rfl,ah,0,0,rfl⟩);have lX:∀x y,(cf A B C x y).length=(cf A B C (.sl j 0 d.length 1 f) .slnil).length:=λx y=>by rw [HR,HR]
 obtain⟨g1,g2,g3⟩:=Ou (l2:= [⟨G.blk,G.off,cf A B C (cA p1) (cA p2)⟩]) (f2:= [aX p1,aX p2]) hs hl (.inr ha) I hj hq rfl rfl x0 h9 kr jr
  (λe he=>by
   simp only [lx]at he;subst he;refine⟨cc,ty,fz,c1,?_,?_,c4,by dsimp only;rw [lX];exact c5⟩
   .rw [MU]at c2|-;exact c2
   .dsimp only;rw [lX];exact O)
  (List.pairwise_singleton _ _)
  (λe he=>by
   simp only [gy,List.mem_nil_iff,or_false]at he;rcases he with rfl|rfl
   .exact z1
   .exact y1)
  (λe he W o' hf=>by
   simp only [lx]at he;subst he;obtain⟨f1,f2,Z⟩:=hf;dsimp only at f1 f2 Z;rw [lX]at Z;exact⟨f1,f2,Z⟩)
  (λe he W o' hf=>by
   simp only [gy,List.mem_nil_iff,or_false]at he;rcases he with rfl|rfl
   .exact z3 V W o' ⟨_,lx.2 rfl,hf⟩
   .rw [hp2]at hf;simp [pZ,aX]at hf)
 have hS:=aiX (y:= .lp G.blk G.off) g1 ht (λv hv=>by
  simp only [av]at hv|-;obtain⟨rb,h2,h3⟩:=hv;rw [kr]at h2;cases h2;exact h3)
 refine wpIn_mono ((h G.blk G.off p1 p2 (by rw [hp1]) (by rw [hp2])).run r n B' ρ a w hM hS g2) ?_;rintro e a2 w2 ⟨R2,H2,L2,ρ2,h7,hl2,h8,h6⟩;exact⟨R2,H2,L2,ρ2,h7,hl2,h8,fT.trans ⟨λ_ _ _ h=>h,Fr.refl _ _,λW o' h=> .inl (g3 W o' h)⟩ h6⟩
theorem bp.toFs{M:Option Nat->Prop}{A0:Nat}{c:Code}(t j q:Nat)(ht:lk t R=aa (.sl j 0 d.length 1 f))(hj:hk H j=aa (.row 5 (d.map .u8)))(hq:hk H q=aa (.ext (.ar l fs)))(h:∀p1:cC,p1.2.2=d->bp P M N A0 c Q ((t,.lit p1.1)::R) (eX H [(j,ah),(q,aa (.ext (.ar l (aX p1::fs))))]) L):bp P M N A0 c Q R H L:=by
 refine⟨λr n B' ρ a w hM hs hl=>?_⟩;have I:j≠q:=λe=>by subst e;rw [hj]at hq;cases hq
 have G:=hj;rw [kJ]at G;obtain⟨O,Z,jb⟩:=hs.heap j _ G;have hv:=hs.regs t _ pN;obtain⟨z1,z2,z3⟩:=Df hv Z jb (.inr rfl);obtain⟨p1,hp1⟩:∃p1:cC,p1=(a.tmps.getD t undef,O,d):=⟨_,rfl⟩;rw [<-hp1]at z1 z3;obtain⟨g1,g2,g3⟩:=Ou (l2:= []) (f2:= [aX p1]) hs hl (.inl rfl) hj hj hq rfl rfl I I Z Z (λe he=>by simp at he) List.Pairwise.nil
  (λe he=>by simp only [lx]at he;subst he;exact z1) (λe he=>by simp at he)
  (λe he k' o' hf=>by simp only [lx]at he;subst he;exact z3 O k' o' ⟨_,lx.2 rfl,hf⟩)
 rw [jz]at g1 g2 g3;have hS:dO N B' L ρ (rg ((t,.lit p1.1)::R)) (hg (eX H [(j,ah),(j,ah),(q,aa (.ext (.ar l ([aX p1]++fs))))])) a w:=by
  refine⟨g1.size,?_,g1.heap,g1.sep,g1.fresh,g1.dfr⟩;intro t2 z hz;simp only [rg,gJ]at hz;split at hz
  .rename_i e;have:t2=t:=lS;subst this;cases hz;simp only [av];exact⟨by rw [hp1],by rw [hp1];exact z2⟩
  .exact g1.regs t2 z hz
 have e3:∀b,hg (eX H [(j,ah),(j,ah),(q,aa b)])=hg (eX H [(j,ah),(q,aa b)]):=λb=>by
  funext id
  rw [mK,mK];unfold jX;simp only [gJ];cases id==j<;>rfl
 rw [show [aX p1]++fs=aX p1::fs from rfl]at hS g2 g3;rw [e3]at hS g3;refine wpIn_mono ((h p1 (by rw [hp1])).run r n B' ρ a w hM hS (pw hl (λid ob hm=>?_))) ?_
 .simp only [gy,List.mem_nil_iff,or_false,Prod.mk.injEq]at hm;rcases hm with⟨rfl,_⟩|⟨rfl,_⟩
  .exact gn hl hj
  .exact gn hl hq
 .rintro e a2 w2 ⟨R2,H2,L2,ρ2,V,hl2,W,U⟩;exact⟨R2,H2,L2,ρ2,V,hl2,W,fT.trans ⟨λ_ _ _ h=>h,Fr.refl _ _,λk' o' h=> .inl (g3 k' o' h)⟩ U⟩
theorem Gf{j id:Nat}(hj:j<H.length):hg (H.set j (aa b)) id=if id=j then aa b else hg H id:=by
 unfold hg;rw [pQ];by_cases h:j=id
 .subst h;simp [hj]
 .rw [if_neg h,if_neg (λe=>h e.symm)]
theorem bV.lend{f:Nat}(xs:List SV){bs:List SV}{H0:HL}{ret:SV}{H1:HL}(j n:Nat){Y:YB}(h:bV P f (xs++ .sl j 0 p.2.2.length 1 af::bs) H0 ret H1)(hY:Y= .fam fs\/∃l,Y= .ar l fs)(hm:aX p∈fs)(hj0:hg H0 j=aa (.ro (p.2.2.map .u8)))(x6:j≠1000000)(V:bu (fF j n) (xs++bs)=aa (xs++bs))(hr:bG (fF j n) ret=aa ret)(h0:uA j n 0 H0)(h1:uA j n 0 H1)(hl:H0.length<=H1.length)(hro:∀id b,hg H1 id=aa b->b.own=af->id=j\/hg H0 id=aa b):bV P f (xs++ .lit p.1::bs) (H0.set j (aa (.ext Y))) ret (H1.set j (aa (.ext Y))):=by
 have x5:j<H0.length:=Oa;refine⟨h.fn,λnn ρ w vs hA hH hS hF=>?_⟩;have gj:hg (H0.set j (aa (.ext Y))) j=aa (.ext Y):=by rw [Gf x5,if_pos rfl]
 obtain⟨G,Z,h9⟩:=hH j _ gj;have g:jQ w (aX p)/\∀k q,foot p.2.1 (.ro (p.2.2.map .u8)) k q->foot G (.ext Y) k q:=by
  rcases hY with rfl|⟨l,rfl⟩
  .exact⟨h9 _ hm,λk q hf=>⟨_,hm,hf⟩⟩
  .exact⟨h9.2.1 _ hm,λk q hf=> .inr ⟨_,hm,hf⟩⟩
 obtain⟨gF,gf⟩:=g;let ρs:bw:=λid=>if id=j then aa p.2.1 else ρ id
 have U:∀id,id≠j->ρs id=ρ id:=λid hid=>if_neg hid
 have x0:ρs j=aa p.2.1:=if_pos rfl;have tr:∀{ρa ρb:bw} {x:SV} {v:Value},(∀id,id≠j->ρa id=ρb id)->bG (fF j n) x=aa x->av ρa x v->av ρb x v:=by intro ρa ρb x v e hx hv;have h1:=(lM x hx (ρ:=ρa)).2 hv;rw [sK e x6]at h1;exact(lM x hx (ρ:=ρb)).1 h1
 have trB:∀{ρa ρb:bw} {b:SB} {w:World} {r:RB},(∀id,id≠j->ρa id=ρb id)->cZ (fF j n) b=aa b->cd ρa w r b->cd ρb w r b:=by intro ρa ρb b w r e hx hv;have h1:=(l9 hx (ρ:=ρa) (w:=w) (rb:=r)).2 hv;rw [sK e x6]at h1;exact(l9 hx).1 h1
 have e1:∀id,id≠j->ρ id=ρs id:=λid hid=>(U id hid).symm
 have hA':aD ρs (xs++ .sl j 0 p.2.2.length 1 af::bs) vs:=by
  have:∀(xs:List SV) (us:List Value),bu (fF j n) (xs++bs)=aa (xs++bs)->aD ρ (xs++ .lit p.1::bs) us->aD ρs (xs++ .sl j 0 p.2.2.length 1 af::bs) us:=by
   intro xs
   induction xs with
   |nil=>
    intro us V h;simp only [jA,aD]at h V|-;obtain⟨y,ys,e,hy,hys⟩:=h;refine⟨y,ys,e,?_,?_⟩
    .simp only [av]at hy;rw [hy.1];exact(tA gF x0).1
    .have h2:=(jH bs V (ρ:=ρ)).2 hys;rw [sK e1 x6]at h2;exact(jH bs V (ρ:=ρs)).1 h2
   |cons x xs ih=>
    intro us V h;simp only [oz,aD]at h|-;obtain⟨y,ys,e,hy,hys⟩:=h;simp only [oz,bu]at V;cases hx:bG (fF j n) x with
    |none=>rw [hx]at V;cases V
    |some x2=>
     rw [hx]at V;cases hxs:bu (fF j n) (xs++bs)with
     |none=>rw [hxs]at V;cases V
     |some xs2=>
      rw [hxs]at V;have e2:=Option.some.inj V;injection e2 with e3 e4
      subst e3;exact⟨y,ys,e,tr e1 hx hy,ih ys (by rw [hxs,e4]) hys⟩
  exact this xs vs V hA
 have hgo:∀{id:Nat},id≠j->hg (H0.set j (aa (.ext Y))) id=hg H0 id:=fun{id} hid=>by rw [Gf x5,if_neg hid]
 have O:∀{id:Nat},id≠j->hg (H1.set j (aa (.ext Y))) id=hg H1 id:=fun{id} hid=>by rw [Gf (by omega),if_neg hid]
 have hHs:iX ρs (hg H0) w:=by
  intro id b hb;by_cases hid:id=j
  .subst hid;rw [hj0]at hb;cases hb;exact⟨_,x0,(tA gF x0).2⟩
  .obtain⟨r,g1,g2⟩:=hH id b (by rw [hgo hid];exact hb);exact⟨r,by rw [U id hid];exact g1,trB e1 ((vH h0 hb).resolve_left ag) g2⟩
 have W:∀k q,dV ρs (hg H0) k q->dV ρ (hg (H0.set j (aa (.ext Y)))) k q/\¬foot G (.ext Y) k q:=by
  rintro k q ⟨id,b,r,g1,g2,g3,g4⟩;have hid:id≠j:=λe=>by subst e;rw [hj0]at g1;cases g1;cases g3
  rw [U id hid]at g2;have g5:hg (H0.set j (aa (.ext Y))) id=aa b:=by rw [hgo hid];exact g1
  exact⟨⟨id,b,r,g5,g2,g3,g4⟩,λhf=>hS id j b _ r G hid g5 gj g2 Z g3 k q ⟨g4,hf⟩⟩
 have hSs:l7 ρs (hg H0):=by
  intro i k bi bk ri rk hne hi hk hri hrk hw q p ⟨hfi,hfk⟩;have hij:i≠j:=λe=>NQ
  rw [U i hij]at hri;by_cases hkj:k=j
  .subst hkj;rw [hj0]at hk;cases hk;rw [x0]at hrk;cases hrk;exact hS i k bi _ ri G hne (by rw [hgo hij];exact hi) gj hri Z hw q p ⟨hfi,gf q p hfk⟩
  .rw [U k hkj]at hrk;exact XB
 have hFs:∀id,H0.length<=id->ρs id=ah:=λid hid=>by rw [U id ag];exact hF id ou
 refine(h.call nn ρs w vs hA' hHs hSs hFs).mono λe w' hR=>?_
 cases e with
 |returned v=>
  obtain⟨ρ1,q1,q2,q3,q4,q5⟩:=hR;let ρ2:bw:=λid=>if id=j then ρ j else ρ1 id
  have I:∀id,id≠j->ρ2 id=ρ1 id:=λid hid=>if_neg hid
  have h6:ρ2 j=aa G:=by show(if j=j then ρ j else _)=_;rw [if_pos rfl];exact Z
  have e2:∀id,id≠j->ρ1 id=ρ2 id:=λid hid=>(I id hid).symm
  have h8:hg (H1.set j (aa (.ext Y))) j=aa (.ext Y):=by rw [Gf (by omega),if_pos rfl]
  have hnY:∀i bi ri,i≠j->hg H1 i=aa bi->ρ1 i=aa ri->bi.own=ab->∀q p,foot ri bi q p->foot G (.ext Y) q p->False:=λi bi ri hij hi hri hw q p f1 f2=>by
   rcases q5.own q p ⟨i,bi,ri,hi,hri,hw,f1⟩with ho|ho
   .exact(W q p ho).2 f2
   .have:=cd.foot_lt h9 f2;omega
  refine⟨ρ2,tr e2 hr q1,?_,?_,?_,?_,?_,?_⟩
  .intro id b hb;by_cases hid:id=j
   .subst hid;rw [h8]at hb;cases hb;refine⟨G,h6,?_⟩;have:cd ρ w' G (.ext Y):=h9.frame q5.fr λk q hf hO=>(W k q hO).2 hf
    exact this
   .rw [O hid]at hb;obtain⟨r,g1,g2⟩:=q2 id b hb;exact⟨r,by rw [I id hid];exact g1,trB e2 ((vH h1 hb).resolve_left ag) g2⟩
  .intro i k bi bk ri rk hne hi hk hri hrk hw q p ⟨f1,f2⟩;by_cases hij:i=j
   .subst hij;rw [h8]at hi;cases hi;rw [h6]at hri;cases hri;have hkj:k≠i:=λe=>hne e.symm
    rw [O hkj]at hk;rw [I k hkj]at hrk;cases hbk:bk.own with
    |true=>exact hnY k bk rk hkj hk hrk hbk q p f2 f1
    |false=>
     have h7:=(hro k bk hk hbk).resolve_left hkj;have hkl:k<H0.length:=by unfold hg at h7;rcases js k H0.length with h|h;exact h;rw [dI h]at h7;simp at h7
     obtain⟨r0,g1,_⟩:=hHs k bk h7;have:=q5.ext k hkl r0 g1;rw [hrk]at this;cases this;rw [U k hkj]at g1;exact hS i k _ bk G rk hne gj (by rw [hgo hkj];exact h7) Z g1 hw q p ⟨f1,f2⟩
   .rw [O hij]at hi;rw [I i hij]at hri;by_cases hkj:k=j
    .subst hkj;rw [h8]at hk;cases hk;rw [h6]at hrk;cases hrk;exact hnY i bi ri hij hi hri hw q p f1 f2
    .rw [O hkj]at hk;rw [I k hkj]at hrk;exact q3 i k bi bk ri rk hne hi hk hri hrk hw q p ⟨f1,f2⟩
  .intro id hid;rw [fJ]at hid;rw [I id ag];exact q4 id hid
  .intro id hid r x7;rw [fJ]at hid;by_cases hij:id=j
   .subst hij;rw [h6];rw [Z]at x7;exact x7
   .rw [I id hij];exact q5.ext id hid r (by rw [U id hij];exact x7)
  .exact q5.fr.mono (λk q _ ho=>(W k q ho).1)
  .rintro k q ⟨id,b,r,g1,g2,g3,g4⟩;by_cases hij:id=j
   .subst hij;rw [h8]at g1;cases g1;rw [h6]at g2;cases g2;exact .inl ⟨id,_,G,gj,Z,g3,g4⟩
   .rw [O hij]at g1;rw [I id hij]at g2;exact(q5.own k q ⟨id,b,r,g1,g2,g3,g4⟩).imp (λho=>(W k q ho).1) (λh=>h)
 |_=>exact hR
theorem TA(h:jQ w (aX p)):tj P ρ w p.1 1 p.2.2.length (p.2.2.map .u8):=by
 obtain⟨h1,h2⟩:=tA (ρ:=λ_=>aa p.2.1) (i:=0) h rfl;obtain⟨vs,a1,a2,r,G⟩:=qD (P:=P) h1 rfl h2 (by simp [SB.cells]);have e:((SB.ro (p.2.2.map SV.u8)).cells.drop 0).take (p.2.2.length*1)=p.2.2.map .u8:=by
  show((p.2.2.map SV.u8).drop 0).take _=_
  rw [cq,fS,bW aq]
 rw [e]at r G;exact⟨vs,a1,a2,oR (cY _) r,G⟩
theorem adV{H:cG}{o:Oper}{R:eM}{x y:Operand}{t xT el by_ nid n id q:Nat}{G:Bool}{z:SV}{l:List SV}{la:List AE}(ho:o.op= .call {callee:= .builtin .append,args:= #[x,y],argTypes:= #[t,xT]})(W:pe P t xT el 1 by_ z)(hx:aZ R x=aa (.sl id k n 1 G))(hid:H id=aa (.row el l))(O:k+n*1<=l.length)(hy:aZ R y=aa (.lit p.1))(hq:H q=aa (.ext (.ar la fs)))(hm:aX p∈fs)(hn:(n+p.2.2.length)*by_<=140737488355328)(hne:nid≠id/\nid≠q):LT P o R H [id,q] [(id,ah),(nid,aa (.row el ((l.drop k).take (n*1)++p.2.2.map .u8)))] (aa (.sl nid 0 (n+p.2.2.length) 1 af)):=by
 refine LT.of_run cJ λe w ρ h1 h2 _ r=>?_
 have hx2:=h1 x fG _ hx;have U:=h1 y fG _ hy;obtain⟨rb,hr,V⟩:=h2 id aq _ hid;obtain⟨h7,h6,I⟩:=h2 q aq _ hq;simp only [av]at U;have hs:=TA (P:=P) (ρ:=ρ) (I.2.1 _ hm);rw [<-U.1]at hs;obtain⟨v,w',ρ',a1,a2,Z⟩:=Ot (w:=w) (H:=H) (nid:=nid) ho W hx2 hid hr V O hs hn (λe=>hne.1 e.symm) (r nid (aa (.row el ((l.drop k).take (n*1)++p.2.2.map .u8))) aq AZ);exact⟨_,w',ρ',a1,a2,.inl ⟨v,rfl,λu hu=>by cases hu;exact Z⟩⟩
theorem D3{r:Array Oper}{Q:RL->HL->Nat->Prop}{o:Oper}{G:List Oper}{d f:Nat}{x:Operand}{args:Array Operand}{tys:Array TypeId}{caps zs args0:List SV}{H0:HL}{Φ:SV->HL->Prop}(sel:List Nat)(fl:List Bool)(rf:Bool)(hd:rz N r=ab)
  (hc:fc P f args0 H0 Φ) (ho:o.op= .call ⟨.value x,args,tys⟩) (hgp:nU r o (rg R)=aa ab) (hdst:o.dst=aa d) (hx:aZ (rg R) x=aa (.fn f caps)) (hargs:args.toList.map (aZ (rg R))=zs.map aa) (hren:bu sel args0=aa (zs++caps))
  (cx:sel.length=H0.length) (hok:iF sel H sel H0) (hdu:iA sel 0 sel H0=ab)
  (h:∀ret H1,Φ ret H1->oP fl H1=ab/\DI rf ret=ab/\(match rn (sel++dc L (H1.length-H0.length)) fl (sel++dc L (H1.length-H0.length)) H0 H1 with
   |some W=>(match LM rf (sel++dc L (H1.length-H0.length)) ret with|some z=>qX P N r Q G ((d,z)::R) (uQ H W) (L+(H1.length-H0.length))|none=>False)
   | none => False)) : qX P N r Q (o :: G) R H L := by
 refine Tw sel hd hc ho hgp hdst hx hargs hren cx hok hdu λret H1 I=>?_
 obtain⟨h1,h2,h3⟩:=h ret H1 I;split at h3
 .rename_i W hW;split at h3
  .rename_i z hz;refine⟨W,z,CY _ _ _ _ _ _ h1 hW,?_,by rw [<-Dp];exact h3⟩;cases rf with
   |false=>exact hz
   |true=>
    simp only [LM,Option.some.injEq]at hz;simp only [DI]at h2;rw [Hf _ h2,hz]
  .exact h3.elim
 .exact h3.elim
end Go.Sh
namespace Go.Sh
open Go.Proofs
variable{sm v:Bool}{l:List AE}{fs:List FE}{came cm:List UInt64}{F P d0:List UInt8}{b u:Nat}{s:UInt16}{p tp:UInt64}{S:UInt64->Prop}
abbrev tE(k:Kp):List SV:= [.u16 k.s,.u64 k.p,.i (k.b:Int),.u64 k.g]
abbrev sH(k:Kp):List SV:=kT k.sm k.tp k.cm
abbrev LF(a b:Kp)(t:Bool)(x y:SV):List SV:=cf (tE a) (sH a++tE b) (sH b++ [.b t]) x y
theorem SE(a b:Kp)(i j:Nat)(t:Bool):eD a b i j t=LF a b t (.sl i 0 a.d.length 1 a.f) (.sl j 0 b.d.length 1 b.f):=by simp only [eD,Kp.c,lE,nZ,LF,cf,tE,sH,iw,oz,jA]
theorem Ls(k q:Kp):bJ (sH k++tE q)=ab:=by have:=Ax k.sm k.tp k.cm;simp only [bJ,uf,fI]at this|-;exact⟨this,rfl⟩
theorem Lt(k:Kp)(t:Bool):bJ (sH k++ [.b t])=ab:=by have:=Ax k.sm k.tp k.cm;simp only [bJ,uf,fI]at this|-;exact⟨this,rfl⟩
def Kp.nf(k:Kp):Kp:={k with f:=af}
def As(k:Kp)(kid c:UInt64)(F:List UInt8)(u:Nat):Bool:=mM k.s (dR k.s kid k.d) (bf (dP k.s kid k.d) c) (F.take u) (F.drop u)
def uZ(k:Kp)(kid c:UInt64)(F:List UInt8)(u:Nat):List UInt8:=mh k.s (dR k.s kid k.d) (bf (dP k.s kid k.d) c) (F.drop u)
def Kp.t2(k:Kp)(c:UInt64):UInt64:=if k.sm then k.tp else c
def iO(k:Kp)(kid c:UInt64)(F:List UInt8)(u:Nat):Int×Kp:=if eE k.sm k.tp k.cm c=0 then(if As k kid c F u=ab then(0,k.note (k.t2 c) c)else(140,k))else(eE k.sm k.tp k.cm c,k)
structure Rk where
 a:Kp
 b:Kp
 t:Bool
def gd(x:Rk)(kid c:UInt64)(F:List UInt8)(u:Nat):Int×Rk×Kp:=
 if(kid&&&cB x.a.b==x.a.g)=ab then((iO x.a kid c F u).1,{x with a:=(iO x.a kid c F u).2},x.a)
 else if(x.t&&(kid&&&cB x.a.b==x.b.g))=ab then((iO x.b kid c F u).1,{x with b:=(iO x.b kid c F u).2},x.b)
 else if decide ((kid&&&cB x.a.b)<x.a.g)=ab then(241,x,x.a)
 else if decide ((kid&&&cB x.a.b)-x.a.g>aF (aU 64))=ab then(5,x,x.a)
 else if As (x.a.fwd ((kid&&&cB x.a.b)-x.a.g).toNat) kid c F u=ab then(0,⟨((x.a.fwd ((kid&&&cB x.a.b)-x.a.g).toNat).note c c).nf,x.a,ab⟩,x.a.fwd ((kid&&&cB x.a.b)-x.a.g).toNat)else(140,x,x.a)
structure EO(x:Rk)(s:UInt16)(b:Nat)(p:UInt64):Prop where
 ca:x.a.cm.length=16
 cb:x.b.cm.length=16
 fa:x.a.f=af
 fb:x.b.f=af
 sa:x.a.s=s
 pa:x.a.p=p
 ba:x.a.b=b
 da:0<x.a.d.length/\x.a.d.length<=1024
 tw:x.t=ab->x.b.s=s/\x.b.p=p/\x.b.b=b/\0<x.b.d.length/\x.b.d.length<=1024
structure EM(s:UInt16)(b:Nat)(p:UInt64)(F:List UInt8)(u:Nat)(kid c:UInt64):Prop where
 h1:1<=s.toNat
 h2:s.toNat<=5
 f2:F.length<1000000
 tk:fg F=aa (u,kid,c)
 px:(bh kid ((b:Int)).toNat !=p)=af
 kd:kid=aV p b (kid&&&cB b)
 u0:0<u
 u1:u<=F.length
 u2:u<100000
 f0:dH s<=F.length-u
 f1:F.length-u<=65536
structure Rp where
 r:Nat
 o:Nat
 pa:cC
 pb:cC
abbrev Rp.ae(q:Rp)(x:Rk):AE:=⟨q.r,q.o,LF x.a x.b x.t (cA q.pa) (cA q.pb)⟩
def Ci(q:Rp)(l:List AE)(fs:List FE)(k:Nat)(z:Int×Rk×Kp)(ret:SV)(N:HL):SV->HL->Prop:=λx H=>x=ret/\∃q1 q2:cC,q1.2.2=z.2.1.a.d/\q2.2.2=z.2.1.b.d/\H=aa (.ext (.ar (l.set k ((⟨q.r,q.o,q1,q2⟩:Rp).ae z.2.1)) (aX q1::aX q2::fs)))::N
theorem tX{x:Rk}{q:Rp}{k:Nat}{pF:cC}{z:Int×Rk×Kp}{ret ret':SV}{H1:HL}{i j:Nat}{E:Option (Nat×List UInt8)}(I:x.a.cm.length=16)(cb:x.b.cm.length=16)(U:x.a.f=af)(fb:x.b.f=af)(V:q.pa.2.2=x.a.d)(hb:q.pb.2.2=x.b.d)(hl:l[k]?=aa (q.ae x))(m1:aX q.pa∈fs)(m2:aX q.pb∈fs)(W:aX pF∈fs)(h:aQ 109 [.p 0 0,.slnil,.sl 3 0 pF.2.2.length 1 af] [al (eD x.a x.b 1 2 x.t),ak x.a.d,ak x.b.d,ak pF.2.2] ret (al (eD z.2.1.a z.2.1.b i j z.2.1.t)::H1))(Z:z.2.1.a.cm.length=16)(zb:z.2.1.b.cm.length=16)(hi:D6 q.pa q.pb (al (eD z.2.1.a z.2.1.b i j z.2.1.t)::H1) i z.2.1.a.d)(hj:D6 q.pa q.pb (al (eD z.2.1.a z.2.1.b i j z.2.1.t)::H1) j z.2.1.b.d)(hE:∀e,E=aa e->hg (al (eD z.2.1.a z.2.1.b i j z.2.1.t)::H1) e.1=aC 5 e.2/\4<=e.1/\e.1≠i/\e.1≠j)(G:bG ((aa (SB.box (eD z.2.1.a z.2.1.b i j z.2.1.t))::H1).length::(E.map iW).toList) ret'=aa ret):fc Tryz.prog 109 [.lp q.r q.o,.slnil,.lit pF.1] [aa (.ext (.ar l fs))] (Ci q l fs k z ret' ((E.map λe=>aa (SB.row 5 (e.2.map .u8))).toList)):=by
 refine fc.mono (bV.ar (p1:=q.pa) (p2:=q.pb) (A:=tE x.a) (B:=sH x.a++tE x.b) (C:=sH x.b++ [.b x.t]) (A':=tE z.2.1.a) (B':=sH z.2.1.a++tE z.2.1.b) (C':=sH z.2.1.b++ [.b z.2.1.t]) (E:=E) (k:=k) (f1:=z.2.1.a.f) (f2:=z.2.1.b.f) ?_ ?_ hi hj hE rfl (Ls _ _) (Lt _ _) rfl (Ls _ _) (Lt _ _) ?_ G hl m1 m2 W) ?_
 .rw [SE x.a x.b,U,fb]at h;rw [V,hb];exact h
 .rw [SE z.2.1.a z.2.1.b];rfl
 .simp only [aW,jM,oZ,dm,I,cb,Z,zb]
 .rintro r H ⟨e1,q1,q2,e2,e3,O⟩;exact⟨e1,q1,q2,e2,e3,O⟩
def AG(s:UInt16)(F:List UInt8)(u:Nat)(kid c:UInt64)(e:Int):SV:=if e=0 then .tup [.sl 1 0 (F.length-u-dH s) 1 af,.agg [.u64 kid,.u64 c],.i 0]else .tup [.slnil,.agg [.u64 0,.u64 0],.i e]
def nA(k:Kp)(kid c:UInt64)(F:List UInt8)(u:Nat)(e:Int):HL:=if e=0 then [aC 5 (uZ k kid c F u)]else []
theorem Rr(k:Kp)(h:k.cm.length=16)(t c:UInt64):(k.note t c).cm.length=16:=(uY _ _ _).trans h
theorem Te{x:Rk}{q:Rp}{k:Nat}{pF:cC}(eF:pF.2.2=F){kid c:UInt64}(hx:EO x s b p)(hf:EM s b p F u kid c)(I:q.pa.2.2=x.a.d)(hb:q.pb.2.2=x.b.d)(hl:l[k]?=aa (q.ae x))(m1:aX q.pa∈fs)(m2:aX q.pb∈fs)(mF:aX pF∈fs):fc Tryz.prog 109 [.lp q.r q.o,.slnil,.lit pF.1] [aa (.ext (.ar l fs))] (Ci q l fs k (gd x kid c F u) (AG s F u kid c (gd x kid c F u).1) (nA (gd x kid c F u).2.2 kid c F u (gd x kid c F u).1)):=by
 subst eF;obtain⟨G,cb,Z,fb,rfl,rfl,rfl,⟨d0,d1⟩,tw⟩:=hx;obtain⟨h1,h2,f2,tk,px,kd,u0,u1,u2,f0,f1⟩:=hf;cases e1:kid&&&cB x.a.b==x.a.g with
 |true=>
  have V:gd x kid c pF.2.2 u=((iO x.a kid c pF.2.2 u).1,{x with a:=(iO x.a kid c pF.2.2 u).2},x.a):=by unfold gd;rw [if_pos e1]
  have W:kid=aV x.a.p x.a.b x.a.g:=by rw [beq_iff_eq]at e1;rw [<-e1];exact kd
  rw [V];have h6:eE x.a.sm x.a.tp x.a.cm c=eE x.a.sm x.a.tp x.a.cm c:=rfl;by_cases e2:eE x.a.sm x.a.tp x.a.cm c=0
  .cases e3:As x.a kid c pF.2.2 u with
   |true=>
    have O:iO x.a kid c pF.2.2 u=(0,x.a.note (x.a.t2 c) c):=by unfold iO;rw [if_pos e2,if_pos e3]
    rw [O];exact tX (E:=aa (4,uZ x.a kid c pF.2.2 u)) (i:=1) (j:=2) G cb Z fb I hb hl m1 m2 mF (ahM x.a x.b x.t G pF.2.2 f2 u kid c tk px e1 h1 h2 d0 d1 W u1 u0 u2 f0 f1 e2 rfl e3) (Rr _ G _ _) cb (.inl ⟨rfl,I.symm⟩) (.inr (.inl ⟨rfl,hb.symm⟩)) (λe he=>by cases he;exact⟨rfl,cr rfl,Nat.ne_of_beq_eq_false rfl,Nat.ne_of_beq_eq_false rfl⟩) rfl
   |false=>
    have O:iO x.a kid c pF.2.2 u=(140,x.a):=by unfold iO;rw [if_pos e2,if_neg (by rw [e3];decide)]
    rw [O];exact tX (E:=ah) (i:=1) (j:=2) G cb Z fb I hb hl m1 m2 mF (ahK x.a x.b x.t G pF.2.2 f2 u kid c tk px e1 (t2:=x.a.t2 c) h1 h2 d0 d1 W u1 u0 u2 f0 f1 e2 rfl e3) G cb (.inl ⟨rfl,I.symm⟩) (.inr (.inl ⟨rfl,hb.symm⟩)) (λe he=>by cases he) rfl
  .have O:iO x.a kid c pF.2.2 u=(eE x.a.sm x.a.tp x.a.cm c,x.a):=by unfold iO;rw [if_neg e2]
   rw [O];have:=tX (E:=ah) (i:=1) (j:=2) (ret':= .tup [.slnil,.agg [.u64 0,.u64 0],.i (eE x.a.sm x.a.tp x.a.cm c)]) (z:=(eE x.a.sm x.a.tp x.a.cm c,x,x.a)) G cb Z fb I hb hl m1 m2 mF (ahL x.a x.b x.t G pF.2.2 f2 u kid c tk px e1 _ rfl e2) G cb (.inl ⟨rfl,I.symm⟩) (.inr (.inl ⟨rfl,hb.symm⟩)) (λe he=>by cases he) rfl;unfold AG nA;rw [if_neg e2,if_neg e2];exact this
 |false=>
  have n1:¬(kid&&&cB x.a.b==x.a.g)=ab:=by rw [e1];decide
  cases O:x.t&&(kid&&&cB x.a.b==x.b.g)with
  |true=>
   have V:gd x kid c pF.2.2 u=((iO x.b kid c pF.2.2 u).1,{x with b:=(iO x.b kid c pF.2.2 u).2},x.b):=by unfold gd;rw [if_neg n1,if_pos O]
   rw [fI]at O;obtain⟨xt,U⟩:=O;obtain⟨b1,b2,b3,b4,b5⟩:=tw xt;have W:kid=aV x.b.p x.b.b x.b.g:=by rw [beq_iff_eq]at U;rw [<-U,b2,b3];exact kd
   have ex:x=⟨x.a,x.b,ab⟩:=by obtain⟨_,_,_⟩:=x;simp only at xt;rw [xt]
   rw [V];rw [<-b1]at h1 h2 f0;have ht:dH x.b.s=dH x.a.s:=by rw [b1]
   by_cases e2:eE x.b.sm x.b.tp x.b.cm c=0
   .cases e3:As x.b kid c pF.2.2 u with
    |true=>
     have O:iO x.b kid c pF.2.2 u=(0,x.b.note (x.b.t2 c) c):=by unfold iO;rw [if_pos e2,if_pos e3]
     rw [O];have:=ahP x.a x.b G cb pF.2.2 f2 u kid c tk px e1 U (t2:=x.b.t2 c) h1 h2 b4 b5 W u1 u0 u2 f0 f1 e2 rfl e3;rw [<-xt,ht]at this;have:=tX (z:=(0,⟨x.a,x.b.note (x.b.t2 c) c,x.t⟩,x.b)) (ret':= .tup [.sl 1 0 (pF.2.2.length-u-dH x.a.s) 1 af,.agg [.u64 kid,.u64 c],.i 0]) (E:=aa (4,uZ x.b kid c pF.2.2 u)) (i:=1) (j:=2) G cb Z fb I hb hl m1 m2 mF this G (Rr _ cb _ _) (.inl ⟨rfl,I.symm⟩) (.inr (.inl ⟨rfl,hb.symm⟩)) (λe he=>by cases he;exact⟨rfl,cr rfl,Nat.ne_of_beq_eq_false rfl,Nat.ne_of_beq_eq_false rfl⟩) rfl;exact this
    |false=>
     have O:iO x.b kid c pF.2.2 u=(140,x.b):=by unfold iO;rw [if_pos e2,if_neg (by rw [e3];decide)]
     rw [O];have:=ahN x.a x.b G cb pF.2.2 f2 u kid c tk px e1 U (t2:=x.b.t2 c) h1 h2 b4 b5 W u1 u0 u2 f0 f1 e2 rfl e3;rw [<-xt]at this;exact tX (E:=ah) (i:=1) (j:=2) G cb Z fb I hb hl m1 m2 mF this G cb (.inl ⟨rfl,I.symm⟩) (.inr (.inl ⟨rfl,hb.symm⟩)) (λe he=>by cases he) rfl
   .have O:iO x.b kid c pF.2.2 u=(eE x.b.sm x.b.tp x.b.cm c,x.b):=by unfold iO;rw [if_neg e2]
    rw [O];have:=ahO x.a x.b G cb pF.2.2 f2 u kid c tk px e1 U _ rfl e2;rw [<-xt]at this;have:=tX (E:=ah) (i:=1) (j:=2) (ret':= .tup [.slnil,.agg [.u64 0,.u64 0],.i (eE x.b.sm x.b.tp x.b.cm c)]) (z:=(eE x.b.sm x.b.tp x.b.cm c,x,x.b)) G cb Z fb I hb hl m1 m2 mF this G cb (.inl ⟨rfl,I.symm⟩) (.inr (.inl ⟨rfl,hb.symm⟩)) (λe he=>by cases he) rfl;unfold AG nA;rw [if_neg e2,if_neg e2];exact this
  |false=>
   have n2:¬(x.t&&(kid&&&cB x.a.b==x.b.g))=ab:=by rw [O];decide
   have hg2:x.t=ab->(kid&&&cB x.a.b==x.b.g)=af:=λh=>by rw [h]at O;exact O
   cases el:decide ((kid&&&cB x.a.b)<x.a.g)with
   |true=>
    have V:gd x kid c pF.2.2 u=(241,x,x.a):=by unfold gd;rw [if_neg n1,if_neg n2,if_pos el]
    rw [V];exact tX (E:=ah) (i:=1) (j:=2) G cb Z fb I hb hl m1 m2 mF (ahT x.a x.b x.t G cb pF.2.2 f2 u kid c tk px e1 hg2 el) G cb (.inl ⟨rfl,I.symm⟩) (.inr (.inl ⟨rfl,hb.symm⟩)) (λe he=>by cases he) rfl
   |false=>
    have n3:¬decide ((kid&&&cB x.a.b)<x.a.g)=ab:=by rw [el];decide
    cases U:decide ((kid&&&cB x.a.b)-x.a.g>aF (aU 64))with
    |true=>
     have V:gd x kid c pF.2.2 u=(5,x,x.a):=by unfold gd;rw [if_neg n1,if_neg n2,if_neg n3,if_pos U]
     rw [V];exact tX (E:=ah) (i:=1) (j:=2) G cb Z fb I hb hl m1 m2 mF (ahS x.a x.b x.t G cb pF.2.2 f2 u kid c tk px e1 hg2 el U) G cb (.inl ⟨rfl,I.symm⟩) (.inr (.inl ⟨rfl,hb.symm⟩)) (λe he=>by cases he) rfl
    |false=>
     have n4:¬decide ((kid&&&cB x.a.b)-x.a.g>aF (aU 64))=ab:=by rw [U];decide
     cases e5:As (x.a.fwd ((kid&&&cB x.a.b)-x.a.g).toNat) kid c pF.2.2 u with
     |true=>
      have V:gd x kid c pF.2.2 u=(0,⟨((x.a.fwd ((kid&&&cB x.a.b)-x.a.g).toNat).note c c).nf,x.a,ab⟩,x.a.fwd ((kid&&&cB x.a.b)-x.a.g).toNat):=by unfold gd;rw [if_neg n1,if_neg n2,if_neg n3,if_neg n4,if_pos e5]
      rw [V];have:=ahR x.a x.b x.t G cb h1 h2 d0 d1 pF.2.2 f2 u kid c tk px e1 hg2 el U f1 kd u1 u0 u2 f0 _ rfl e5;have:=tX (z:=(0,⟨((x.a.fwd ((kid&&&cB x.a.b)-x.a.g).toNat).note c c),x.a,ab⟩,x.a.fwd ((kid&&&cB x.a.b)-x.a.g).toNat)) (ret':= .tup [.sl 1 0 (pF.2.2.length-u-dH x.a.s) 1 af,.agg [.u64 kid,.u64 c],.i 0]) (E:=aa (5,uZ (x.a.fwd ((kid&&&cB x.a.b)-x.a.g).toNat) kid c pF.2.2 u)) (i:=4) (j:=1) G cb Z fb I hb hl m1 m2 mF this (uY _ _ _) G (.inr (.inr ⟨bH _,rfl⟩)) (.inl ⟨rfl,I.symm⟩) (λe he=>by cases he;exact⟨rfl,cr rfl,Nat.ne_of_beq_eq_false rfl,Nat.ne_of_beq_eq_false rfl⟩) rfl;exact this
     |false=>
      have V:gd x kid c pF.2.2 u=(140,x,x.a):=by unfold gd;rw [if_neg n1,if_neg n2,if_neg n3,if_neg n4,if_neg (by rw [e5];decide)]
      rw [V];exact tX (E:=ah) (i:=1) (j:=2) G cb Z fb I hb hl m1 m2 mF (ahQ x.a x.b x.t G cb h1 h2 d0 d1 pF.2.2 f2 u kid c tk px e1 hg2 el U f1 kd u1 u0 u2 f0 _ rfl e5) G cb (.inl ⟨rfl,I.symm⟩) (.inr (.inl ⟨rfl,hb.symm⟩)) (λe he=>by cases he) rfl
theorem Dk(came:List UInt64)(c:UInt64):oW came c=(came.getD (wI c) 0).toNat.testBit (c.toNat%64):=by
 unfold oW;have e1:aF (aU 1)=1:=aw;rw [e1];have e2:(c%64).toNat=c.toNat%64:=by rw [nM];rfl
 rw [e2];have hlt:c.toNat%64<64:=Nat.mod_lt _ aw;generalize c.toNat%64=k at hlt;generalize came.getD (c%1024/64).toNat 0=x;have hs:(bh x k).toNat=x.toNat/2^k:=by unfold bh;rw [if_pos hlt,sr];have:(aF k).toNat%64=k:=aA;rw [this,np]
 rw [jq,beq_iff_eq,Nat.testBit_eq_decide_div_mod_eq,decide_eq_true_eq,<-dJ,wW,hs];show _&&&1=1↔_
 rw [Nat.and_one_is_mod]
theorem VS(n:UInt64):(wB n).toNat=2^(n.toNat%64):=by
 have e2:(n%64).toNat=n.toNat%64:=by rw [nM];rfl
 have hlt:n.toNat%64<64:=Nat.mod_lt _ aw;unfold wB dr;rw [e2,if_pos hlt,uv];generalize n.toNat%64=k at hlt;have:(aF k).toNat%64=k:=aA;rw [this];show(1<<<k)%2^64=_
 rw [nk,Nat.one_mul,gq (Nat.pow_lt_pow_right aw hlt)]
theorem VT(n:UInt64):wI n=n.toNat%1024/64:=by unfold wI;rw [nL,nM];rfl
theorem GU(a b:UInt64):a.toNat%1024=b.toNat%1024↔wI a=wI b/\a.toNat%64=b.toNat%64:=by rw [VT,VT];omega
theorem Qs{l:List UInt64}{i j:Nat}{x:UInt64}(hi:i<l.length):(l.set i x).getD j 0=if i=j then x else l.getD j 0:=by
 simp only [dk,pQ];by_cases h:i=j
 .subst h;simp [hi]
 .simp [h]
theorem acz(hc:came.length=16)(n c:UInt64):oW (vg came n) c=(oW came c||decide (c.toNat%1024=n.toNat%1024)):=by
 rw [Dk,Dk];unfold vg;rw [Qs (by rw [hc];exact Ng n)];by_cases h:wI n=wI c
 .rw [if_pos h,h,Bg,Nat.testBit_or,VS,Nat.testBit_two_pow];congr 1;have:=GU c n;rw [decide_eq_decide,this];exact⟨λe=>⟨h.symm,e.symm⟩,λe=>e.2.symm⟩
 .rw [if_neg h];have:¬c.toNat%1024=n.toNat%1024:=λe=>h ((GU c n).1 e).1.symm
  rw [decide_eq_false this,Bool.or_false]
theorem acy(hc:came.length=16)(n c:UInt64):oW (C1 came n) c=(oW came c&& !decide (c.toNat%1024=n.toNat%1024)):=by
 rw [Dk,Dk];unfold C1;rw [Qs (by rw [hc];exact Ng n)];have hlt:c.toNat%64<64:=Nat.mod_lt _ aw;by_cases h:wI n=wI c
 .have hb:(~~~wB n).toNat.testBit (c.toNat%64)= !decide (n.toNat%64=c.toNat%64):=by
   rw [UInt64.toNat_not];have h1:UInt64.size-1-(wB n).toNat=2^64-((wB n).toNat+1):=by
    have:=(wB n).toNat_lt;show 2^64-1-_=_
    omega
   rw [h1,Nat.testBit_two_pow_sub_succ (wB n).toNat_lt,decide_eq_true hlt,Bool.true_and,VS,Nat.testBit_two_pow]
  rw [if_pos h,h,wW,Nat.testBit_and,hb];congr 2;have:=GU c n;rw [decide_eq_decide,this];exact⟨λe=>⟨h.symm,e.symm⟩,λe=>e.2.symm⟩
 .rw [if_neg h];have:¬c.toNat%1024=n.toNat%1024:=λe=>h ((GU c n).1 e).1.symm
  rw [decide_eq_false this,wP,Bool.and_true]
theorem Qy{came:List UInt64}(hc:came.length=16)(ctr:UInt64)(m:Nat)(hm:m<=1024)(r:m<=ctr.toNat)(c:UInt64):∀k,k<=m->(oW (gK came ctr m k) c=ab↔oW came c=ab/\∀j,j<k->c.toNat%1024≠(ctr.toNat-(m-j)+1)%1024)
 |0,_=>by simp [gK]
 |k+1,hk=>by
  have ih:=Qy hc ctr m hm r c k ag;have e1:(ctr-aF (m-k)+aF (aU 1)).toNat=ctr.toNat-(m-k)+1:=by
   have h1:(aF (m-k)).toNat=m-k:=aA;have h2:=ctr.toNat_lt;have h3:(ctr-aF (m-k)).toNat=ctr.toNat-(m-k):=by rw [wX _ _ (by rw [oA,h1];omega),h1]
   rw [lY,h3];show(_+1)%2^64=_
   rw [gq ag]
  unfold gK;rw [acy ((uD k).trans hc),fI,ih,e1];simp only [Bool.not_eq_true',decide_eq_false_iff_not];constructor
  .rintro⟨⟨h1,h2⟩,h3⟩;refine⟨h1,λj hj=>?_⟩;rcases js j k with h|h
   .exact h2 j h
   .obtain rfl:j=k:=ag;exact h3
  .rintro⟨h1,h2⟩;exact⟨⟨h1,λj hj=>h2 j ag⟩,h2 k ag⟩
structure pS(sm:Bool)(tp:UInt64)(cm:List UInt64)(S:UInt64->Prop):Prop where
 len:cm.length=16
 no:sm=af->cm=qK/\∀c,¬S c
 le:∀c,S c->sm=ab->c.toNat<=tp.toNat
 has:sm=ab->∀c,c.toNat<=tp.toNat->tp.toNat-c.toNat<1024->(oW cm c=ab↔S c)
theorem V0(tp:UInt64):pS af tp qK (λ_=>False):=⟨rfl,λ_=>⟨rfl,λ_ h=>h⟩,λ_ h=>h.elim,λh=>by cases h⟩
theorem Hw{c:UInt64}(h1:¬c>tp):(tp-c).toNat=tp.toNat-c.toNat/\c.toNat<=tp.toNat:=by
 have h2:c.toNat<=tp.toNat:=by rw [GT.gt,gh]at h1;omega
 exact⟨wX _ _ (by rw [oA];exact h2),h2⟩
theorem aiF(sm:Bool)(tp:UInt64)(cm:List UInt64)(c:UInt64):eE sm tp cm c=0\/eE sm tp cm c=160\/eE sm tp cm c=161:=by
 unfold eE;split
 .exact .inl rfl
 .split
  .exact .inr (.inr rfl)
  .split
   .exact .inr (.inl rfl)
   .exact .inl rfl
theorem aiG(h:pS sm tp cm S){c:UInt64}(hs:eE sm tp cm c=0):¬S c:=by
 intro hS;unfold eE at hs;have r:(aF (aU 1024)).toNat=1024:=aw;cases sm with
 |false=>exact(h.no rfl).2 c hS
 |true=>
  have hle:=h.le c hS rfl;have h1:¬c>tp:=by rw [GT.gt,gh];omega
  rw [if_neg (by simp only [Bool.true_eq_false,false_or];exact h1)]at hs;split at hs
  .exact CB
  .rename_i h2;rw [GE.ge,oA,r,(Hw h1).1]at h2;rw [if_pos ((h.has rfl c hle ag).2 hS)]at hs;exact CB
theorem aiH(h:pS sm tp cm S){c:UInt64}(hs:eE sm tp cm c=160):S c:=by
 unfold eE at hs;have r:(aF (aU 1024)).toNat=1024:=aw;split at hs
 .exact CB
 .rename_i h0;rw [not_or]at h0;have G:sm=ab:=by cases sm with
   |true=>rfl
   |false=>exact absurd rfl h0.1
  split at hs
  .exact CB
  .rename_i h2;rw [GE.ge,oA,r,(Hw h0.2).1]at h2;split at hs
   .rename_i h3;exact(h.has G c (Hw h0.2).2 ag).1 h3
   .exact CB
theorem V1(h:pS sm tp cm S){c:UInt64}(hs:eE sm tp cm c=0){t2:UInt64}(ht:t2=if sm then tp else c):pS ab (if c>t2 then c else t2) (lF t2 cm c) (λx=>S x\/x=c):=by
 have r:(aF (aU 1024)).toNat=1024:=aw;have hz:∀x,oW qK x=af:=λx=>by
  rw [Dk];have h1:=Ng x;have:qK.getD (wI x) 0=0:=by generalize wI x=i at h1;simp only [dk];have:qK=aK 16 0:=rfl;rw [this,List.getElem?_replicate];split<;>rfl
  rw [this];exact Nat.zero_testBit _
 have hl:(gK cm c (mH t2 c).toNat (mH t2 c).toNat).length=16:=(uD _).trans h.len;have qj:∀x,oW (lF t2 cm c) x=ab↔(oW (gK cm c (mH t2 c).toNat (mH t2 c).toNat) x=ab\/x.toNat%1024=c.toNat%1024):=λx=>by unfold lF;rw [acz hl,oy,decide_eq_true_eq]
 have U:∀{x y:UInt64},x.toNat=y.toNat->x=y:=λh=>dJ.1 h
 by_cases hA:c>t2
 .have hlt:t2.toNat<c.toNat:=by rw [GT.gt,gh]at hA;exact hA
  have G:sm=ab:=by cases sm with
   |true=>rfl
   |false=>rw [if_neg aw]at ht;rw [ht]at hlt;omega
  rw [G,if_pos rfl]at ht;have hm:(mH t2 c).toNat=min 1024 (c.toNat-t2.toNat):=by
   have hs:(c-t2).toNat=c.toNat-t2.toNat:=wX _ _ (by rw [oA];omega);have O:(if t2<c then t2 else c)=t2:=if_pos (by rw [gh];exact hlt);unfold mH;rw [O];split
   .rename_i h1;rw [gh,r,hs]at h1;rw [r];omega
   .rename_i h1;rw [gh,r,hs]at h1;rw [hs];omega
  rw [if_pos hA];refine⟨?_,λe=>(by cases e),λx hx _=>?_,λ_ x hx hw=>?_⟩
  .unfold lF vg;rw [fJ];exact hl
  .rcases hx with hx|rfl
   .have:=h.le x hx G;rw [<-ht]at this;omega
   .exact bH _
  .rw [qj,Qy h.len c _ ag ag x _ (bH _)];by_cases I:x=c
   .subst I;exact⟨λ_=> .inr rfl,λ_=> .inr rfl⟩
   .have hne:x.toNat≠c.toNat:=λe=>I (U e)
    have hp:¬x.toNat%1024=c.toNat%1024:=ag;rcases js t2.toNat x.toNat with h1|h1
    .have W:¬S x:=λhS=>by have:=h.le x hS G;rw [<-ht]at this;omega
     constructor
     .rintro(⟨_,h2⟩|h2)
      .exact absurd (by congr 1;omega) (h2 (x.toNat+(mH t2 c).toNat-c.toNat-1) ag)
      .exact absurd h2 hp
     .rintro(h2|h2)
      .exact absurd h2 W
      .exact absurd h2 I
    .have Z:=h.has G x (by rw [<-ht];exact h1) (by rw [<-ht];omega);constructor
     .rintro(⟨h2,_⟩|h2)
      .exact .inl (Z.1 h2)
      .exact absurd h2 hp
     .rintro(h2|h2)
      .exact .inl ⟨Z.2 h2,λj hj=>ag⟩
      .exact absurd h2 I
 .have hle:c.toNat<=t2.toNat:=by rw [GT.gt,gh]at hA;omega
  have hm:(mH t2 c).toNat=0:=by have O:(if t2<c then t2 else c)=c:=if_neg (by rw [gh];omega);unfold mH;rw [O,UInt64.sub_self,if_neg aw];rfl
  rw [if_neg hA];have hK:gK cm c (mH t2 c).toNat (mH t2 c).toNat=cm:=by rw [hm];rfl
  have V:sm=ab->t2.toNat-c.toNat<1024:=λG=>by
   rw [G,if_pos rfl]at ht;subst ht;unfold eE at hs;rw [if_neg (by rw [G];simp only [Bool.true_eq_false,false_or];exact hA)]at hs;split at hs
   .exact CB
   .rename_i h2;rw [GE.ge,oA,r,(Hw hA).1]at h2;omega
  refine⟨?_,λe=>(by cases e),λx hx _=>?_,λ_ x hx hw=>?_⟩
  .unfold lF vg;rw [fJ];exact hl
  .rcases hx with hx|rfl
   .cases sm with
    |false=>exact absurd hx ((h.no rfl).2 x)
    |true=>rw [if_pos rfl]at ht;rw [ht];exact h.le x hx rfl
   .exact hle
  .rw [qj,hK];cases sm with
   |false=>
    rw [if_neg aw]at ht;rw [(h.no rfl).1,hz];constructor
    .rintro(h2|h2)
     .cases h2
     .rw [ht]at hx hw;exact .inr (U ag)
    .rintro(h2|h2)
     .exact absurd h2 ((h.no rfl).2 x)
     .exact .inr (by rw [h2])
   |true=>
    have:=V rfl;rw [if_pos rfl]at ht;rw [h.has rfl x (by rw [<-ht];exact hx) (by rw [<-ht];exact hw)];constructor
    .rintro(h2|h2)
     .exact .inl h2
     .exact .inr (U ag)
    .rintro(h2|h2)
     .exact .inl h2
     .exact .inr (by rw [h2])
theorem Oz(s:UInt16)(d:List UInt8)(i:Nat):∀j,dp s d (i+j)=dp s (dp s d i) j
 |0=>rfl
 |j+1=>by show ra s (dp s d (i+j))=ra s (dp s (dp s d i) j);rw [Oz s d i j]
theorem pS.congr{T:UInt64->Prop}(h:pS sm tp cm S)(e:∀c,S c↔T c):pS sm tp cm T:=by
 have:S=T:=funext λc=>propext (e c)
 rw [<-this];exact h
structure uy(s:UInt16)(b:Nat)(p:UInt64)(d0:List UInt8)(x:Rk)(O:UInt64->UInt64->Prop):Prop where
 ok:EO x s b p
 da:x.a.d=dp s d0 x.a.g.toNat
 wa:pS x.a.sm x.a.tp x.a.cm (O x.a.g)
 tb:x.t=ab->x.b.d=dp s d0 x.b.g.toNat/\pS x.b.sm x.b.tp x.b.cm (O x.b.g)/\x.b.g.toNat<x.a.g.toNat
 up:∀g c,O g c->g.toNat<=x.a.g.toNat
structure ux(s:UInt16)(b:Nat)(p:UInt64)(d0:List UInt8)(g c:UInt64)(F:List UInt8)(u:Nat)(v:Bool)(P:List UInt8):Prop where
 fr:EM s b p F u (aV p b g) c
 gl:aV p b g&&&cB b=g
 ok:mM s (dR s (aV p b g) (dp s d0 g.toNat)) (bf (dP s (aV p b g) (dp s d0 g.toNat)) c) (F.take u) (F.drop u)=v
 pl:v=ab->mh s (dR s (aV p b g) (dp s d0 g.toNat)) (bf (dP s (aV p b g) (dp s d0 g.toNat)) c) (F.drop u)=P
theorem Le{g c:UInt64}(hf:ux s b p d0 g c F u v P){k:Kp}(h1:k.s=s)(h2:k.d=dp s d0 g.toNat):As k (aV p b g) c F u=v/\(v=ab->uZ k (aV p b g) c F u=P):=by unfold As uZ;rw [h1,h2];exact⟨hf.ok,hf.pl⟩
theorem Vz{g c:UInt64}(hf:ux s b p d0 g c F u v P){k:Kp}(h1:k.s=s)(h2:k.d=dp s d0 g.toNat)(hw:pS k.sm k.tp k.cm S):((iO k (aV p b g) c F u).1=0/\v=ab/\¬S c/\uZ k (aV p b g) c F u=P/\(iO k (aV p b g) c F u).2=k.note (k.t2 c) c/\pS ab (if c>k.t2 c then c else k.t2 c) (lF (k.t2 c) k.cm c) (λx=>S x\/x=c))\/((iO k (aV p b g) c F u).1≠0/\(iO k (aV p b g) c F u).2=k/\(((iO k (aV p b g) c F u).1=160/\S c)\/(iO k (aV p b g) c F u).1=161\/((iO k (aV p b g) c F u).1=140/\v=af))):=by
 obtain⟨q1,q2⟩:=Le hf h1 h2;unfold iO;rcases aiF k.sm k.tp k.cm c with e|e|e
 .rw [if_pos e,q1];cases v with
  |true=>rw [if_pos rfl];exact .inl ⟨rfl,rfl,aiG hw e,q2 rfl,rfl,V1 hw e rfl⟩
  |false=>rw [if_neg aw];exact .inr ⟨aq,rfl,.inr (.inr ⟨rfl,rfl⟩)⟩
 .rw [e,if_neg aw];exact .inr ⟨aq,rfl,.inl ⟨rfl,aiH hw e⟩⟩
 .rw [e,if_neg aw];exact .inr ⟨aq,rfl,.inr (.inl rfl)⟩
def Og(s:UInt16)(b:Nat)(p:UInt64)(d0:List UInt8)(g c:UInt64)(F:List UInt8)(u:Nat)(v:Bool)(P:List UInt8)(x:Rk)(O:UInt64->UInt64->Prop)(z:Int×Rk×Kp):Prop:=
 (z.1=0/\v=ab/\¬O g c/\uZ z.2.2 (aV p b g) c F u=P/\uy s b p d0 z.2.1 (λG r=>O G r\/(G=g/\r=c)))\/
 (z.1≠0/\z.2.1=x/\((z.1=160/\O g c)\/z.1=161\/z.1=241\/z.1=5\/(z.1=140/\v=af)))
theorem RW{g c:UInt64}(hf:ux s b p d0 g c F u v P){x:Rk}{O:UInt64->UInt64->Prop}(hx:uy s b p d0 x O):Og s b p d0 g c F u v P x O (gd x (aV p b g) c F u):=by
 have hg:aV p b g&&&cB x.a.b=g:=by rw [hx.ok.ba];exact hf.gl
 unfold gd;rw [hg];cases e1:g==x.a.g with
 |true=>
  rw [if_pos rfl];have G:g=x.a.g:=by simpa using e1
  rcases Vz hf hx.ok.sa (by rw [G];exact hx.da) (S:=O g) (by rw [G];exact hx.wa)with⟨h1,h2,h3,h4,h5,h6⟩|⟨h1,h2,h3⟩
  .refine .inl ⟨h1,h2,h3,h4,?_⟩;dsimp only;rw [h5];refine⟨⟨(uY _ _ _).trans hx.ok.ca,hx.ok.cb,hx.ok.fa,hx.ok.fb,hx.ok.sa,hx.ok.pa,hx.ok.ba,hx.ok.da,hx.ok.tw⟩,hx.da,?_,λht=>?_,λV r h=>?_⟩
   .refine h6.congr λr=>?_
    show _↔O x.a.g r\/(x.a.g=g/\r=c)
    rw [<-G];exact⟨λh=>h.imp id λh=>⟨rfl,h⟩,λh=>h.imp id λh=>h.2⟩
   .obtain⟨a1,a2,U⟩:=hx.tb ht;refine⟨a1,a2.congr λr=>⟨λh=> .inl h,λh=>h.elim id λh=>?_⟩,U⟩;rw [h.1,G]at U;exact absurd U (Nat.lt_irrefl _)
   .rcases h with h|⟨h,_⟩
    .exact hx.up V r h
    .rw [h,G];exact bH _
  .refine .inr ⟨h1,?_,?_⟩
   .dsimp only;rw [h2]
   .rcases h3 with h3|h3|h3
    .exact .inl h3
    .exact .inr (.inl h3)
    .exact .inr (.inr (.inr (.inr h3)))
 |false=>
  rw [if_neg aw];have ne:g≠x.a.g:=by simpa using e1
  cases e2:x.t&&(g==x.b.g)with
  |true=>
   rw [if_pos rfl];rw [fI]at e2;obtain⟨ht,e2⟩:=e2;have G:g=x.b.g:=wO;obtain⟨a1,a2,U⟩:=hx.tb ht;obtain⟨Z,b2,b3,b4,b5⟩:=hx.ok.tw ht;rcases Vz hf Z (by rw [G];exact a1) (S:=O g) (by rw [G];exact a2)with⟨h1,h2,h3,h4,h5,h6⟩|⟨h1,h2,h3⟩
   .refine .inl ⟨h1,h2,h3,h4,?_⟩;dsimp only;rw [h5];refine⟨⟨hx.ok.ca,(uY _ _ _).trans hx.ok.cb,hx.ok.fa,hx.ok.fb,hx.ok.sa,hx.ok.pa,hx.ok.ba,hx.ok.da,hx.ok.tw⟩,hx.da,?_,λ_=>⟨a1,?_,U⟩,λV r h=>?_⟩
    .exact hx.wa.congr λr=>⟨λh=> .inl h,λh=>h.elim id λh=>absurd h.1.symm ne⟩
    .refine h6.congr λr=>?_
     show _↔O x.b.g r\/(x.b.g=g/\r=c)
     rw [<-G];exact⟨λh=>h.imp id λh=>⟨rfl,h⟩,λh=>h.imp id λh=>h.2⟩
    .rcases h with h|⟨h,_⟩
     .exact hx.up V r h
     .rw [h,G];exact Nat.le_of_lt U
   .refine .inr ⟨h1,?_,?_⟩
    .dsimp only;rw [h2]
    .rcases h3 with h3|h3|h3
     .exact .inl h3
     .exact .inr (.inl h3)
     .exact .inr (.inr (.inr (.inr h3)))
  |false=>
   rw [if_neg aw];cases e3:decide (g<x.a.g)with
   |true=>rw [if_pos rfl];exact .inr ⟨aq,rfl,.inr (.inr (.inl rfl))⟩
   |false=>
    rw [if_neg aw];cases e4:decide (g-x.a.g>aF (aU 64))with
    |true=>rw [if_pos rfl];exact .inr ⟨aq,rfl,.inr (.inr (.inr (.inl rfl)))⟩
    |false=>
     rw [if_neg aw];have hle:x.a.g.toNat<=g.toNat:=by rw [decide_eq_false_iff_not,gh]at e3;omega
     have hm:(g-x.a.g).toNat=g.toNat-x.a.g.toNat:=wX _ _ (by rw [oA];exact hle);have hlt:x.a.g.toNat<g.toNat:=by
      rcases js x.a.g.toNat g.toNat with h|h
      .exact h
      .exact absurd (dJ.1 ag) ne
     have hd:(x.a.fwd (g-x.a.g).toNat).d=dp s d0 g.toNat:=by
      show dp x.a.s x.a.d _=_
      rw [hx.ok.sa,hx.da,<-Oz,hm];congr 1;omega
     have I:(x.a.fwd (g-x.a.g).toNat).g=g:=by
      show mI x.a.g _=g
      rw [F9];refine dJ.1 ?_;rw [lY];have h1:(aF (g-x.a.g).toNat).toNat=g.toNat-x.a.g.toNat:=by rw [UInt64.ofNat_toNat];exact hm
      rw [h1];have:=g.toNat_lt;omega
     obtain⟨q1,q2⟩:=Le hf (k:=x.a.fwd (g-x.a.g).toNat) hx.ok.sa hd;rw [q1];cases v with
     |false=>rw [if_neg aw];exact .inr ⟨aq,rfl,.inr (.inr (.inr (.inr ⟨rfl,rfl⟩)))⟩
     |true=>
      rw [if_pos rfl];have W:∀r,¬O g r:=λr h=>by have:=hx.up g r h;omega
      refine .inl ⟨rfl,rfl,W c,q2 rfl,?_⟩;have hw:=V1 (V0 0) (c:=c) (t2:=c) (by simp [eE]) rfl;refine⟨⟨uY _ _ _,hx.ok.ca,rfl,hx.ok.fa,hx.ok.sa,hx.ok.pa,hx.ok.ba,?_,λ_=>⟨hx.ok.sa,hx.ok.pa,hx.ok.ba,hx.ok.da.1,hx.ok.da.2⟩⟩,?_,?_,λ_=>⟨hx.da,?_,?_⟩,λV r h=>?_⟩
      .exact vG hx.ok.da.1 hx.ok.da.2 _
      .show(x.a.fwd (g-x.a.g).toNat).d=dp s d0 (x.a.fwd (g-x.a.g).toNat).g.toNat
       rw [I];exact hd
      .show pS ab (if c>c then c else c) (lF c qK c) (λr=>O (x.a.fwd (g-x.a.g).toNat).g r\/((x.a.fwd (g-x.a.g).toNat).g=g/\r=c))
       rw [I];exact hw.congr λr=>⟨λh=>h.elim (λh=>h.elim) λh=> .inr ⟨rfl,h⟩,λh=>h.elim (λh=>absurd h (W r)) λh=> .inr h.2⟩
      .exact hx.wa.congr λr=>⟨λh=> .inl h,λh=>h.elim id λh=>absurd h.1.symm ne⟩
      .show x.a.g.toNat<(x.a.fwd (g-x.a.g).toNat).g.toNat
       rw [I];exact hlt
      .show V.toNat<=(x.a.fwd (g-x.a.g).toNat).g.toNat
       rw [I];rcases h with h|⟨h,_⟩
       .have:=hx.up V r h;omega
       .rw [h];exact bH _
theorem SW{d:List UInt8}(h0:0<d.length)(h1:d.length<=1024):uy s b p d ⟨⟨s,p,b,0,d,af,af,0,qK⟩,⟨0,0,0,0,[],af,af,0,qK⟩,af⟩ (λ_ _=>False):=
 ⟨⟨rfl,rfl,rfl,rfl,rfl,rfl,rfl,⟨h0,h1⟩,λh=>by cases h⟩,rfl,V0 0,λh=>(by cases h),λ_ _ h=>h.elim⟩
end Go.Sh
namespace Go.Sh
open Go.MapKept
variable{m:Operand}{zk:SV}{vk:Value}
abbrev pg:=Value×Nat
variable{M:List pg}
def AJ(x:pg):MapEntry:=⟨x.1,.agg #[],x.2⟩
def jJ(M:List pg)(c:Nat):Obj:= .map (M.map AJ).toArray c
def uz(P:Program)(r:TypeId)(M:List pg):Prop:=∀y,y∈M->∃l,keyOf P r y.1=aa l
section
variable {P:Program} {o:Oper} {R:RL} {H:HL} {L:Nat} {k:K1}
theorem Tp{r:TypeId}(K:WideMaps.KeyLaw P r)(hM:uz P r M)(hl:∃l,keyOf P r vk=aa l)(w:World):((Instr.findKey r vk ((M.map AJ).toArray).toList).run P w= .ok ah w/\¬vk∈M.map iW)\/∃j,(Instr.findKey r vk ((M.map AJ).toArray).toList).run P w= .ok (aa (j,.agg #[])) w/\vk∈M.map iW:=by
 obtain⟨l,hl⟩:=hl;rcases K.find w hl (M.map AJ) (λe he=>by obtain⟨y,hy,rfl⟩:=mw.1 he;exact hM y hy)with⟨h1,h2⟩|⟨j,e,h1,h2,h3⟩
 .refine .inl ⟨h1,λh=>?_⟩;obtain⟨y,hy,he⟩:=mw.1 h;exact h2 _ (List.mem_map_of_mem hy) he
 .have he:=jO h2;obtain⟨y,hy,rfl⟩:=mw.1 he;exact .inr ⟨j,h1,mw.2 ⟨y,hy,h3⟩⟩
theorem aeL{R:eM}{H:cG}{t U et id:Nat}{x:Operand}{c:Nat}{b:Bool}(K:WideMaps.KeyLaw P U)(hM:uz P U M)(hl:∃l,keyOf P U vk=aa l)(hbb:b=ab↔vk∈M.map iW)(ho:o.op= .lookup t m x ab)(hm:P.underlying t=aa (.map U et))(r:aZ R m=aa (.mp id))(ek:aZ R x=aa zk)(h7:oV zk=aa vk)(hb:H id=aa (.ext (.lit (jJ M c))))(hz:jm P et=aa (.agg [])):LT P o R H [id] [] (aa (.tup [.agg [],.b b])):=by
 refine LT.pure cJ λe w ρ h1 h2=>?_
 have g1:=h1 m dj _ r;have g2:=(AP h7).1 (h1 x dj _ ek);simp only [av]at g1;obtain⟨rb,hr1,he⟩:=g1;obtain⟨h8,I,Z⟩:=h2 id aq _ hb;rw [hr1]at I;cases I;obtain⟨_,hw⟩:=Z;have O:∀(t:TypeId) (d:TypeDesc),P.underlying t=aa d->(underlying t).run P w= .ok d w:=λt d h=>eS h
 have G:∀r,(Instr.checkKey r 10000 U vk).run P w= .ok () w:=λr=>by obtain⟨l,hl⟩:=hl;exact K.check w r hl
 have V:∀W:Bool,av ρ (.tup [.agg [],.b W]) (.tuple #[.agg #[],.bool W]):=λW=>by simp only [av];exact⟨[.agg #[],.bool W],rfl,aD.cons (by simp only [av];exact⟨[],rfl,rfl,aD.nil_iff.2 rfl⟩) (aD.cons gO (aD.nil_iff.2 rfl))⟩
 rcases Tp K hM hl w with⟨hf,hn⟩|⟨j,hf,hn⟩
 .have e2:b=af:=by cases b with
   |false=>rfl
   |true=>exact absurd (hbb.1 rfl) hn
  subst e2;obtain⟨v,hv,h6,_⟩:=Hu (P:=P) (w:=w) hz;have ev:v= .agg #[]:=by have:=h6 (λ_=>ah);simp only [av]at this;obtain⟨cs,rfl,_,h3⟩:=this;rw [aD.nil_iff]at h3;rw [h3]
  subst ev;refine⟨.tuple #[.agg #[],.bool af],?_,V af⟩;simp only [execOp,ho,he,g2,Instr.lookup,bM,O _ _ hm,MapKept.run_getObj_map hw,G,hf,bQ,bZ,if_true,hv]
 .have e2:b=ab:=hbb.2 hn;subst e2;refine⟨.tuple #[.agg #[],.bool ab],?_,V ab⟩;simp only [execOp,ho,he,g2,Instr.lookup,bM,O _ _ hm,MapKept.run_getObj_map hw,G,hf,bQ,bZ,if_true]
theorem La{t r I:Nat}(id:Nat)(b:Bool){x:Operand}(vk:Value){c:Nat}(K:WideMaps.KeyLaw P r)(hM:uz P r M)(hl:∃l,keyOf P r vk=aa l)(hbb:b=ab↔vk∈M.map iW)(ho:o.op= .lookup t m x ab)(hm:P.underlying t=aa (.map r I))(U:ev R m=aa (.mp id))(O:ev R x=aa zk)(G:oV zk=aa vk)(hb:hk H id=aa (.ext (.lit (jJ M c))))(hz:jm P I=aa (.agg []))(h:k (aa (.tup [.agg [],.b b])) [] [id] L):cR P o R H L k:=
 dB (aeL K hM hl hbb ho hm (bq U) (bq O) G (gb hb) hz) h
theorem aeK{R:eM}{H:cG}{t O et id:Nat}{x y:Operand}{c:Nat}(K:WideMaps.KeyLaw P O)(hM:uz P O M)(hl:∃l,keyOf P O vk=aa l)(hno:¬vk∈M.map iW)(ho:o.op= .mapUpdate t m x y)(hm:P.underlying t=aa (.map O et))(r:aZ R m=aa (.mp id))(ek:aZ R x=aa zk)(Z:oV zk=aa vk)(ey:aZ R y=aa (.agg []))(hb:H id=aa (.ext (.lit (jJ M c)))):LT P o R H [id] [(id,aa (.ext (.lit (jJ (M++ [(vk,c)]) (c+1)))))] ah:=by
 refine LT.of_run cJ λe w ρ h1 h2 _ _=>?_
 have g1:=h1 m dj _ r;have g2:=(AP Z).1 (h1 x dj _ ek);have g3:=(AP (x:= .agg []) (u:= .agg #[]) rfl).1 (h1 y dj _ ey);simp only [av]at g1;obtain⟨rb,hr,he⟩:=g1;obtain⟨h6,I,U⟩:=h2 id aq _ hb;rw [hr]at I;cases I;obtain⟨⟨_,G⟩,hw⟩:=U;have W:∀(t:TypeId) (d:TypeDesc),P.underlying t=aa d->(underlying t).run P w= .ok d w:=λt d h=>eS h
 have V:∀r,(Instr.checkKey r 10000 O vk).run P w= .ok () w:=λr=>by obtain⟨l,hl⟩:=hl;exact K.check w r hl
 have ea:((M++ [(vk,c)]).map AJ).toArray=(M.map AJ).toArray.push ⟨vk,.agg #[],c⟩:=by simp [AJ]
 rcases Tp K hM hl w with⟨hf,_⟩|⟨j,_,hn⟩
 .refine⟨.skip,_,ρ,?_,cI.putObj hb hr hw G (by simp [jT,jJ]) (by simp [jT,jJ]),.inr ⟨rfl,rfl⟩⟩;have key:(Instr.mapUpdate t (.map (aa rb.blk)) vk (.agg #[])).run P w= .ok () {w with heap:=w.heap.setIfInBounds rb.blk (jJ (M++ [(vk,c)]) (c+1))}:=by simp only [Instr.mapUpdate,bM,W _ _ hm,MapKept.run_getObj_map hw,V,hf,MapKept.run_setObj_map _ hw,bQ,jJ,ea]
  simp only [execOp,ho,he,g2,g3,bM,key,bQ,bZ]
 .exact absurd hn hno
theorem RI{t r U:Nat}(id:Nat){x y:Operand}(vk:Value){c:Nat}(hle:eU H.length L=ab)(K:WideMaps.KeyLaw P r)(hM:uz P r M)(hl:∃l,keyOf P r vk=aa l)(hno:¬vk∈M.map iW)(ho:o.op= .mapUpdate t m x y)(hm:P.underlying t=aa (.map r U))(O:ev R m=aa (.mp id))(I:ev R x=aa zk)(G:oV zk=aa vk)(V:ev R y=aa (.agg []))(hb:hk H id=aa (.ext (.lit (jJ M c))))(h:k ah [(id,aa (.ext (.lit (jJ (M++ [(vk,c)]) (c+1)))))] [id] L):cR P o R H L k:=
 rN (gn (cr hle) hb) aq (aeK K hM hl hno ho hm (bq O) (bq I) G (bq V) (gb hb)) h
end
end Go.Sh
namespace Go.Sh
open Go.Proofs
variable{P:Program}
theorem QQ:WideMaps.KeyLaw Tryz.prog 69:=deep_law (m:=3) (by decide) (by kernel_rfl) (by kernel_rfl) (by kernel_rfl)
theorem KJ:WideMaps.KeyLaw Tryz.prog 161:=deep_law (m:=4) (by decide) (by kernel_rfl) (by kernel_rfl) (by kernel_rfl)
theorem VZ(a:UInt64):(Lit.int .u64 (a.toNat:Int)).wf=ab:=by have:=a.toNat_lt;simp only [Lit.wf,fI,decide_eq_true_eq];exact⟨by show(0:Int)<=_;omega,by show _<=(18446744073709551615:Int);omega⟩
theorem kI{d t:Nat}{q:IntKind}{n:Int}(h:P.underlying t=aa (.int q))(hw:(Lit.int q n).wf=ab):P.keyLits (d+1) t [.int q n]=aa [.int q n]:=by unfold Program.keyLits;simp [h,hw]
theorem kS{d t:Nat}{f1 f2:Field}{cs:List Value}{l1 l2:List Lit}(h:P.underlying t=some (.struct #[f1,f2]))(hc:cs.length=P.cellsOf t)(hn:(#[f1,f2]:Array Field).all (·.name != "_")=true)(h1:P.keyLits d f1.type ((cs.drop f1.offset).take (P.cellsOf f1.type))=some l1)(h2:P.keyLits d f2.type ((cs.drop f2.offset).take (P.cellsOf f2.type))=some l2):P.keyLits (d+1) t cs=some (l1++l2):=by unfold Program.keyLits;simp only [h];rw [if_pos ⟨hc,hn⟩];simp [h1,h2]
def pI(a b:UInt64):Value:= .agg #[.int .u64 (a.toNat:Int),.int .u64 (b.toNat:Int)]
def jx(i:Int)(a b:UInt64):Value:= .agg #[.int .i64 i,.int .u64 (a.toNat:Int),.int .u64 (b.toNat:Int)]
theorem MX:Tryz.prog.underlying 69=some (.struct #[{name:= "Kid",type:=24,offset:=0,embedded:=false,tag:= "",pkgPath:= "",byteOffset:=0},{name:= "Ctr",type:=24,offset:=1,embedded:=false,tag:= "",pkgPath:= "",byteOffset:=8}]):=by kernel_rfl
theorem MW:Tryz.prog.underlying 161=some (.struct #[{name:= "who",type:=3,offset:=0,embedded:=false,tag:= "",pkgPath:= "hailer/hailertop",byteOffset:=0},{name:= "h",type:=69,offset:=1,embedded:=false,tag:= "",pkgPath:= "hailer/hailertop",byteOffset:=8}]):=by kernel_rfl
theorem VD:Tryz.prog.underlying 24=aa (.int .u64):=by kernel_rfl
theorem u3:Tryz.prog.underlying 3=aa (.int .i64):=by kernel_rfl
theorem OO:Tryz.prog.cellsOf 24=1:=by kernel_rfl
theorem c3:Tryz.prog.cellsOf 3=1:=by kernel_rfl
theorem Js:Tryz.prog.cellsOf 69=2:=by kernel_rfl
theorem ON:Tryz.prog.cellsOf 161=3:=by kernel_rfl
theorem QT(d:Nat)(a b:UInt64):Tryz.prog.keyLits (d+2) 69 [.int .u64 (a.toNat:Int),.int .u64 (b.toNat:Int)]=aa ([.int .u64 (a.toNat:Int)]++ [.int .u64 (b.toNat:Int)]):=
 kS MX (by rw [Js];rfl) bD (by dsimp only;rw [OO];exact kI VD (VZ a)) (by dsimp only;rw [OO];exact kI VD (VZ b))
theorem KK(a b:UInt64):∃l,keyOf Tryz.prog 69 (pI a b)=aa l:=by
 have r:Tryz.prog.keyType 69=ab:=bD;obtain⟨n,hn⟩:∃n,Tryz.prog.types.size=n+3:=⟨Tryz.prog.types.size-3,bD⟩;have f:(pI a b).formed Tryz.prog 69=ab:=by simp only [Value.formed,pI,MX,Js];rfl
 unfold keyOf;simp only [MX,r,f,Bool.and_self,if_true,hn];have:=QT (n+2) a b;exact⟨_,by rw [show(pI a b).cells.toList= [.int .u64 (a.toNat:Int),.int .u64 (b.toNat:Int)]from rfl,this];rfl⟩
theorem Gn(i:Nat)(hi:i<3)(a b:UInt64):∃l,keyOf Tryz.prog 161 (jx (i:Int) a b)=aa l:=by
 have r:Tryz.prog.keyType 161=ab:=bD;obtain⟨n,hn⟩:∃n,Tryz.prog.types.size=n+3:=⟨Tryz.prog.types.size-3,bD⟩;have f:(jx (i:Int) a b).formed Tryz.prog 161=ab:=by simp only [Value.formed,jx,MW,ON];rfl
 have G:(Lit.int .i64 (i:Int)).wf=ab:=by simp only [Lit.wf,fI,decide_eq_true_eq];exact⟨by show(-9223372036854775808:Int)<=_;omega,by show _<=(9223372036854775807:Int);omega⟩
 unfold keyOf;simp only [MW,r,f,Bool.and_self,if_true,hn];have h:=kS (d:=n+3) (cs:= [.int .i64 (i:Int),.int .u64 (a.toNat:Int),.int .u64 (b.toNat:Int)]) MW (by rw [ON];rfl) bD (by dsimp only;rw [c3];exact kI u3 G) (by dsimp only;rw [Js];exact QT (n+1) a b);exact⟨_,by rw [show(jx (i:Int) a b).cells.toList= [.int .i64 (i:Int),.int .u64 (a.toNat:Int),.int .u64 (b.toNat:Int)]from rfl,h];rfl⟩
def qu(x:List SV)(r:List UInt8):List SV:=r.flatMap λd=> .u8 0:: .u8 d::x
def sJ(s:UInt8)(ds:List UInt8)(i:Nat):List UInt8:=(ds.take i).filter λd=>d !=s
theorem Ln(x:List SV)(d:UInt8)(r:List UInt8):qu x (d::r)=(.u8 0:: .u8 d::x)++qu x r:=rfl
theorem agr(x:List SV)(r:List UInt8)(d:UInt8):qu x (r++ [d])=qu x r++(.u8 0:: .u8 d::x):=by unfold qu;simp
theorem Lo{x:List SV}(hx:x.length=21):∀r:List UInt8,(qu x r).length=r.length*23
 | []=>rfl
 |d::r=>by rw [Ln,aW,Lo hx r];simp only [jM,hx];omega
theorem GM{x:List SV}(hx:bJ x=ab):∀r:List UInt8,bJ (qu x r)=ab
 | []=>rfl
 |d::r=>by
  rw [Ln];have:=GM hx r;rw [DH,this,Bool.and_true];exact hx
theorem ags{x:List SV}(hx:x.length=21)(r:List UInt8)(d:UInt8){R:List SV}(hR:R= .u8 0:: .u8 d::x):qu x (r++ [d])=aB (r.length*23) (aG 0 (qu x r))++aB (1*23) (aG 0 R):=by subst hR;rw [agr,cq,cq,bW (by rw [Lo hx];exact bH _),bW (by simp only [jM,hx];omega)]
theorem agq(s:UInt8)(ds:List UInt8):sJ s ds ds.length=ds.filter λd=>d !=s:=by unfold sJ;rw [ly]
theorem RZ{s:UInt8}{ds:List UInt8}{i:Nat}{d:UInt8}(h:ds[i]?=aa d):sJ s ds (i+1)=if d==s then sJ s ds i else sJ s ds i++ [d]:=by have hi:=(dA.1 h).1;have hx:=(dA.1 h).2;unfold sJ;rw [Bc hi,List.filter_append,hx];cases e:d==s<;>simp [List.filter,bne,e]
theorem agp(s:UInt8)(ds:List UInt8)(i:Nat):(sJ s ds i).length<=ds.length:=jP (List.length_filter_le _ _) (by rw [eZ];omega)
theorem Fz:∀ds:List UInt8,(aN ds).length=ds.length*2
 | []=>rfl
 |d::ds=>by show(aN ds).length+1+1=_;rw [Fz ds];simp only [jM];omega
theorem Pm:∀(ds:List UInt8) (i:Nat),(aN ds).drop (i*2)=aN (ds.drop i)
 |ds,0=>aq
 | [],i+1=>aq
 |d::ds,i+1=>by
  rw [show(i+1)*2=i*2+1+1 from by omega];show(aN ds).drop (i*2)=_
  rw [Pm ds i];rfl
theorem Zv{ds:List UInt8}{i k:Nat}{d:UInt8}(h:ds[i]?=aa d)(hk:k=i*2):dz ab 2 (aN ds) k=aa (.agg [.u8 0,.u8 d]):=by subst hk;have hi:=(dA.1 h).1;have hx:=(dA.1 h).2;simp only [dz,if_true];rw [if_pos (by rw [Fz];omega),Pm,List.drop_eq_getElem_cons hi,hx];rfl
end Go.Sh
