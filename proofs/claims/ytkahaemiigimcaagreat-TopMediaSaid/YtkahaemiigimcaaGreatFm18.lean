/- Merged for a claim: W46, Y4, Y5, Y7. -/
import Derived.Test.YtkahaemiigimcaaGreatFm17
set_option linter.unusedSimpArgs false
set_option linter.unusedVariables false
set_option maxHeartbeats 8000000
open Option renaming some->aa,none->ah
open Bool renaming true->ab,false->af,and_eq_true->fI
open List renaming take->aB,drop->aG,length_append->aW,take_of_length_le->bW,drop_zero->cq,getElem?_eq_getElem->dy,getElem?_eq_some_iff->dA,map_append->dU,length_take->eZ,mem_cons->gy,map_cons->iT,length_cons->jM,mem_cons_of_mem->jN,mem_of_getElem?->jO,mem_cons_self->kX,mem_singleton->lx,mem_append->mu,length_nil->oZ,getElem?_cons_succ->pP,map_nil->qR,take_left'->vz
open UInt64 renaming ofNat->aF,toNat_inj->dJ,toNat_add->lY,toNat->Be
open Int renaming toNat->aU
open Nat renaming le_refl->bH,beq->dD,lt_or_ge->js,min_eq_left->jt,le_trans->jP,zero_le->kD
open UInt8 renaming ofNat->cX
open Prod renaming fst->iW
open Iff renaming rfl->qO
namespace Go.Sh
open Go.Proofs
variable{R:List ij}{y:il}{s:UInt16}
structure Pt where
 dv:UInt8
 m:Mb
 z:Option il
 R:List ij
 n:Nat
structure Pc where
 fr:Nat
 b:cC
 t:cC
abbrev rR(c:Pc):List SV:= [.i (c.fr:Int),.lit c.b.1,.lit c.t.1]
def i5(l:List Pc):List SV:=l.flatMap rR
theorem Kt(c:Pc)(l:List Pc):i5 (c::l)=rR c++i5 l:=rfl
theorem Qq(a b:List Pc):i5 (a++b)=i5 a++i5 b:=by simp [i5]
theorem F7:∀l:List Pc,(i5 l).length=l.length*3
 | []=>rfl
 |c::l=>by rw [Kt,aW,F7 l];show 3+_=(_+1)*3;omega
theorem uN:∀l:List Pc,bJ (i5 l)=ab
 | []=>rfl
 |c::l=>by rw [Kt,DH,uN l,Bool.and_true];rfl
theorem ace{l:List Pc}{i k:Nat}{c:Pc}(h:l[i]?=aa c)(hk:k=i*3):dz ab 3 (i5 l) k=aa (.agg (rR c)):=by
 subst hk;have hi:=(dA.1 h).1;have e:l=l.take i++c::l.drop (i+1):=by rw [<-(dA.1 h).2];simp
 have hl:(i5 (l.take i)).length=i*3:=by rw [F7,eZ,jt (by omega)]
 have e2:i5 l=i5 (l.take i)++(rR c++i5 (l.drop (i+1))):=by
  conv=>lhs;rw [e]
  rw [Qq,Kt]
 rw [e2];simp only [dz,if_true];rw [List.drop_left' hl,vz az,if_pos (by rw [aW,aW,hl];show _+3<=_+(3+_);omega)]
theorem acf(l:List Pc)(c:Pc){X:List SV}(hX:X=rR c):i5 (l++ [c])=aB (l.length*3) (aG 0 (i5 l))++aB (1*3) (aG 0 X):=by subst hX;rw [cq,cq,bW (by rw [F7];exact bH _),Qq];rfl
structure St where
 s:UInt16
 b:Nat
 x:Bool
 y:Bool
 z:Bool
 g:UInt8
 ep:UInt64
 now:UInt64
 ro:List UInt8
 fr:List Pc
 op:List pg
 oc:Nat
 sl:List pg
 sc:Nat
 nn:UInt8
 A:Pt
 B:Pt
 C:Pt
 V:List AE
 fs:List FE
def kp(a b:Nat)(x:SB):Option SB:=match dD a b with|true=>aa x|false=>ah
def og(n4 n5 r u F G I O U Z h6 h7 h8 h9:Nat)(mr me:List SV)(S:St)(t:HL):HL:=
 al (kg 1 2 3 n4 n5 6 7 S.g S.ep S.now S.ro.length S.fr.length)::
 ao 88 mr::
 ao 96 me::
 ao 4 (eW S.x S.y S.z)::
 kp n4 4 (.row 94 (aN S.ro))::
 kp n5 5 (.row 106 (i5 S.fr))::
 aa (.ext (.lit (jJ S.op S.oc)))::
 aa (.ext (.lit (jJ S.sl S.sc)))::
 al [.u8 S.nn]::
 al [.fn 28 [.p 8 0]]::
 al (S.A.m.c r 9 u S.A.dv)::
 kp r 11 (.row 164 (aI S.A.m.l))::
 kp u 12 (.row 94 (aN S.A.m.ds))::
 al [.fn 28 [.p 8 0]]::
 al (S.B.m.c F 13 G S.B.dv)::
 kp F 15 (.row 164 (aI S.B.m.l))::
 kp G 16 (.row 94 (aN S.B.m.ds))::
 al [.fn 28 [.p 8 0]]::
 al (S.C.m.c I 17 O S.C.dv)::
 kp I 19 (.row 164 (aI S.C.m.l))::
 kp O 20 (.row 94 (aN S.C.m.ds))::
 al (db 10 22 S.s S.b (fV S.A.z) (fv U S.A.z))::
 aa (.ext (.lit (dX S.A.R S.A.n)))::
 kp U 23 (.box (cT S.s S.b Z S.A.z))::
 kp Z 24 (.row 5 ((dG S.A.z).map .u8))::
 al (db 14 26 S.s S.b (fV S.B.z) (fv h6 S.B.z))::
 aa (.ext (.lit (dX S.B.R S.B.n)))::
 kp h6 27 (.box (cT S.s S.b h7 S.B.z))::
 kp h7 28 (.row 5 ((dG S.B.z).map .u8))::
 al (db 18 30 S.s S.b (fV S.C.z) (fv h8 S.C.z))::
 aa (.ext (.lit (dX S.C.R S.C.n)))::
 kp h8 31 (.box (cT S.s S.b h9 S.C.z))::
 kp h9 32 (.row 5 ((dG S.C.z).map .u8))::
 aa (.ext (.ar S.V S.fs))::t
def eG(u r:List SV)(S:St)(t:HL):HL:=og 4 5 11 12 15 16 19 20 23 24 27 28 31 32 u r S t
def sQ(u r:List SV)(S:St)(E:List FE):HL:=og 35 36 37 38 39 40 41 42 43 44 45 46 47 48 u r S (aa (.ext (.fam E)):: [ao 94 (aN S.ro),ao 106 (i5 S.fr),ao 164 (aI S.A.m.l),ao 94 (aN S.A.m.ds),ao 164 (aI S.B.m.l),ao 94 (aN S.B.m.ds),ao 164 (aI S.C.m.l),ao 94 (aN S.C.m.ds),al (cT S.s S.b 44 S.A.z),aC 5 (dG S.A.z),al (cT S.s S.b 46 S.B.z),aC 5 (dG S.B.z),al (cT S.s S.b 48 S.C.z),aC 5 (dG S.C.z)])
def cF:Nat->List SV
 |0=> [.p 10 0,.p 14 0,.p 18 0]
 |1=> [.p 14 0,.p 10 0,.p 18 0]
 |_=> [.p 18 0,.p 14 0,.p 10 0]
def cE:Nat->List SV
 |0=> [.p 21 0,.p 25 0,.p 29 0]
 |1=> [.p 25 0,.p 21 0,.p 29 0]
 |_=> [.p 29 0,.p 25 0,.p 21 0]
abbrev QE:List Nat:= [0,1,2,3,4,5,6,7,8,9,10,11,12,13,14,15,16,17,18,19,20,21,22,23,24,25,26,27,28,29,30,31,32,33,34,35]
theorem afc(j:Nat):bu QE (cF j)=aa (cF j):=by match j with|0=>rfl|1=>rfl|j+2=>rfl
theorem afb(j:Nat):bu QE (cE j)=aa (cE j):=by match j with|0=>rfl|1=>rfl|j+2=>rfl
def St.pt(S:St):Nat->Pt
 |0=>S.A
 |1=>S.B
 |_=>S.C
def St.up(S:St)(j:Nat)(P:Pt):St:=match j with
 |0=>{S with A:=P}
 |1=>{S with B:=P}
 |_=>{S with C:=P}
def St.sw(S:St)(j:Nat):St:=match j with
 |0=>S
 |1=>{S with A:=S.B,B:=S.A}
 |_=>{S with A:=S.C,C:=S.A}
theorem Lw{S:St}{j i:Nat}(P:Pt)(hj:j<3)(hi:i<3):(S.up j P).pt i=if i=j then P else S.pt i:=by
 match j,hj with
 |0,_=>match i,hi with|0,_=>rfl|1,_=>rfl|2,_=>rfl
 |1,_=>match i,hi with|0,_=>rfl|1,_=>rfl|2,_=>rfl
 |2,_=>match i,hi with|0,_=>rfl|1,_=>rfl|2,_=>rfl
abbrev dN(j:Nat):UInt8:=cX j
theorem po{j:Nat}(hj:j<3):(dN j).toNat=j:=by match j,hj with|0,_=>rfl|1,_=>rfl|2,_=>rfl
structure j6(ep e:UInt64)(d:UInt8):Prop where
 e1:1<=e.toNat
 e2:e.toNat<=ep.toNat
 d:d.toNat<3
structure Of(K:UInt64->List UInt8)(ep:UInt64)(x:Hd):Prop where
 ok:j6 ep x.ep x.d
 kid:x.kid=aP x.ep 0 x.d
 key:x.key=K x.kid
 k0:0<x.key.length
 k1:x.key.length<=1024
def oK(S:St)(j:Nat)(h c:UInt64):Prop:=jx (j:Int) h c∈S.op.map iW
def nT(R:List ij)(kid:UInt64):Option ij:=R.find? λy=>kid==y.1
def Ja(s:UInt16)(b:Nat)(K:UInt64->List UInt8)(W:List (Nat×UInt64))(V:List AE)(fs:List FE)(j:Nat)(R:List ij)(O:UInt64->UInt64->Prop)(kid:UInt64):Prop:=
 (nT R kid=ah/\∀g c,g.toNat<2^b->¬O (aV kid b g) c)\/
 ∃(q:Rp) (rk:Rk) (k t:Nat),nT R kid=aa (kid,(q.r,q.o),t)/\q.pa.2.2=rk.a.d/\q.pb.2.2=rk.b.d/\V[k]?=aa (q.ae rk)/\aX q.pa∈fs/\aX q.pb∈fs/\W[k]?=aa (j,kid)/\uy s b kid (K kid) rk (λg c=>g.toNat<2^b/\O (aV kid b g) c)
def Bf(p g c:UInt64)(y:il):Prop:=p.toNat<y.p.toNat\/(p=y.p/\(g.toNat<y.g.toNat\/(g=y.g/\c.toNat<y.c.toNat)))
structure th(S:St)(K:UInt64->List UInt8)(j:Nat)(y:il):Prop where
 p:∃e,j6 S.ep e (dN j)/\y.p=aP e 0 (dN j)
 d:y.d=dp S.s (K y.p) y.g.toNat
 g:y.g.toNat<2^S.b
 c:y.c.toNat<=S.fr.length
 k0:0<(K y.p).length
 k1:(K y.p).length<=1024
def Od(S:St)(K:UInt64->List UInt8)(E:List FE)(c:Pc):Prop:=∃e d g ct,j6 S.ep e d/\c.fr=d.toNat/\g.toNat<2^S.b/\c.b.2.2=rA S.s S.b (K (aP e 0 d)) (aP e 0 d) g ct c.t.2.2/\c.t.2.2.length<=400/\aX c.b∈S.fs/\aX c.t∈E
def Oh(S:St)(k:Value):Prop:=∃e d g ct y,j6 S.ep e d/\g.toNat<2^S.b/\k=pI (aV (aP e 0 d) S.b g) ct/\(S.pt d.toNat).z=aa y/\Bf (aP e 0 d) g ct y
def X2(S:St)(k:Value):Prop:=∃i e d g c,i<3/\j6 S.ep e d/\g.toNat<2^S.b/\k=jx (i:Nat) (aV (aP e 0 d) S.b g) c
structure I9(S:St)(K:UInt64->List UInt8)(W:List (Nat×UInt64))(j:Nat)(P:Pt):Prop where
 dv:P.dv=dN j
 sm:P.m.sm=ab\/S.ep=0
 g:P.m.sm=ab->P.m.g=5
 ep:P.m.ep=S.ep
 ds:P.m.ds=S.ro
 srt:nr P.m.l
 len:P.m.l.length<=10*S.ep.toNat
 hd:∀x,x∈P.m.l->Of K S.ep x
 out:ji S.x S.y S.z j=af->P.m.l= []
 own:ji S.x S.y S.z j=ab->∀i,i<3->ji S.x S.y S.z i=ab->∃x,x∈P.m.l/\x.kid=aP S.ep 0 (dN i)/\x.en=af
 snd:∀y,P.z=aa y->th S K j y
 rk:∀y,y∈P.R->∃e d,j6 S.ep e d/\y.1=aP e 0 d
 rcs:∀x,x∈P.m.l->Ja S.s S.b K W S.V S.fs j P.R (oK S j) x.kid
structure cV(S:St)(K:UInt64->List UInt8)(W:List (Nat×UInt64))(E:List FE)(N:Nat):Prop where
 s1:1<=S.s.toNat
 s2:S.s.toNat<=5
 sb:S.b<=16
 eN:S.ep.toNat<=N+1
 fN:S.fr.length<=N
 hN:N<=200
 ro:S.ro=nu S.x S.y S.z
 pt:∀j,j<3->I9 S K W j (S.pt j)
 fr:∀c,c∈S.fr->Od S K E c
 op:∀k,k∈S.op.map iW->X2 S k
 sl:∀k,k∈S.sl.map iW->Oh S k
 wl:W.length=S.V.length
theorem cV.mono{S:St}{K:UInt64->List UInt8}{W:List (Nat×UInt64)}{E:List FE}{N:Nat}(h:cV S K W E N){M:Nat}(hM:N<=M)(r:M<=200):cV S K W E M:=
 ⟨h.s1,h.s2,h.sb,by have:=h.eN;omega,by have:=h.fN;omega,r,h.ro,h.pt,h.fr,h.op,h.sl,h.wl⟩
section
variable {S:St} {K:UInt64->List UInt8} {W:List (Nat×UInt64)} {E:List FE} {N:Nat}
theorem cV.el(h:cV S K W E N){e:UInt64}{d:UInt8}(k:j6 S.ep e d):e.toNat<2^41/\(aP e 0 d).toNat=e.toNat*32+d.toNat/\(aP e 0 d).toNat<2^47:=by have h1:=h.eN;have h2:=h.hN;have h3:=k.e2;have h4:=k.d;have h5:=Du (e:=e) (d:=d) ag k.d;omega
theorem GS{l:List Hd}(h:nr l){x:Hd}(hx:x∈l):l[ny l x.kid]?=aa x:=by
 induction l with
 |nil=>cases hx
 |cons a l ih=>
  obtain⟨h1,h2⟩:=List.pairwise_cons.1 h;unfold ny;rcases gy.1 hx with rfl|hx
  .rw [List.takeWhile_cons_of_neg (by simp [UInt64.lt_irrefl])];rfl
  .rw [List.takeWhile_cons_of_pos (by simpa using h1 x hx),jM,pP];exact ih h2 hx
theorem adj{l:List Hd}(h:nr l){x y:Hd}(hx:x∈l)(hy:y∈l)(e:x.kid=y.kid):x=y:=by have h1:=GS h hx;rw [e,GS h hy]at h1;exact(Option.some.inj h1).symm
theorem cV.kj(h:cV S K W E N){j:Nat}(hj:j<3){x:Hd}(hx:x∈(S.pt j).m.l):j6 S.ep S.ep (dN j):=⟨by have:=((h.pt j hj).hd x hx).ok;exact jP this.e1 this.e2,bH _,by rw [po hj];exact hj⟩
theorem Se(h:cV S K W E N){j:Nat}(hj:j<3)(hb:ji S.x S.y S.z j=ab):∃x,x∈(S.pt j).m.l/\x.kid=aP S.ep 0 (dN j)/\x.en=af/\(S.pt j).m.l[ny (S.pt j).m.l (aP S.ep 0 (dN j))]?=aa x/\j6 S.ep S.ep (dN j)/\Of K S.ep x:=by obtain⟨x,h1,h2,h3⟩:=(h.pt j hj).own hb j hj hb;exact⟨x,h1,h2,h3,by rw [<-h2];exact GS (h.pt j hj).srt h1,h.kj hj h1,(h.pt j hj).hd x h1⟩
theorem Cl(h:cV S K W E N){j:Nat}(hj:j<3){x:Hd}(hx:x∈(S.pt j).m.l)(hk:x.kid=aP S.ep 0 (dN j)):th S K j (br (S.pt j).z x):=by
 have h1:=(h.pt j hj).hd x hx;have new:th S K j ⟨x.kid,0,0,x.key,af⟩:=⟨⟨S.ep,h.kj hj hx,hk⟩,h1.key,(Ay h.sb).1,kD _,by dsimp only;rw [<-h1.key];exact h1.k0,by dsimp only;rw [<-h1.key];exact h1.k1⟩;cases hz:(S.pt j).z with
 |none=>exact new
 |some y=>
  unfold br;dsimp only;split
  .exact new
  .exact(h.pt j hj).snd y hz
theorem ai6(h:cV S K W E N){j:Nat}(hy:th S K j y):0<y.d.length/\y.d.length<=1024:=by rw [hy.d];exact vG hy.k0 hy.k1 _
theorem Jm(h:cV S K W E N){j:Nat}(hj:j<3){x:Hd}(hk:x.kid=aP S.ep 0 (dN j)){p g c:UInt64}(hz:(S.pt j).z=aa y)(hb:Bf p g c y):Bf p g c (br (S.pt j).z x):=by
 rw [hz];unfold br;dsimp only;split
 .rename_i hne;obtain⟨e,k,hp⟩:=((h.pt j hj).snd y hz).p;have h1:=(h.el k).2.1;have h2:=(h.el (⟨jP k.e1 k.e2,bH _,k.d⟩:j6 S.ep S.ep (dN j))).2.1;have h3:y.p.toNat<x.kid.toNat:=by
   rw [hp,hk,h1,h2];rw [hp,hk]at hne;have:=k.e2;rcases js e.toNat S.ep.toNat with h|h
   .omega
   .have:e=S.ep:=dJ.1 ag;rw [this]at hne;simp at hne
  rcases hb with hb|⟨hb,_⟩
  .exact .inl (by dsimp only;omega)
  .exact .inl (by rw [hb];exact h3)
 .exact hb
theorem Ym{b:Nat}(r:b<=16){p g c:UInt64}(hy:y.g.toNat<2^b)(hb:Bf p g c y):Bf p g c (mT s b y):=by
 unfold mT;split
 .exact hb
 .rename_i h;have hl:=KP r;have hp:=Ay r;have hne:y.g.toNat≠2^b-1:=λe=>h (by rw [beq_iff_eq];exact dJ.1 (by rw [hl];exact e))
  have hg:(g1 y.g).toNat=y.g.toNat+1:=by
   unfold g1;rw [lY];show(_+1)%2^64=_
   omega
  rcases hb with hb|⟨h1,hb⟩
  .exact .inl hb
  .refine .inr ⟨h1,.inl ?_⟩;dsimp only;rw [hg];rcases hb with hb|⟨hb,_⟩
   .omega
   .rw [hb];omega
theorem ai7(h:cV S K W E N){j:Nat}(hy:th S K j y):th S K j (mT S.s S.b y):=by
 unfold mT;split
 .exact hy
 .rename_i hne;have hl:=KP h.sb;have hp:=Ay h.sb;have hn:y.g.toNat≠2^S.b-1:=λe=>hne (by rw [beq_iff_eq];exact dJ.1 (by rw [hl];exact e))
  have hlt:=hy.g;have hg:(g1 y.g).toNat=y.g.toNat+1:=by
   unfold g1;rw [lY];show(_+1)%2^64=_
   omega
  refine⟨hy.p,?_,?_,kD _,hy.k0,hy.k1⟩
  .dsimp only;rw [hg,hy.d];rfl
  .dsimp only;rw [hg];omega
theorem QJ(h:cV S K W E N){j:Nat}(hj:j<3)(fr:List Pc)(sl:List pg)(sc:Nat)(fs:List FE)(hf:S.fr<+:fr)(U:fr.length<=N)(hfs:∀x,x∈S.fs->x∈fs)(hy:th {S with fr:=fr} K j y)(Z:∀c,c∈fr->c∈S.fr\/Od {S with fr:=fr,fs:=fs} K E c)(hz:∀y0,(S.pt j).z=aa y0->∀p g c,Bf p g c y0->Bf p g c y)(F:∀k,k∈sl.map iW->k∈S.sl.map iW\/Oh ({S with fr:=fr,sl:=sl,sc:=sc,fs:=fs}.up j {S.pt j with z:=aa y}) k):cV ({S with fr:=fr,sl:=sl,sc:=sc,fs:=fs}.up j {S.pt j with z:=aa y}) K W E N:=by
 obtain⟨T,hT⟩:=ax ({S with fr:=fr,sl:=sl,sc:=sc,fs:=fs}.up j {S.pt j with z:=aa y});have u:∀i,i<3->T.pt i=if i=j then{S.pt j with z:=aa y}else S.pt i:=λi hi=>by
  rw [hT,Lw _ hj hi];split
  .rfl
  .match i with|0=>rfl|1=>rfl|i+2=>rfl
 have e:T.s=S.s/\T.b=S.b/\T.x=S.x/\T.y=S.y/\T.z=S.z/\T.ep=S.ep/\T.ro=S.ro/\T.fr=fr/\T.op=S.op/\T.sl=sl/\T.V=S.V/\T.fs=fs:=by
  rw [hT]
  match j with
  |0=>exact⟨rfl,rfl,rfl,rfl,rfl,rfl,rfl,rfl,rfl,rfl,rfl,rfl⟩
  |1=>exact⟨rfl,rfl,rfl,rfl,rfl,rfl,rfl,rfl,rfl,rfl,rfl,rfl⟩
  |j+2=>exact⟨rfl,rfl,rfl,rfl,rfl,rfl,rfl,rfl,rfl,rfl,rfl,rfl⟩
 rw [<-hT]at F|-;obtain⟨es,eb,ex,I,O,ee,er,ef,eo,el,ev,efs⟩:=e;have cx:S.fr.length<=fr.length:=hf.length_le;have G:∀{i:Nat} {y:il},th {S with fr:=fr} K i y->th T K i y:=fun{i y} q=>⟨by rw [ee];exact q.p,by rw [es];exact q.d,by rw [eb];exact q.g,by rw [ef];exact q.c,q.k0,q.k1⟩
 refine⟨by rw [es];exact h.s1,by rw [es];exact h.s2,by rw [eb];exact h.sb,by rw [ee];exact h.eN,by rw [ef];exact U,h.hN,by rw [er,ex,I,O];exact h.ro,λi hi=>?_,λc hc=>?_,λk hk=>?_,λk hk=>?_,by rw [ev];exact h.wl⟩
 .have q:=h.pt i hi;have r:∀P:Pt,P.dv=(S.pt i).dv->P.m=(S.pt i).m->P.R=(S.pt i).R->(∀y,P.z=aa y->th T K i y)->I9 T K W i P:=λP p1 p2 p3 p4=>
   ⟨by rw [p1];exact q.dv,by rw [p2,ee];exact q.sm,by rw [p2];exact q.g,by rw [p2,ee];exact q.ep,by rw [p2,er];exact q.ds,by rw [p2];exact q.srt,by rw [p2,ee];exact q.len,by rw [p2,ee];exact q.hd,by rw [p2,ex,I,O];exact q.out,by rw [p2,ex,I,O,ee];exact q.own,p4,by rw [p3,ee];exact q.rk,λx hx=>by
    rw [p2]at hx;rw [p3,es,eb,ev,efs,show oK T i=oK S i by unfold oK;rw [eo]];exact(q.rcs x hx).imp id λ⟨a,b,c,d,g1,g2,g3,g4,g5,g6,g7,g8⟩=>⟨a,b,c,d,g1,g2,g3,g4,hfs _ g5,hfs _ g6,g7,g8⟩⟩
  rw [u i hi];split
  .rename_i e;subst e;exact r _ rfl rfl rfl λz hz=>by cases hz;exact G hy
  .exact r _ rfl rfl rfl λz hz=>by have:=q.snd z hz;exact G ⟨this.p,this.d,this.g,jP this.c cx,this.k0,this.k1⟩
 .rw [ef]at hc;rcases Z c hc with hc|⟨e,d,g,ct,g1,g2,g3,g4,g5,g6,g7⟩
  .obtain⟨e,d,g,ct,g1,g2,g3,g4,g5,g6,g7⟩:=h.fr c hc;exact WY
  .exact⟨e,d,g,ct,by rw [ee];exact g1,g2,A8,by rw [es,eb];exact g4,g5,by rw [efs];exact g6,g7⟩
 .rw [eo]at hk;obtain⟨i,e,d,g,c,g1,g2,g3,g4⟩:=h.op k hk;exact⟨i,e,d,g,c,g1,by rw [ee];exact g2,A8,by rw [eb];exact g4⟩
 .rw [el]at hk;rcases F k hk with hk|hk
  .obtain⟨e,d,g,ct,z,g1,g2,g3,g4,g5⟩:=h.sl k hk;by_cases hd:d.toNat=j
   .rw [hd]at g4;exact⟨e,d,g,ct,y,by rw [ee];exact g1,by rw [eb];exact g2,A8,by rw [u _ g1.d,if_pos hd],hz z g4 _ _ _ g5⟩
   .exact⟨e,d,g,ct,z,by rw [ee];exact g1,by rw [eb];exact g2,A8,by rw [u _ g1.d,if_neg hd];exact g4,g5⟩
  .exact hk
theorem ac3(h:cV S K W E N){j:Nat}(hj:j<3){x:Hd}(hx:x∈(S.pt j).m.l)(hk:x.kid=aP S.ep 0 (dN j)):cV (S.up j {S.pt j with z:=aa (mT S.s S.b (br (S.pt j).z x))}) K W E N:=by have q:=QJ h hj (y:=mT S.s S.b (br (S.pt j).z x)) S.fr S.sl S.sc S.fs (List.prefix_refl _) h.fN (λ_ h=>h) (ai7 h (Cl h hj hx hk)) (λc hc=> .inl hc) (λr hz p g c hb=>Ym h.sb (Cl h hj hx hk).g (Jm h hj hk hz hb)) (λk hk=> .inl hk);exact q
end
section
variable {S:St} {K:UInt64->List UInt8} {W:List (Nat×UInt64)} {E:List FE} {N:Nat}
theorem aiE(h:cV S K W E N){j:Nat}(hj:j<3){x:Hd}(hx:x∈(S.pt j).m.l)(hk:x.kid=aP S.ep 0 (dN j)):¬pI (aV x.kid S.b (br (S.pt j).z x).g) (br (S.pt j).z x).c∈S.sl.map iW:=by
 intro hm;obtain⟨e,d,g,ct,y,g1,g2,g3,g4,g5⟩:=h.sl _ hm;obtain⟨q1,q2⟩:=akf g3;have r:=(h.el g1);have kj:j6 S.ep S.ep (dN j):=h.kj hj hx;have u:=h.el kj;rw [hk]at q1;obtain⟨F,r2⟩:=BN h.sb u.2.2 (Cl h hj hx hk).g r.2.2 g2 q1;obtain⟨G,t2⟩:=Ao u.1 kj.d r.1 g1.d F;rw [<-t2,po hj]at g4;have hb:=Jm h hj hk g4 g5;rcases hb with hb|⟨_,hb|⟨_,hb⟩⟩
 .rw [L4,<-F,hk]at hb;omega
 .rw [<-r2]at hb;omega
 .rw [<-q2]at hb;omega
theorem Tg(h:cV S K W E N){j:Nat}(hj:j<3){x:Hd}(hx:x∈(S.pt j).m.l)(hk:x.kid=aP S.ep 0 (dN j)):((br (S.pt j).z x).c+aF (aU 1)).toNat=(br (S.pt j).z x).c.toNat+1/\((br (S.pt j).z x).c+aF (aU 1)==aF (aU 0))=af:=by
 have h1:=(Cl h hj hx hk).c;have h2:=h.fN;have h3:=h.hN;have e:((br (S.pt j).z x).c+aF (aU 1)).toNat=(br (S.pt j).z x).c.toNat+1:=by
  rw [lY];show(_+1)%2^64=_
  omega
 refine⟨e,?_⟩;rw [beq_eq_false_iff_ne];intro hz;have:=congrArg Be hz;rw [e]at this;have r:(aF (aU 0)).toNat=0:=aw;omega
def St.sealed(S:St)(j:Nat)(x:Hd)(pF r:cC):St:=
 ({S with fr:=S.fr++ [(⟨j,pF,r⟩:Pc)],sl:=S.sl++ [(pI (aV x.kid S.b (br (S.pt j).z x).g) (br (S.pt j).z x).c,S.sc)],sc:=S.sc+1,fs:=aX pF::S.fs}:St).up j {S.pt j with z:=aa {br (S.pt j).z x with c:=(br (S.pt j).z x).c+aF (aU 1)}}
theorem ac2(h:cV S K W E N)(F:N+1<=200){j:Nat}(hj:j<3){x:Hd}(hx:x∈(S.pt j).m.l)(hk:x.kid=aP S.ep 0 (dN j)){pF r:cC}(hT:aX r∈E)(hP:r.2.2.length<=400)(u:pF.2.2=bF (aV x.kid S.b (br (S.pt j).z x).g) (br (S.pt j).z x).c++mA S.s (dR S.s (aV x.kid S.b (br (S.pt j).z x).g) (br (S.pt j).z x).d) (bf (dP S.s (aV x.kid S.b (br (S.pt j).z x).g) (br (S.pt j).z x).d) (br (S.pt j).z x).c) (bF (aV x.kid S.b (br (S.pt j).z x).g) (br (S.pt j).z x).c) r.2.2):cV (S.sealed j x pF r) K W E (N+1):=by
 have hs:=Cl h hj hx hk;have hc:=(Tg h hj hx hk).1;have kj:j6 S.ep S.ep (dN j):=h.kj hj hx;have hp:=L4 (S.pt j).z x;obtain⟨y,hy⟩:=ax (br (S.pt j).z x);unfold St.sealed;rw [<-hy]at hs hc hp u|-;refine QJ (h.mono (Nat.le_succ N) F) hj (y:={y with c:=y.c+aF (aU 1)}) _ _ _ _ ⟨_,rfl⟩ ?_ (λa G=>jN _ G) ⟨hs.p,hs.d,hs.g,?_,hs.k0,hs.k1⟩ (λc hc=>?_) (λI hz p g c hb=>?_) (λk hk2=>?_)
 .rw [aW];have:=h.fN;simp only [jM,oZ];omega
 .dsimp only;rw [hc,aW];have:=hs.c;simp only [jM,oZ];omega
 .rcases mu.1 hc with hc|hc
  .exact .inl hc
  .simp only [lx]at hc;subst hc;refine .inr ⟨S.ep,dN j,y.g,y.c,kj,(po hj).symm,hs.g,?_,hP,kX ..,hT⟩;dsimp only;rw [u,<-hk];unfold rA;rw [hs.d,hp]
 .have:=Jm h hj hk hz hb;rw [<-hy]at this;rcases this with this|⟨h1,this⟩
  .exact .inl this
  .refine .inr ⟨h1,this.imp id λ⟨h2,h3⟩=>⟨h2,?_⟩⟩;dsimp only;omega
 .rw [dU]at hk2;rcases mu.1 hk2 with hk2|hk2
  .exact .inl hk2
  .simp only [iT,qR,lx]at hk2;refine .inr ⟨S.ep,dN j,y.g,y.c,{y with c:=y.c+aF (aU 1)},?_,?_,?_,?_,?_⟩
   .match j with|0=>exact kj|1=>exact kj|j+2=>exact kj
   .match j with|0=>exact hs.g|1=>exact hs.g|j+2=>exact hs.g
   .rw [hk2,hk]
    match j with|0=>rfl|1=>rfl|j+2=>rfl
   .rw [po hj,Lw _ hj hj,if_pos rfl]
   .refine .inr ⟨by rw [<-hk];exact hp.symm,.inr ⟨rfl,?_⟩⟩;dsimp only;omega
def Pt.tick(now:UInt64)(P:Pt):Pt:={P with m:={P.m with l:=de now P.m.l}}
def St.tick(S:St)(now:UInt64):St:={S with now:=now,A:=S.A.tick now,B:=S.B.tick now,C:=S.C.tick now}
theorem ac4(h:cV S K W E N)(now:UInt64):cV (S.tick now) K W E N:=by
 have r:∀j,(S.tick now).pt j=(S.pt j).tick now:=λj=>by match j with|0=>rfl|1=>rfl|j+2=>rfl
 refine⟨h.s1,h.s2,h.sb,h.eN,h.fN,h.hN,h.ro,λj hj=>?_,h.fr,h.op,λk hk=>?_,h.wl⟩
 .rw [r];have q:=h.pt j hj;have u:∀{x},x∈de now (S.pt j).m.l->x∈(S.pt j).m.l:=fun{x} hx=>(List.mem_filter.1 hx).1
  refine⟨q.dv,q.sm,q.g,q.ep,q.ds,q.srt.filter _,jP (Dv _ _) q.len,λx hx=>q.hd x (u hx),λho=>?_,λho i hi hb=>?_,λy hy=>?_,q.rk,λx hx=>q.rcs x (u hx)⟩
  .show de now (S.pt j).m.l= []
   rw [q.out ho];rfl
  .obtain⟨x,h1,h2,h3⟩:=q.own ho i hi hb;exact⟨x,List.mem_filter.2 ⟨h1,by unfold pr;rw [h3];rfl⟩,h2,h3⟩
  .have:=q.snd y hy;exact⟨this.p,this.d,this.g,this.c,this.k0,this.k1⟩
 .obtain⟨e,d,g,ct,y,g1,g2,g3,g4,g5⟩:=h.sl k hk;exact⟨e,d,g,ct,y,g1,g2,g3,by rw [r];exact g4,g5⟩
end
theorem uy.congr{b:Nat}{p:UInt64}{d:List UInt8}{x:Rk}{O Q:UInt64->UInt64->Prop}(h:uy s b p d x O)(e:∀g c,O g c↔Q g c):uy s b p d x Q:=by
 have:O=Q:=funext λg=>funext λc=>propext (e g c)
 rw [<-this];exact h
theorem Qn{k r:UInt64}(hne:r≠k):∀R:List ij,nT (sL R k) r=nT R r
 | []=>rfl
 |y::R=>by
  have ih:=Qn hne R;unfold nT sL at ih|-;rw [List.eraseP_cons];cases h:k==y.1 with
  |true=>
   have h1:(r==y.1)=af:=by rw [<-eq_of_beq h];simpa using hne
   rw [cond_true,List.find?_cons,h1]
  |false=>
   rw [cond_false,List.find?_cons,List.find?_cons,ih]
theorem Qm{k r:UInt64}(y:(Nat×Nat)×Nat)(h:nT R k=ah):nT (R++ [(k,y)]) r=if r=k then aa (k,y)else nT R r:=by
 unfold nT at h|-;rw [List.find?_append];by_cases e:r=k
 .subst e;rw [if_pos rfl,h];simp
 .rw [if_neg e];have:(r==k)=af:=lS;simp [this]
theorem ab3{k:UInt64}{y:ij}(h:nT R k=aa y):∃i,R[i]?=aa y/\∀(n:Nat) z,n<i->R[n]?=aa z->(k==z.1)=af:=by obtain⟨h1,i,hi,h2,h3⟩:=List.find?_eq_some_iff_getElem.1 h;refine⟨i,by rw [dy hi,h2],λn z hn hz=>?_⟩;have:=h3 n hn;obtain⟨hl,e⟩:=dA.1 hz;rw [e]at this;exact pK
section
variable {S:St} {K:UInt64->List UInt8} {W:List (Nat×UInt64)} {E:List FE} {N:Nat}
theorem adp(h:cV S K W E N){j:Nat}(hj:j<3){x:Hd}(hx:x∈(S.pt j).m.l){e:UInt64}{d:UInt8}(F:j6 S.ep e d)(hk:x.kid=aP e 0 d)(sm:Bool)(ep:UInt64):pz (S.pt j).m.l d e sm ep=0/\vR (S.pt j).m.l d e=x.key:=by
 have r:=(h.pt j hj).hd x hx;have u:=Ao (h.el r.ok).1 r.ok.d (h.el F).1 F.d (r.kid.symm.trans hk);have hb:tF d e x=ab:=by unfold tF;rw [u.1,u.2];simp
 have hlt:rH (S.pt j).m.l d e<(S.pt j).m.l.length:=List.findIdx_lt_length_of_exists ⟨x,hx,hb⟩;have hg:=dy hlt;have hy:=KN hg;have hm:(S.pt j).m.l[rH (S.pt j).m.l d e]∈(S.pt j).m.l:=List.getElem_mem hlt;unfold tF at hy;rw [fI,beq_iff_eq,beq_iff_eq]at hy;have G:=(h.pt j hj).hd _ hm;have:(S.pt j).m.l[rH (S.pt j).m.l d e]=x:=adj (h.pt j hj).srt hm hx (by rw [G.kid,hy.1,hy.2,hk]);unfold pz vR;rw [hg,this];exact⟨rfl,rfl⟩
theorem adq(h:cV S K W E N){j:Nat}(hj:j<3){e:UInt64}{d:UInt8}(hn:∀x,x∈(S.pt j).m.l->x.kid≠aP e 0 d)(sm:Bool)(ep:UInt64):pz (S.pt j).m.l d e sm ep=241\/pz (S.pt j).m.l d e sm ep=240:=by
 unfold pz;split
 .rename_i x hx;have hy:=KN hx;unfold tF at hy;rw [fI,beq_iff_eq,beq_iff_eq]at hy;have hm:=jO hx;exact absurd (by rw [((h.pt j hj).hd x hm).kid,hy.1,hy.2]) (hn x hm)
 .split
  .exact .inl rfl
  .exact .inr rfl
def St.opn(S:St)(j:Nat)(R:List ij)(n:Nat)(V:List AE)(fs:List FE)(op:List pg)(oc:Nat):St:={S with V:=V,fs:=fs,op:=op,oc:=oc}.up j {S.pt j with R:=R,n:=n}
theorem KD(h:cV S K W E N){j:Nat}(hj:j<3){kid h0 ct:UInt64}(R:List ij)(n:Nat)(V:List AE)(fs:List FE)(op:List pg)(oc:Nat)(G:List (Nat×UInt64))(ok:Bool){e g:UInt64}{d:UInt8}(ko:j6 S.ep e d)(hk:kid=aP e 0 d)(hg:g.toNat<2^S.b)(hh:h0=aV kid S.b g)(hR:∀y,y∈R->y∈(S.pt j).R\/y.1=kid)(hfs:∀x,x∈S.fs->x∈fs)(hV:∀(k:Nat) a w,W[k]?=aa w->w≠(j,kid)->S.V[k]?=aa a->V[k]?=aa a)(hW:∀(k:Nat) w,W[k]?=aa w->G[k]?=aa w)(wl:G.length=V.length)(hf:∀k2,k2≠kid->nT R k2=nT (S.pt j).R k2)(h9:op.map iW=S.op.map iW++(if ok=ab then [jx (j:Int) h0 ct]else []))(h7:∀x,x∈(S.pt j).m.l->x.kid=kid->Ja S.s S.b K G V fs j R (λh c=>oK S j h c\/(ok=ab/\h=h0/\c=ct)) kid):cV (S.opn j R n V fs op oc) K G E N:=by
 have F:∀i,i<3->(S.opn j R n V fs op oc).pt i=if i=j then{S.pt j with R:=R,n:=n}else S.pt i:=λi hi=>by
  unfold St.opn;rw [Lw _ hj hi];split
  .rfl
  .match i with|0=>rfl|1=>rfl|i+2=>rfl
 have eq:∃T,T=S.opn j R n V fs op oc/\T.s=S.s/\T.b=S.b/\T.x=S.x/\T.y=S.y/\T.z=S.z/\T.ep=S.ep/\T.ro=S.ro/\T.fr=S.fr/\T.op=op/\T.sl=S.sl/\T.V=V/\T.fs=fs:=by
  refine⟨_,rfl,?_⟩;unfold St.opn
  match j with
  |0=>exact⟨rfl,rfl,rfl,rfl,rfl,rfl,rfl,rfl,rfl,rfl,rfl,rfl⟩
  |1=>exact⟨rfl,rfl,rfl,rfl,rfl,rfl,rfl,rfl,rfl,rfl,rfl,rfl⟩
  |j+2=>exact⟨rfl,rfl,rfl,rfl,rfl,rfl,rfl,rfl,rfl,rfl,rfl,rfl⟩
 obtain⟨T,hT,es,eb,ex,I,O,ee,er,ef,eo,el,ev,efs⟩:=eq;rw [<-hT]at F|-;have kl:=h.el ko;have hmem:∀v,v∈op.map iW↔v∈S.op.map iW\/(ok=ab/\v=jx (j:Int) h0 ct):=λv=>by rw [h9,mu];cases ok<;>simp
 have Z:∀(i:Nat) (h1 c:UInt64),oK T i h1 c↔oK S i h1 c\/(ok=ab/\i=j/\h1=h0/\c=ct):=λi h1 c=>by unfold oK;rw [eo,hmem];refine or_congr qO (and_congr qO ⟨λe=>VK e,λ⟨e1,e2,e3⟩=>by rw [e1,e2,e3]⟩)
 refine⟨by rw [es];exact h.s1,by rw [es];exact h.s2,by rw [eb];exact h.sb,by rw [ee];exact h.eN,by rw [ef];exact h.fN,h.hN,by rw [er,ex,I,O];exact h.ro,λi hi=>?_,λc hc=>?_,λk hk=>?_,λk hk=>?_,by rw [ev];exact wl⟩
 .have q:=h.pt i hi;have rc:∀x,x∈(S.pt i).m.l->(i=j->x.kid≠kid)->∀R2,nT R2 x.kid=nT (S.pt i).R x.kid->Ja S.s S.b K G V fs i R2 (oK T i) x.kid:=λx hx hne R2 U=>by
   have r:=q.hd x hx;have rl:=h.el r.ok;have hno:∀g2 c,g2.toNat<2^S.b->(oK T i (aV x.kid S.b g2) c↔oK S i (aV x.kid S.b g2) c):=λg2 c hg2=>by rw [Z];refine⟨λh1=>h1.elim id λ⟨_,e1,e2,_⟩=>?_,.inl⟩;rw [hh]at e2;have h6:=BN h.sb (by rw [r.kid];exact rl.2.2) hg2 (by rw [hk];exact kl.2.2) hg e2;exact absurd h6.1 (hne e1)
   rcases q.rcs x hx with⟨a1,a2⟩|⟨qq,rk,k,t,g1,g2,g3,g4,g5,g6,g7,g8⟩
   .exact .inl ⟨by rw [U];exact a1,λg2 c hg2 ho=>a2 g2 c hg2 ((hno g2 c hg2).1 ho)⟩
   .refine .inr ⟨qq,rk,k,t,by rw [U];exact g1,g2,g3,hV k _ _ g7 (λe=>?_) g4,hfs _ g5,hfs _ g6,hW _ _ g7,g8.congr λg2 c=>and_congr_right λhg2=>(hno g2 c hg2).symm⟩;have e1:=congrArg iW e;have e2:=congrArg Prod.snd e;exact hne e1 e2
  rw [F i hi];split
  .rename_i e;subst e;refine⟨q.dv,by rw [ee];exact q.sm,q.g,by rw [ee];exact q.ep,by rw [er];exact q.ds,q.srt,by rw [ee];exact q.len,by rw [ee];exact q.hd,by rw [ex,I,O];exact q.out,by rw [ex,I,O,ee];exact q.own,λy hy=>?_,λy hy=>?_,λx hx=>?_⟩
   .have:=q.snd y hy;exact WE
   .rw [ee];rcases hR y hy with hy|hy
    .exact q.rk y hy
    .exact⟨e,d,ko,hy.trans hk⟩
   .rw [es,eb,ev,efs];by_cases u:x.kid=kid
    .rw [u];have:=h7 x hx u;rw [show oK T i=λh c=>oK S i h c\/(ok=ab/\h=h0/\c=ct)from funext λh1=>funext λc=>propext ((Z i h1 c).trans (or_congr qO (and_congr qO ⟨λe=>e.2,λe=>⟨rfl,e⟩⟩)))];exact this
    .exact rc x hx (λ_=>u) R (hf _ u)
  .rename_i hij;refine⟨q.dv,by rw [ee];exact q.sm,q.g,by rw [ee];exact q.ep,by rw [er];exact q.ds,q.srt,by rw [ee];exact q.len,by rw [ee];exact q.hd,by rw [ex,I,O];exact q.out,by rw [ex,I,O,ee];exact q.own,λy hy=>?_,by rw [ee];exact q.rk,λx hx=>?_⟩
   .have:=q.snd y hy;exact WE
   .rw [es,eb,ev,efs];exact rc x hx (λe=>absurd e hij) _ rfl
 .rw [ef]at hc;obtain⟨e,d,g,ct,g1,g2,g3,g4,g5,g6,g7⟩:=h.fr c hc;exact WY
 .rw [eo,hmem]at hk;rcases hk with hk|⟨_,hk⟩
  .obtain⟨i,e,d,g,c,g1,g2,g3,g4⟩:=h.op k hk;exact⟨i,e,d,g,c,g1,by rw [ee];exact g2,A8,by rw [eb];exact g4⟩
  .exact⟨j,e,d,g,ct,hj,by rw [ee];exact ko,by rw [eb];exact hg,by rw [eb,hk,hh];rename_i h8 _;rw [h8]⟩
 .rw [el]at hk;obtain⟨e,d,g,ct,y,g1,g2,g3,g4,g5⟩:=h.sl k hk;refine⟨e,d,g,ct,y,by rw [ee];exact g1,by rw [eb];exact g2,A8,?_,g5⟩;rw [F _ g1.d];split
  .rename_i e;rw [e]at g4;exact g4
  .exact g4
structure tf(S:St)(K:UInt64->List UInt8)(W:List (Nat×UInt64))(E:List FE)(N j:Nat)(kid g h0 ct:UInt64)(v:Bool)(e:Int)(R:List ij)(n:Nat)(V:List AE)(fs:List FE):Prop where
 ok:e=0->v=ab/\¬oK S j h0 ct/\∃W2,cV (S.opn j R n V fs (S.op++ [(jx (j:Int) h0 ct,S.oc)]) (S.oc+1)) K W2 E N
 no:e≠0->((e=160/\oK S j h0 ct)\/e=161\/e=241\/e=240\/e=5\/(e=140/\v=af))/\∃W2,cV (S.opn j R n V fs S.op S.oc) K W2 E N
 fresh:v=ab->g=0->nT (S.pt j).R kid=ah->(∃x,x∈(S.pt j).m.l/\x.kid=kid)->e=0
 gone:(∀x,x∈(S.pt j).m.l->x.kid≠kid)->e≠0
 fs:∀x,x∈S.fs->x∈fs
end
end Go.Sh
