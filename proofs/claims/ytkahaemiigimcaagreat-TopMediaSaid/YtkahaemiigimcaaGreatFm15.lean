/- Merged for a claim: W19, W20, W21, Sh47, Sh53, W33, W34. -/
import Derived.Test.YtkahaemiigimcaaGreatFm14
set_option linter.unusedSimpArgs false
set_option linter.unusedVariables false
set_option maxHeartbeats 4000000
open Option renaming some->aa,none->ah
open Bool renaming true->ab,false->af,false_eq_true->gE
open UInt64 renaming ofNat->aF,toNat_inj->dJ,lt_iff_toNat_lt->gh,toNat_add->lY,le_iff_toNat_le->oA,toNat_sub_of_le->wX
open Int renaming toNat->aU
open List renaming length_append->aW,take_of_length_le->bW,drop_zero->cq,range->cQ,getElem?_eq_some_iff->dA,getElem?_eq_none->dI,length_set->fJ,length_drop->fQ,getElem?_append_left->gP,append_assoc->iw,getElem?_append_right->iR,all_eq_true->jg,append_nil->jz,nil_append->jA,length_cons->jM,mem_of_getElem?->jO,cons_append->oz,getElem?_cons_succ->pP,take_left'->vz,take_append_of_le_length->wS,take_zero->wT
open Nat renaming le_refl->bH,le_of_ble_eq_true->cr,beq->dD,ble->eU,zero_add->ig
open Array renaming replicate->sW
namespace Go.Sh
open Go.Proofs
variable{i j:Nat}{s:UInt16}
theorem oH(e:Int):aQ 140 [.i e] [] (.tup [.slnil,.agg [.u64 0,.u64 0],.i e]) []:=by refine aL (fn:=Tryz.f140) ?_;refine zp ?_;exact xU
abbrev lE(s:UInt16)(p:UInt64)(b:Nat)(g:UInt64)(id n:Nat)(f:Bool)(sm:Bool)(tp:UInt64)(cm:List UInt64):List SV:=nZ s p b g id n f++kT sm tp cm
theorem Ax(sm:Bool)(tp:UInt64)(cm:List UInt64):bJ (kT sm tp cm)=ab:=by simp [bJ,iG]
theorem jV{sel:List Nat}(h:sel[i]?=aa j)(s:UInt16)(p:UInt64)(b:Nat)(g:UInt64)(n:Nat)(f sm:Bool)(tp:UInt64)(cm:List UInt64):bu sel (lE s p b g i n f sm tp cm)=aa (lE s p b g j n f sm tp cm):=by have h2:=jc sel (Ax sm tp cm);unfold lE;simp only [oz,jA,bu,bG,h]at h2|-;rw [h2]
theorem ahc{sel:List Nat}(h:sel[i]?=aa j)(s:UInt16)(p:UInt64)(b:Nat)(g:UInt64)(n:Nat)(f sm:Bool)(tp:UInt64)(cm:List UInt64):cZ sel (.box (lE s p b g i n f sm tp cm))=al (lE s p b g j n f sm tp cm):=by simp only [cZ,jV h s p b g n f sm tp cm]
theorem L6(s:UInt16)(p:UInt64)(b:Nat)(g:UInt64)(D:List UInt8)(f sm:Bool)(tp:UInt64)(cm:List UInt64)(hc:cm.length=16)(c:UInt64):aM 142 [.p 0 5,.u64 c] [al (lE s p b g 1 D.length f sm tp cm),ak D] (.i (eE sm tp cm c)) []:=by have q:=(Q9 sm tp cm hc c).part (nZ s p b g 1 D.length f) [] [ak D] rfl (Ax _ _ _) (Ax _ _ _) aq rfl rfl (by intro id b h;match id,h with|0,h=>cases h;rfl|_+1,h=>simp [hg]at h);rw [jz]at q;exact q
theorem Rq(s:UInt16)(p:UInt64)(b:Nat)(g:UInt64)(D:List UInt8)(f sm:Bool)(tp t2:UInt64)(cm:List UInt64)(hc:cm.length=16)(c:UInt64)(he:eE sm tp cm c=0)(ht:t2=if sm then tp else c):aQ 143 [.p 0 5,.u64 c] [al (lE s p b g 1 D.length f sm tp cm),ak D] (.i 0) [al (lE s p b g 1 D.length f ab (if c>t2 then c else t2) (lF t2 cm c)),ak D]:=by
 have hl:(lF t2 cm c).length=cm.length:=by unfold lF vg;rw [fJ,uD]
 have q:=(aeZ sm tp t2 cm hc c he ht).part (nZ s p b g 1 D.length f) [] [ak D] (by simp [hl]) (Ax _ _ _) (Ax _ _ _) aq rfl rfl (by intro id b h;match id,h with|0,h=>cases h;rfl|_+1,h=>simp [hg]at h);rw [jz,jz]at q;exact q
abbrev rY(kid c:UInt64)(D F E:List UInt8):HL:= [an [.u64 kid,.u64 c],an [.fn 140 []],an [.slnil],an [.sl 6 0 F.length 1 af],ak D,ak F,ak E]
theorem Vy(s:UInt16)(p:UInt64)(b:Nat)(g:UInt64)(D:List UInt8)(f sm:Bool)(tp:UInt64)(cm:List UInt64)(hc:cm.length=16)(kid c:UInt64)(F E:List UInt8)(e:Int)(he:eE sm tp cm c=e)(r:e≠0):aQ 141 [.p 0 0,.p 1 0,.p 2 0,.p 3 0,.p 4 0] (al (lE s p b g 5 D.length f sm tp cm)::rY kid c D F E) (.tup [.slnil,.agg [.u64 0,.u64 0],.i e]) (al (lE s p b g 5 D.length f sm tp cm)::rY kid c D F E):=by
 have q:=L6 s p b g D f sm tp cm hc c;rw [he]at q;have e1:(e !=0)=ab:=by simpa using r
 have q2:=oH e;refine aL (fn:=Tryz.f141) ?_;refine zM ?_;refine zW (dY [0,5] [al (lE s p b g 5 D.length f sm tp cm),ak D] (.i e) q) ?_;refine CA ?_;exact Xm
theorem uY(t2:UInt64)(cm:List UInt64)(c:UInt64):(lF t2 cm c).length=cm.length:=by unfold lF vg;rw [fJ,uD]
theorem MS(h:1<=s.toNat)(h2:s.toNat<=5)(p:UInt64)(b:Nat)(g:UInt64)(D:List UInt8)(h0:0<D.length)(h1:D.length<=1024)(f sm:Bool)(tp t2:UInt64)(cm:List UInt64)(hc:cm.length=16)(kid c:UInt64)(G:kid=aV p b g)(F E:List UInt8)(u:Nat)(hT:fg F=aa (u,kid,c))(hu:u<=F.length)(O:0<u)(U:u<100000)(r:dH s<=F.length-u)(V:F.length-u<=65536)(he:eE sm tp cm c=0)(ht:t2=if sm then tp else c)(I:mM s (dR s kid D) (bf (dP s kid D) c) (F.take u) (F.drop u)=ab):aQ 141 [.p 0 0,.p 1 0,.p 2 0,.p 3 0,.p 4 0] (al (lE s p b g 5 D.length f sm tp cm)::rY kid c D F E) (.tup [.sl 8 0 (F.length-u-dH s) 1 af,.agg [.u64 kid,.u64 c],.i 0]) (al (lE s p b g 5 D.length f ab (if c>t2 then c else t2) (lF t2 cm c))::(rY kid c D F E++ [aC 5 (mh s (dR s kid D) (bf (dP s kid D) c) (F.drop u))])):=by
 have q:=L6 s p b g D f sm tp cm hc c;rw [he]at q;have q2:=oH 140;have q1:=Ki h h2 p b g D h0 h1 f;rw [<-G]at q1;have q4:=Rq s p b g D f sm tp t2 cm hc c he ht;have q3:=(agc h h2 (dR s kid D) (dP s kid D) F u kid c hT hu O U r V (Gk h h2 _ _) (DS _ _ _) I).fill 1 (F.map .u8) rfl rfl rfl rfl aq;obtain⟨X,hX⟩:=ax (dP s kid D);obtain⟨Y,hY⟩:=ax (dR s kid D);obtain⟨k,hk⟩:=ax (gT s);have lX:X.length=12:=EL;rw [<-hX,<-hY,<-hk]at q1 q3;try rw [<-hX,<-hY]
 refine yJ ?_;refine zc ?_;refine zW (dY [0,5] [al (lE s p b g 5 D.length f ab (if c>t2 then c else t2) (lF t2 cm c)),ak D] (.i 0) q4) ?_;refine zq ?_;exact bE [0,1,2,3,4,5,6,7,10]
theorem MR(h:1<=s.toNat)(h2:s.toNat<=5)(p:UInt64)(b:Nat)(g:UInt64)(D:List UInt8)(h0:0<D.length)(h1:D.length<=1024)(f sm:Bool)(tp t2:UInt64)(cm:List UInt64)(hc:cm.length=16)(kid c:UInt64)(G:kid=aV p b g)(F E:List UInt8)(u:Nat)(hT:fg F=aa (u,kid,c))(hu:u<=F.length)(O:0<u)(U:u<100000)(r:dH s<=F.length-u)(V:F.length-u<=65536)(he:eE sm tp cm c=0)(ht:t2=if sm then tp else c)(I:mM s (dR s kid D) (bf (dP s kid D) c) (F.take u) (F.drop u)=af):aQ 141 [.p 0 0,.p 1 0,.p 2 0,.p 3 0,.p 4 0] (al (lE s p b g 5 D.length f sm tp cm)::rY kid c D F E) (.tup [.slnil,.agg [.u64 0,.u64 0],.i 140]) (al (lE s p b g 5 D.length f sm tp cm)::(rY kid c D F E)):=by
 have q:=L6 s p b g D f sm tp cm hc c;rw [he]at q;have q2:=oH 140;have q1:=Ki h h2 p b g D h0 h1 f;rw [<-G]at q1;have q4:=Rq s p b g D f sm tp t2 cm hc c he ht;have q3:=(agb h h2 (dR s kid D) (dP s kid D) F u kid c hT hu O U r V (Gk h h2 _ _) (DS _ _ _) I).fill 1 (F.map .u8) rfl rfl rfl rfl aq;obtain⟨X,hX⟩:=ax (dP s kid D);obtain⟨Y,hY⟩:=ax (dR s kid D);obtain⟨k,hk⟩:=ax (gT s);have lX:X.length=12:=EL;rw [<-hX,<-hY,<-hk]at q1 q3;try rw [<-hX,<-hY]
 refine yJ ?_;refine zc ?_;exact Xm
structure Kp where
 s:UInt16
 p:UInt64
 b:Nat
 g:UInt64
 d:List UInt8
 f:Bool
 sm:Bool
 tp:UInt64
 cm:List UInt64
abbrev Kp.c(k:Kp)(i:Nat):List SV:=lE k.s k.p k.b k.g i k.d.length k.f k.sm k.tp k.cm
def Kp.note(k:Kp)(t2 c:UInt64):Kp:={k with sm:=ab,tp:=if c>t2 then c else t2,cm:=lF t2 k.cm c}
abbrev eD(a b:Kp)(i j:Nat)(cf:Bool):List SV:=a.c i++b.c j++ [.b cf]
theorem Cg{sel:List Nat}:∀{a r b u:List SV},bu sel a=aa r->bu sel b=aa u->bu sel (a++b)=aa (r++u)
 | [],r,b,u,h,k=>by simp only [bu,Option.some.injEq]at h;subst h;exact k
 |x::a,r,b,u,h,k=>by
  simp only [oz,bu]at h|-;split at h
  .rename_i y hy;split at h
   .rename_i ys F;cases h;rw [Cg F k];rfl
   .cases h
  .cases h
theorem Hn{sel:List Nat}{r u:Nat}(h:sel[i]?=aa r)(h2:sel[j]?=aa u)(a b:Kp)(cf:Bool):bu sel (eD a b i j cf)=aa (eD a b r u cf):=Cg (Cg (jV h _ _ _ _ _ _ _ _ _) (jV h2 _ _ _ _ _ _ _ _ _)) rfl
theorem ahd{sel:List Nat}{r u:Nat}(h:sel[i]?=aa r)(h2:sel[j]?=aa u)(a b:Kp)(cf:Bool):cZ sel (.box (eD a b i j cf))=al (eD a b r u cf):=by simp only [cZ,Hn h h2 a b cf]
theorem gp(k:Kp)(hc:k.cm.length=16)(i:Nat):(k.c i).length=23:=by simp [lE,hc]
theorem Cc{a b:Kp}{cf:Bool}(r:a.cm.length=16)(hb:b.cm.length=16):dz af 1 (eD a b i j cf) 46=aa (.b cf):=by have h1:=gp a r i;have h2:=gp b hb j;simp only [dz,gE,if_false,eD];rw [iR qL,aW,h1,h2];rfl
theorem GX{a b:Kp}{cf:Bool}(r:a.cm.length=16):dz af 1 (eD a b i j cf) 26=aa (.u64 b.g):=by have h1:=gp a r i;simp only [dz,gE,if_false,eD];rw [iw,iR ag,h1];rfl
theorem Cb(x y:List SV)(z:SV): []++x++(y++ [z])=x++y++ [z]:=by rw [jA,iw]
theorem acK{n:Nat}{kid c:UInt64}{D F E:List UInt8}(hn:n=9):∀id b,hg (rY kid c D F E) id=aa b->b.own=af/\cZ (fF 0 n) b=aa b:=by
 subst hn;intro id b h
 match id,h with
 |0,h=>cases h;exact⟨rfl,rfl⟩
 |1,h=>cases h;exact⟨rfl,rfl⟩
 |2,h=>cases h;exact⟨rfl,rfl⟩
 |3,h=>cases h;exact⟨rfl,rfl⟩
 |4,h=>cases h;exact⟨rfl,kb _ bI⟩
 |5,h=>cases h;exact⟨rfl,kb _ bI⟩
 |6,h=>cases h;exact⟨rfl,kb _ bI⟩
 |_+7,h=>simp [hg,rY]at h
theorem Cr{pre W W' post:List SV}{n:Nat}{ret:SV}{N:HL}{kid c:UInt64}{D F E:List UInt8}(h:aQ 141 [.p 0 0,.p 1 0,.p 2 0,.p 3 0,.p 4 0] (al W::rY kid c D F E) ret (al W'::(rY kid c D F E++N)))(hp:pre.length=n)(hl:W'.length=W.length)(hw0:0<W.length)(hW:bu (fF 0 9) W=aa W)(G:bu (fF 0 9) W'=aa W')(hr:bG (fF 0 9) ret=aa ret)(I:∀id b,hg N id=aa b->b.own=ab/\cZ (fF 0 9) b=aa b)(u:bu (cQ 8) pre=aa pre)(r:bu (cQ 8) post=aa post):aQ 141 [.p 0 n,.p 1 0,.p 2 0,.p 3 0,.p 4 0] (al (pre++W++post)::rY kid c D F E) ret (al (pre++W'++post)::(rY kid c D F E++N)):=by subst hp;exact bV.partG 9 h pre post hl hw0 hW G rfl hr (acK rfl) I u r
theorem ahL(a b:Kp)(cf:Bool)(hca:a.cm.length=16)(F:List UInt8)(I:F.length<1000000)(u:Nat)(kid c:UInt64)(hT:fg F=aa (u,kid,c))(hpx:(bh kid ((a.b:Int)).toNat !=a.p)=af)(hgn:(kid&&&cB a.b==a.g)=ab)(e:Int)(he:eE a.sm a.tp a.cm c=e)(r:e≠0):aM 109 [.p 0 0,.slnil,.sl 3 0 F.length 1 af] [al (eD a b 1 2 cf),ak a.d,ak b.d,ak F] (.tup [.slnil,.agg [.u64 0,.u64 0],.i e]) []:=by
 have hl:(a).cm.length=16:=by exact hca
 have G:=Cr (pre:= []) (post:=b.c 7++ [.b cf]) (W:=a.c 5) (W':=(a).c 5) (N:= []) (n:=0) (Vy a.s a.p a.b a.g a.d a.f a.sm a.tp a.cm hca kid c F b.d e he r) rfl ((gp _ hl _).trans (gp _ hca _).symm) (by rw [gp _ hca];decide) (jV rfl _ _ _ _ _ _ _ _ _) (jV rfl _ _ _ _ _ _ _ _ _) rfl (by intro id b h;simp [hg]at h) rfl (Cg (jV rfl _ _ _ _ _ _ _ _ _) rfl);rw [Cb]at G;try rw [Cb]at G
 have qt:=f17 F ag;rw [hT]at qt;have qn:=λe=>oH e
 have ql:=pD a.s a.p a.b a.g a.d a.f;refine zw ?_;repeat(first|refine zW (bl hgn) ?_)
 refine zW (dY [0,6,7,4,5,1,3,2] [al (eD a b 1 2 cf),an [.u64 kid,.u64 c],an [.fn 140 []],an [.slnil],an [.sl 3 0 F.length 1 af],ak a.d,ak F,ak b.d] (.tup [.slnil,.agg [.u64 0,.u64 0],.i e]) G) ?_;exact Cy
theorem ahM(a b:Kp)(cf:Bool)(hca:a.cm.length=16)(F:List UInt8)(h6:F.length<1000000)(u:Nat)(kid c:UInt64)(hT:fg F=aa (u,kid,c))(hpx:(bh kid ((a.b:Int)).toNat !=a.p)=af)(hgn:(kid&&&cB a.b==a.g)=ab){t2:UInt64}(h:1<=a.s.toNat)(h2:a.s.toNat<=5)(h0:0<a.d.length)(h1:a.d.length<=1024)(G:kid=aV a.p a.b a.g)(hu:u<=F.length)(O:0<u)(U:u<100000)(r:dH a.s<=F.length-u)(Z:F.length-u<=65536)(he:eE a.sm a.tp a.cm c=0)(ht:t2=if a.sm then a.tp else c)(I:mM a.s (dR a.s kid a.d) (bf (dP a.s kid a.d) c) (F.take u) (F.drop u)=ab):aQ 109 [.p 0 0,.slnil,.sl 3 0 F.length 1 af] [al (eD a b 1 2 cf),ak a.d,ak b.d,ak F] (.tup [.sl 4 0 (F.length-u-dH a.s) 1 af,.agg [.u64 kid,.u64 c],.i 0]) [al (eD (a.note t2 c) b 1 2 cf),ak a.d,ak b.d,ak F,aC 5 (mh a.s (dR a.s kid a.d) (bf (dP a.s kid a.d) c) (F.drop u))]:=by
 have hl:((a.note t2 c)).cm.length=16:=by first|(exact(uY _ _ _).trans hca)
 have V:=Cr (pre:= []) (post:=b.c 7++ [.b cf]) (W:=a.c 5) (W':=((a.note t2 c)).c 5) (N:= [aC 5 (mh a.s (dR a.s kid a.d) (bf (dP a.s kid a.d) c) (F.drop u))]) (n:=0) (MS h h2 a.p a.b a.g a.d h0 h1 a.f a.sm a.tp t2 a.cm hca kid c G F b.d u hT hu O U r Z he ht I) rfl ((gp _ hl _).trans (gp _ hca _).symm) (by rw [gp _ hca];decide) (jV rfl _ _ _ _ _ _ _ _ _) (jV rfl _ _ _ _ _ _ _ _ _) rfl (by intro id b h;match id,h with|0,h=>cases h;exact⟨rfl,kb _ bI⟩|_+1,h=>simp [hg]at h) rfl (Cg (jV rfl _ _ _ _ _ _ _ _ _) rfl);rw [Cb]at V;try rw [Cb]at V
 have qt:=f17 F ag;rw [hT]at qt;have qn:=λe=>oH e
 have ql:=pD a.s a.p a.b a.g a.d a.f;refine zw ?_;repeat(first|refine zW (bl hgn) ?_)
 refine zW (dY [0,6,7,4,5,1,3,2] [al (eD (a.note t2 c) b 1 2 cf),an [.u64 kid,.u64 c],an [.fn 140 []],an [.slnil],an [.sl 3 0 F.length 1 af],ak a.d,ak F,ak b.d,aC 5 (mh a.s (dR a.s kid a.d) (bf (dP a.s kid a.d) c) (F.drop u))] (.tup [.sl 8 0 (F.length-u-dH a.s) 1 af,.agg [.u64 kid,.u64 c],.i 0]) V) ?_;refine zq ?_;exact bE [0,1,2,3,8]
theorem ahK(a b:Kp)(cf:Bool)(hca:a.cm.length=16)(F:List UInt8)(h6:F.length<1000000)(u:Nat)(kid c:UInt64)(hT:fg F=aa (u,kid,c))(hpx:(bh kid ((a.b:Int)).toNat !=a.p)=af)(hgn:(kid&&&cB a.b==a.g)=ab){t2:UInt64}(h:1<=a.s.toNat)(h2:a.s.toNat<=5)(h0:0<a.d.length)(h1:a.d.length<=1024)(G:kid=aV a.p a.b a.g)(hu:u<=F.length)(O:0<u)(U:u<100000)(r:dH a.s<=F.length-u)(Z:F.length-u<=65536)(he:eE a.sm a.tp a.cm c=0)(ht:t2=if a.sm then a.tp else c)(I:mM a.s (dR a.s kid a.d) (bf (dP a.s kid a.d) c) (F.take u) (F.drop u)=af):aM 109 [.p 0 0,.slnil,.sl 3 0 F.length 1 af] [al (eD a b 1 2 cf),ak a.d,ak b.d,ak F] (.tup [.slnil,.agg [.u64 0,.u64 0],.i 140]) []:=by
 have hl:(a).cm.length=16:=by exact hca
 have V:=Cr (pre:= []) (post:=b.c 7++ [.b cf]) (W:=a.c 5) (W':=(a).c 5) (N:= []) (n:=0) (MR h h2 a.p a.b a.g a.d h0 h1 a.f a.sm a.tp t2 a.cm hca kid c G F b.d u hT hu O U r Z he ht I) rfl ((gp _ hl _).trans (gp _ hca _).symm) (by rw [gp _ hca];decide) (jV rfl _ _ _ _ _ _ _ _ _) (jV rfl _ _ _ _ _ _ _ _ _) rfl (by intro id b h;simp [hg]at h) rfl (Cg (jV rfl _ _ _ _ _ _ _ _ _) rfl);rw [Cb]at V;try rw [Cb]at V
 have qt:=f17 F ag;rw [hT]at qt;have qn:=λe=>oH e
 have ql:=pD a.s a.p a.b a.g a.d a.f;refine zw ?_;repeat(first|refine zW (bl hgn) ?_)
 refine zW (dY [0,6,7,4,5,1,3,2] [al (eD a b 1 2 cf),an [.u64 kid,.u64 c],an [.fn 140 []],an [.slnil],an [.sl 3 0 F.length 1 af],ak a.d,ak F,ak b.d] (.tup [.slnil,.agg [.u64 0,.u64 0],.i 140]) V) ?_;exact Cy
theorem ahO(a b:Kp)(hca:a.cm.length=16)(hcb:b.cm.length=16)(F:List UInt8)(G:F.length<1000000)(u:Nat)(kid c:UInt64)(hT:fg F=aa (u,kid,c))(hpx:(bh kid ((a.b:Int)).toNat !=a.p)=af)(hgn:(kid&&&cB a.b==a.g)=af)(hg2:(kid&&&cB a.b==b.g)=ab)(e:Int)(he:eE b.sm b.tp b.cm c=e)(r:e≠0):aM 109 [.p 0 0,.slnil,.sl 3 0 F.length 1 af] [al (eD a b 1 2 ab),ak a.d,ak b.d,ak F] (.tup [.slnil,.agg [.u64 0,.u64 0],.i e]) []:=by
 have hl:(b).cm.length=16:=by exact hcb
 have I:=Cr (pre:=a.c 7) (post:= [.b ab]) (W:=b.c 5) (W':=(b).c 5) (N:= []) (n:=23) (Vy b.s b.p b.b b.g b.d b.f b.sm b.tp b.cm hcb kid c F a.d e he r) (gp _ hca _) ((gp _ hl _).trans (gp _ hcb _).symm) (by rw [gp _ hcb];decide) (jV rfl _ _ _ _ _ _ _ _ _) (jV rfl _ _ _ _ _ _ _ _ _) rfl (by intro id b h;simp [hg]at h) (jV rfl _ _ _ _ _ _ _ _ _) rfl;have qt:=f17 F ag;rw [hT]at qt;have qn:=λe=>oH e
 have ql:=pD a.s a.p a.b a.g a.d a.f;refine Nr ?_;refine zW (dY [0,6,7,4,5,2,3,1] [al (eD a b 1 2 ab),an [.u64 kid,.u64 c],an [.fn 140 []],an [.slnil],an [.sl 3 0 F.length 1 af],ak b.d,ak F,ak a.d] (.tup [.slnil,.agg [.u64 0,.u64 0],.i e]) I) ?_;exact Cy
theorem ahP(a b:Kp)(hca:a.cm.length=16)(hcb:b.cm.length=16)(F:List UInt8)(Z:F.length<1000000)(u:Nat)(kid c:UInt64)(hT:fg F=aa (u,kid,c))(hpx:(bh kid ((a.b:Int)).toNat !=a.p)=af)(hgn:(kid&&&cB a.b==a.g)=af)(hg2:(kid&&&cB a.b==b.g)=ab){t2:UInt64}(h:1<=b.s.toNat)(h2:b.s.toNat<=5)(h0:0<b.d.length)(h1:b.d.length<=1024)(G:kid=aV b.p b.b b.g)(hu:u<=F.length)(O:0<u)(U:u<100000)(r:dH b.s<=F.length-u)(V:F.length-u<=65536)(he:eE b.sm b.tp b.cm c=0)(ht:t2=if b.sm then b.tp else c)(I:mM b.s (dR b.s kid b.d) (bf (dP b.s kid b.d) c) (F.take u) (F.drop u)=ab):aQ 109 [.p 0 0,.slnil,.sl 3 0 F.length 1 af] [al (eD a b 1 2 ab),ak a.d,ak b.d,ak F] (.tup [.sl 4 0 (F.length-u-dH b.s) 1 af,.agg [.u64 kid,.u64 c],.i 0]) [al (eD a (b.note t2 c) 1 2 ab),ak a.d,ak b.d,ak F,aC 5 (mh b.s (dR b.s kid b.d) (bf (dP b.s kid b.d) c) (F.drop u))]:=by
 have hl:((b.note t2 c)).cm.length=16:=by first|(exact(uY _ _ _).trans hcb)
 have qy:=Cr (pre:=a.c 7) (post:= [.b ab]) (W:=b.c 5) (W':=((b.note t2 c)).c 5) (N:= [aC 5 (mh b.s (dR b.s kid b.d) (bf (dP b.s kid b.d) c) (F.drop u))]) (n:=23) (MS h h2 b.p b.b b.g b.d h0 h1 b.f b.sm b.tp t2 b.cm hcb kid c G F a.d u hT hu O U r V he ht I) (gp _ hca _) ((gp _ hl _).trans (gp _ hcb _).symm) (by rw [gp _ hcb];decide) (jV rfl _ _ _ _ _ _ _ _ _) (jV rfl _ _ _ _ _ _ _ _ _) rfl (by intro id b h;match id,h with|0,h=>cases h;exact⟨rfl,kb _ bI⟩|_+1,h=>simp [hg]at h) (jV rfl _ _ _ _ _ _ _ _ _) rfl;have qt:=f17 F ag;rw [hT]at qt;have qn:=λe=>oH e
 have ql:=pD a.s a.p a.b a.g a.d a.f;refine Nr ?_;refine zW (dY [0,6,7,4,5,2,3,1] [al (eD a (b.note t2 c) 1 2 ab),an [.u64 kid,.u64 c],an [.fn 140 []],an [.slnil],an [.sl 3 0 F.length 1 af],ak b.d,ak F,ak a.d,aC 5 (mh b.s (dR b.s kid b.d) (bf (dP b.s kid b.d) c) (F.drop u))] (.tup [.sl 8 0 (F.length-u-dH b.s) 1 af,.agg [.u64 kid,.u64 c],.i 0]) qy) ?_;refine zq ?_;exact bE [0,1,2,3,8]
theorem ahN(a b:Kp)(hca:a.cm.length=16)(hcb:b.cm.length=16)(F:List UInt8)(Z:F.length<1000000)(u:Nat)(kid c:UInt64)(hT:fg F=aa (u,kid,c))(hpx:(bh kid ((a.b:Int)).toNat !=a.p)=af)(hgn:(kid&&&cB a.b==a.g)=af)(hg2:(kid&&&cB a.b==b.g)=ab){t2:UInt64}(h:1<=b.s.toNat)(h2:b.s.toNat<=5)(h0:0<b.d.length)(h1:b.d.length<=1024)(G:kid=aV b.p b.b b.g)(hu:u<=F.length)(O:0<u)(U:u<100000)(r:dH b.s<=F.length-u)(V:F.length-u<=65536)(he:eE b.sm b.tp b.cm c=0)(ht:t2=if b.sm then b.tp else c)(I:mM b.s (dR b.s kid b.d) (bf (dP b.s kid b.d) c) (F.take u) (F.drop u)=af):aM 109 [.p 0 0,.slnil,.sl 3 0 F.length 1 af] [al (eD a b 1 2 ab),ak a.d,ak b.d,ak F] (.tup [.slnil,.agg [.u64 0,.u64 0],.i 140]) []:=by
 have hl:(b).cm.length=16:=by exact hcb
 have qy:=Cr (pre:=a.c 7) (post:= [.b ab]) (W:=b.c 5) (W':=(b).c 5) (N:= []) (n:=23) (MR h h2 b.p b.b b.g b.d h0 h1 b.f b.sm b.tp t2 b.cm hcb kid c G F a.d u hT hu O U r V he ht I) (gp _ hca _) ((gp _ hl _).trans (gp _ hcb _).symm) (by rw [gp _ hcb];decide) (jV rfl _ _ _ _ _ _ _ _ _) (jV rfl _ _ _ _ _ _ _ _ _) rfl (by intro id b h;simp [hg]at h) (jV rfl _ _ _ _ _ _ _ _ _) rfl;have qt:=f17 F ag;rw [hT]at qt;have qn:=λe=>oH e
 have ql:=pD a.s a.p a.b a.g a.d a.f;refine Nr ?_;refine zW (dY [0,6,7,4,5,2,3,1] [al (eD a b 1 2 ab),an [.u64 kid,.u64 c],an [.fn 140 []],an [.slnil],an [.sl 3 0 F.length 1 af],ak b.d,ak F,ak a.d] (.tup [.slnil,.agg [.u64 0,.u64 0],.i 140]) qy) ?_;exact Cy
theorem ahT(a b:Kp)(cf:Bool)(hca:a.cm.length=16)(hcb:b.cm.length=16)(F:List UInt8)(G:F.length<1000000)(u:Nat)(kid c:UInt64)(hT:fg F=aa (u,kid,c))(hpx:(bh kid ((a.b:Int)).toNat !=a.p)=af)(hgn:(kid&&&cB a.b==a.g)=af)(hg2:cf=ab->(kid&&&cB a.b==b.g)=af)(hlt:decide ((kid&&&cB a.b)<a.g)=ab):aM 109 [.p 0 0,.slnil,.sl 3 0 F.length 1 af] [al (eD a b 1 2 cf),ak a.d,ak b.d,ak F] (.tup [.slnil,.agg [.u64 0,.u64 0],.i 241]) []:=by
 cases cf
 .skip
  have qt:=f17 F ag;rw [hT]at qt;have qn:=λe=>oH e
  have ql:=pD a.s a.p a.b a.g a.d a.f;refine zw ?_;repeat(first|refine zW (bC hgn) ?_|refine zH (Cc hca hcb) ?_|refine zW (bl hlt) ?_|refine zf ?_)
  exact Io
 .have r:=hg2 rfl;have qt:=f17 F ag;rw [hT]at qt;have qn:=λe=>oH e
  have ql:=pD a.s a.p a.b a.g a.d a.f;refine zw ?_;repeat(first|refine zW (bC hgn) ?_|refine zH (Cc hca hcb) ?_|refine zH (GX hca) ?_|refine zW (bC r) ?_|refine zW (bl hlt) ?_|refine aS ?_)
  exact Io
theorem ahS(a b:Kp)(cf:Bool)(hca:a.cm.length=16)(hcb:b.cm.length=16)(F:List UInt8)(G:F.length<1000000)(u:Nat)(kid c:UInt64)(hT:fg F=aa (u,kid,c))(hpx:(bh kid ((a.b:Int)).toNat !=a.p)=af)(hgn:(kid&&&cB a.b==a.g)=af)(hg2:cf=ab->(kid&&&cB a.b==b.g)=af)(hlt:decide ((kid&&&cB a.b)<a.g)=af)(hgt:decide ((kid&&&cB a.b)-a.g>aF (aU 64))=ab):aM 109 [.p 0 0,.slnil,.sl 3 0 F.length 1 af] [al (eD a b 1 2 cf),ak a.d,ak b.d,ak F] (.tup [.slnil,.agg [.u64 0,.u64 0],.i 5]) []:=by
 cases cf
 .skip
  have qt:=f17 F ag;rw [hT]at qt;have qn:=λe=>oH e
  have ql:=pD a.s a.p a.b a.g a.d a.f;refine zw ?_;repeat(first|refine zW (bC hgn) ?_|refine zH (Cc hca hcb) ?_|refine zW (bC hlt) ?_|refine zW (bl hgt) ?_|refine zf ?_)
  exact Io
 .have r:=hg2 rfl;have qt:=f17 F ag;rw [hT]at qt;have qn:=λe=>oH e
  have ql:=pD a.s a.p a.b a.g a.d a.f;refine zw ?_;repeat(first|refine zW (bC hgn) ?_|refine zH (Cc hca hcb) ?_|refine zH (GX hca) ?_|refine zW (bC r) ?_|refine zW (bC hlt) ?_|refine zW (bl hgt) ?_|refine aS ?_)
  exact Io
def dp(s:UInt16)(d:List UInt8):Nat->List UInt8
 |0=>d
 |i+1=>ra s (dp s d i)
theorem acs(s:UInt16):0<uO s/\uO s<=64:=by unfold uO;split<;>omega
theorem vG{d:List UInt8}(h0:0<d.length)(h1:d.length<=1024):∀i,0<(dp s d i).length/\(dp s d i).length<=1024
 |0=>⟨h0,h1⟩
 |i+1=>by
  show 0<(ra s (dp s d i)).length/\(ra s (dp s d i)).length<=1024
  rw [Fi];have:=acs s;omega
def CW(f:Bool):Nat->Bool
 |0=>f
 |_+1=>ab
abbrev qK:List UInt64:= [0,0,0,0,0,0,0,0,0,0,0,0,0,0,0,0]
def mI(g:UInt64):Nat->UInt64
 |0=>g
 |i+1=>g1 (mI g i)
theorem F9(g:UInt64):∀i,mI g i=g+aF i
 |0=>by simp [mI]
 |i+1=>by
  show mI g i+aF (aU 1)=_
  rw [F9 g i,UInt64.add_assoc];congr 1;simp [UInt64.ofNat_add]
def Kp.fwd(a:Kp)(i:Nat):Kp:=⟨a.s,a.p,a.b,mI a.g i,dp a.s a.d i,CW a.f i,af,0,qK⟩
def OC(d:List UInt8):Nat->SB
 |0=> .ro (d.map .u8)
 |_+1=> .row 5 (d.map .u8)
theorem Aq(x y:List SV):(x++y).length=x.length+y.length:=aW
theorem ahe{Z X Y:List SV}(hX:X.length=23)(hY:Y.length=23)(hZ:Z.length=46):nB (λi=>aa (i*23,23)) Z [(0,.agg X),(1,.agg Y)]=aa (X++Y):=by
 have h1:bN Z (0*23) (.agg X)=X++Z.drop 23:=by simp [bN,hX]
 have h2:bN (X++Z.drop 23) (1*23) (.agg Y)=X++Y:=by simp only [bN,Nat.one_mul,hY];rw [wS ag,bW ag,List.drop_eq_nil_of_le aA,jz]
 show(if _ then nB _ (bN Z (0*23) (.agg X)) [(1,.agg Y)]else ah)=_
 rw [if_pos ⟨rfl,hX,ag⟩,h1];show(if _ then nB _ (bN (X++Z.drop 23) (1*23) (.agg Y)) []else ah)=_
 rw [if_pos ⟨rfl,hY,by rw [aW,fQ];omega⟩,h2];rfl
theorem ahf{a b:Kp}{cf:Bool}(r:a.cm.length=16):dz ab 23 (eD a b i j cf) 0=aa (.agg (a.c i)):=by have h1:=gp a r i;unfold eD;rw [iw];have h2:(a.c i++(b.c j++ [SV.b cf])).take 23=a.c i:=vz h1;simp only [dz,if_true,cq];rw [h2,if_pos (by rw [Aq (a.c i),h1];omega)]
theorem adl{x y:Kp}{k l:Nat}(hx:x.cm.length=16)(hy:y.cm.length=16):(x.c k++y.c l).length=46:=by rw [Aq (x.c k),gp x hx,gp y hy]
theorem ahh{a b x y:Kp}{k l:Nat}{cf:Bool}(r:a.cm.length=16)(hb:b.cm.length=16)(hx:x.cm.length=16)(hy:y.cm.length=16):bN (eD a b i j cf) 0 (.agg (x.c k++y.c l))=eD x y k l cf:=by have h1:=gp a r i;have h2:=gp b hb j;have h3:=gp x hx k;have h4:=gp y hy l;simp only [bN,eD,wT,jA,ig];rw [List.drop_left' (by rw [Aq (a.c i),Aq (x.c k),h1,h2,h3,h4])]
theorem ahg{x y:Kp}{k l:Nat}{cf t:Bool}(hx:x.cm.length=16)(hy:y.cm.length=16):bN (eD x y k l cf) 46 (.b t)=eD x y k l t:=by have h3:=gp x hx k;have h4:=gp y hy l;simp only [bN,eD];rw [List.set_append_right _ _ (by rw [Aq (x.c k)];omega),Aq (x.c k),h3,h4];rfl
theorem SG{x y:Kp}{k l:Nat}{cf:Bool}(hx:x.cm.length=16)(hy:y.cm.length=16):(eD x y k l cf).length=47:=by have h3:=gp x hx k;have h4:=gp y hy l;rw [show(eD x y k l cf).length=(x.c k++y.c l).length+1 from aW,Aq (x.c k),h3,h4]
theorem ahR(a b:Kp)(cf:Bool)(hca:a.cm.length=16)(hcb:b.cm.length=16)(h:1<=a.s.toNat)(h2:a.s.toNat<=5)(h0:0<a.d.length)(h1:a.d.length<=1024)(F:List UInt8)(h8:F.length<1000000)(u:Nat)(kid c:UInt64)(hT:fg F=aa (u,kid,c))(hpx:(bh kid ((a.b:Int)).toNat !=a.p)=af)(hgn:(kid&&&cB a.b==a.g)=af)(hg2:cf=ab->(kid&&&cB a.b==b.g)=af)(hlt:decide ((kid&&&cB a.b)<a.g)=af)(hgt:decide ((kid&&&cB a.b)-a.g>aF (aU 64))=af)(hF:F.length-u<=65536)(U:kid=aV a.p a.b (kid&&&cB a.b))(hu:u<=F.length)(W:0<u)(Z:u<100000)(G:dH a.s<=F.length-u)(m:Nat)(hm:m=((kid&&&cB a.b)-a.g).toNat)(V:mM a.s (dR a.s kid (dp a.s a.d m)) (bf (dP a.s kid (dp a.s a.d m)) c) (F.take u) (F.drop u)=ab):aQ 109 [.p 0 0,.slnil,.sl 3 0 F.length 1 af] [al (eD a b 1 2 cf),ak a.d,ak b.d,ak F] (.tup [.sl 5 0 (F.length-u-dH a.s) 1 af,.agg [.u64 kid,.u64 c],.i 0]) [al (eD ((a.fwd m).note c c) a 4 1 ab),ak a.d,ak b.d,ak F,aC 5 (dp a.s a.d m),aC 5 (mh a.s (dR a.s kid (dp a.s a.d m)) (bf (dP a.s kid (dp a.s a.d m)) c) (F.drop u))]:=by
 have h7:m<=64:=by simp only [decide_eq_false_iff_not,GT.gt,gh,Nat.not_lt]at hgt;rw [hm];exact hgt
 have I:a.g.toNat+m=(kid&&&cB a.b).toNat:=by simp only [decide_eq_false_iff_not,gh,Nat.not_lt]at hlt;rw [hm,wX _ _ (by rw [oA];exact hlt)];omega
 have r:∀i,i<=m->(mI a.g i).toNat=a.g.toNat+i:=λi hi=>by rw [F9,lY];have:=(kid&&&cB a.b).toNat_lt;have h3:(aF i).toNat=i:=aA;rw [h3];omega
 have hnl:∀i,((a.fwd i).note c c).cm.length=16:=λi=>uY _ _ _
 have h9:1<=m:=by
  rcases Nat.eq_zero_or_pos m with e|e
  .exfalso;have:(kid&&&cB a.b)=a.g:=dJ.1 ag;rw [this]at hgn;simp at hgn
  .exact e
 have O:mI a.g m=kid&&&cB a.b:=dJ.1 (by rw [r m (bH _),I]);have qy:∀i,i=m->_:=λi hi=>MS h h2 a.p a.b (mI a.g i) (dp a.s a.d i) (vG h0 h1 i).1 (vG h0 h1 i).2 (CW a.f i) af 0 c qK rfl kid c (by rw [hi,O];exact U) F a.d u hT hu W Z G hF (by simp [eE]) rfl (by rw [hi];exact V)
 rcases Bool.eq_false_or_eq_true cf with htw|htw
 all_goals
  have qt:=f17 F ag;rw [hT]at qt;have qn:=λe=>oH e
  have ql:=pD a.s a.p a.b a.g a.d a.f;refine xL ?_;refine bT m (λi=> [(0,.p 0 0),(7,.p 6 0),(11,.u64 (kid&&&cB a.b)),(12,.fn 141 [.p 6 0,.p 7 0,.p 4 0,.p 5 0]),(13,.p 8 0)]) (λi=> [al (eD a b 1 2 cf),ak a.d,ak b.d,ak F,al [.slnil],al [.sl 3 0 F.length 1 af],al [.u64 kid,.u64 c],al [.fn 140 []],al ((a.fwd i.1).c 9),aa (OC (dp a.s a.d i.1) i.1)]) 10 ?_ ?_
  .exact bL [0,1,2,3,4,5,6,7,8,1]
  .rintro⟨i,hi⟩;dsimp only;have hb:=vG (s:=a.s) h0 h1 i;have h6:=r i hi;by_cases him:i<m
   .have e1:decide (mI a.g i<(kid&&&cB a.b))=ab:=by simp only [decide_eq_true_eq,gh];omega
    have q:=KV h h2 a.p a.b (mI a.g i) (dp a.s a.d i) hb.1 hb.2 (CW a.f i);rw [<-Fi a.s (dp a.s a.d i)]at q;rcases i with _|i
    all_goals
     exact xH
   .have e1:decide (mI a.g i<(kid&&&cB a.b))=af:=by simp only [decide_eq_false_iff_not,gh];omega
    obtain rfl:i=m:=ag;obtain⟨j,rfl⟩:∃j,i=j+1:=⟨i-1,ag⟩;refine Im ?_;refine zW (dY [8,6,7,4,5,9,3,1] [al (((a.fwd (j+1)).note c c).c 9),an [.u64 kid,.u64 c],an [.fn 140 []],an [.slnil],an [.sl 3 0 F.length 1 af],ak (dp a.s a.d (j+1)),ak F,ak a.d,aC 5 (mh a.s (dR a.s kid (dp a.s a.d (j+1))) (bf (dP a.s kid (dp a.s a.d (j+1))) c) (F.drop u))] (.tup [.sl 10 0 (F.length-u-dH a.s) 1 af,.agg [.u64 kid,.u64 c],.i 0]) ((qy (j+1) rfl))) ?_;repeat(first|refine zH (df rfl az) ?_|refine zH (cK rfl (gp _ (hnl _) _)) ?_|refine zH (ahf hca) ?_|refine zH (ahe (gp _ (hnl _) _) (gp _ hca _) rfl) ?_|refine aS ?_)
    refine zN (by exact⟨(adl (hnl _) hca),(by show 0+0+46<=(eD a b 1 2 cf).length;rw [SG hca hcb];omega)⟩) ?_;repeat(first|refine zH (ahh hca hcb (hnl _) hca) ?_)
    refine zN (by exact⟨rfl,(by show 0+46+1<=(eD _ _ _ _ cf).length;rw [SG (hnl _) hca];omega)⟩) ?_;repeat(first|refine zH (cK rfl az) ?_|refine zH (df rfl az) ?_|refine zH (ahg (hnl _) hca) ?_|refine aS ?_)
    exact bE [0,1,2,3,9,10]
theorem ahQ(a b:Kp)(cf:Bool)(hca:a.cm.length=16)(hcb:b.cm.length=16)(h:1<=a.s.toNat)(h2:a.s.toNat<=5)(h0:0<a.d.length)(h1:a.d.length<=1024)(F:List UInt8)(h8:F.length<1000000)(u:Nat)(kid c:UInt64)(hT:fg F=aa (u,kid,c))(hpx:(bh kid ((a.b:Int)).toNat !=a.p)=af)(hgn:(kid&&&cB a.b==a.g)=af)(hg2:cf=ab->(kid&&&cB a.b==b.g)=af)(hlt:decide ((kid&&&cB a.b)<a.g)=af)(hgt:decide ((kid&&&cB a.b)-a.g>aF (aU 64))=af)(hF:F.length-u<=65536)(U:kid=aV a.p a.b (kid&&&cB a.b))(hu:u<=F.length)(W:0<u)(Z:u<100000)(G:dH a.s<=F.length-u)(m:Nat)(hm:m=((kid&&&cB a.b)-a.g).toNat)(V:mM a.s (dR a.s kid (dp a.s a.d m)) (bf (dP a.s kid (dp a.s a.d m)) c) (F.take u) (F.drop u)=af):aM 109 [.p 0 0,.slnil,.sl 3 0 F.length 1 af] [al (eD a b 1 2 cf),ak a.d,ak b.d,ak F] (.tup [.slnil,.agg [.u64 0,.u64 0],.i 140]) []:=by
 have h7:m<=64:=by simp only [decide_eq_false_iff_not,GT.gt,gh,Nat.not_lt]at hgt;rw [hm];exact hgt
 have I:a.g.toNat+m=(kid&&&cB a.b).toNat:=by simp only [decide_eq_false_iff_not,gh,Nat.not_lt]at hlt;rw [hm,wX _ _ (by rw [oA];exact hlt)];omega
 have r:∀i,i<=m->(mI a.g i).toNat=a.g.toNat+i:=λi hi=>by rw [F9,lY];have:=(kid&&&cB a.b).toNat_lt;have h3:(aF i).toNat=i:=aA;rw [h3];omega
 have hnl:∀i,((a.fwd i).note c c).cm.length=16:=λi=>uY _ _ _
 have h9:1<=m:=by
  rcases Nat.eq_zero_or_pos m with e|e
  .exfalso;have:(kid&&&cB a.b)=a.g:=dJ.1 ag;rw [this]at hgn;simp at hgn
  .exact e
 have O:mI a.g m=kid&&&cB a.b:=dJ.1 (by rw [r m (bH _),I]);have qy:∀i,i=m->_:=λi hi=>MR h h2 a.p a.b (mI a.g i) (dp a.s a.d i) (vG h0 h1 i).1 (vG h0 h1 i).2 (CW a.f i) af 0 c qK rfl kid c (by rw [hi,O];exact U) F a.d u hT hu W Z G hF (by simp [eE]) rfl (by rw [hi];exact V)
 rcases Bool.eq_false_or_eq_true cf with htw|htw
 all_goals
  have qt:=f17 F ag;rw [hT]at qt;have qn:=λe=>oH e
  have ql:=pD a.s a.p a.b a.g a.d a.f;refine xL ?_;refine bT m (λi=> [(0,.p 0 0),(7,.p 6 0),(11,.u64 (kid&&&cB a.b)),(12,.fn 141 [.p 6 0,.p 7 0,.p 4 0,.p 5 0]),(13,.p 8 0)]) (λi=> [al (eD a b 1 2 cf),ak a.d,ak b.d,ak F,al [.slnil],al [.sl 3 0 F.length 1 af],al [.u64 kid,.u64 c],al [.fn 140 []],al ((a.fwd i.1).c 9),aa (OC (dp a.s a.d i.1) i.1)]) 10 ?_ ?_
  .exact bL [0,1,2,3,4,5,6,7,8,1]
  .rintro⟨i,hi⟩;dsimp only;have hb:=vG (s:=a.s) h0 h1 i;have h6:=r i hi;by_cases him:i<m
   .have e1:decide (mI a.g i<(kid&&&cB a.b))=ab:=by simp only [decide_eq_true_eq,gh];omega
    have q:=KV h h2 a.p a.b (mI a.g i) (dp a.s a.d i) hb.1 hb.2 (CW a.f i);rw [<-Fi a.s (dp a.s a.d i)]at q;rcases i with _|i
    all_goals
     exact xH
   .have e1:decide (mI a.g i<(kid&&&cB a.b))=af:=by simp only [decide_eq_false_iff_not,gh];omega
    obtain rfl:i=m:=ag;obtain⟨j,rfl⟩:∃j,i=j+1:=⟨i-1,ag⟩;refine Im ?_;refine zW (dY [8,6,7,4,5,9,3,1] [al ((a.fwd (j+1)).c 9),an [.u64 kid,.u64 c],an [.fn 140 []],an [.slnil],an [.sl 3 0 F.length 1 af],ak (dp a.s a.d (j+1)),ak F,ak a.d] (.tup [.slnil,.agg [.u64 0,.u64 0],.i 140]) ((qy (j+1) rfl))) ?_;exact Cy
end Go.Sh
namespace Go.Sh
variable{H0:HL}{l:List Hd}{X args:List SV}{f p:Nat}{P:Program}{M ret:SV}{Φ:SV->HL->Prop}{s:UInt16}
structure fc(P:Program)(f:Nat)(args:List SV)(H0:HL)(Φ:SV->HL->Prop):Prop where
 fn:wY P f
 call:∀n ρ w vs,aD ρ args vs->iX ρ (hg H0) w->l7 ρ (hg H0)->(∀id,H0.length<=id->ρ id=ah)->
  CallsIn Fence.wide n P f ⟨vs⟩ w (λe w'=>∃ret H1,Φ ret H1/\sv ρ H0 w ret H1 e w')
theorem bV.x{H1:HL}(h:bV P f args H0 ret H1)(r:Φ ret H1):fc P f args H0 Φ:=
 ⟨h.fn,λn ρ w vs a b c d=>(h.call n ρ w vs a b c d).mono λe u hr=>⟨ret,H1,r,hr⟩⟩
theorem fc.mono{Ψ:SV->HL->Prop}(h:fc P f args H0 Φ)(k:∀r H,Φ r H->Ψ r H):fc P f args H0 Ψ:=
 ⟨h.fn,λn ρ w vs a b c d=>(h.call n ρ w vs a b c d).mono λe u ⟨ret,H1,p,hr⟩=>⟨ret,H1,k _ _ p,hr⟩⟩
def Ql(T:TT)(fn:Func)(A:Nat)(Φ:SV->HL->Prop):Exit->RL->HL->Nat->Prop:=λe R H L=>∃ret H1,Φ ret H1/\Di T fn A ret H1 e R H L
theorem aiy{T:TT}{fn:Func}{c:Code}(hT:fC P T)(hf:P.funcs[f]?=some fn)(hb:fn.body=some c)(hnm:(fn.name== "runtime.NumGoroutine")=false)(hle:eU args.length fn.ntmps=true)(h:bp P (·=none) fn.ntmps H0.length c (Ql T fn H0.length Φ) (regs 0 args) H0 H0.length):fc P f args H0 Φ:=by
 refine⟨⟨fn,hf,by rw [hb];rfl,hnm⟩,λn ρ w vs hvs hh hs hfr=>?_⟩;refine callsIn_of_wp_marks hf hb trivial ?_ rfl;have cx:=hvs.length;have hle':=cr hle;have hsim:dO fn.ntmps w.heap.size H0.length ρ (rg (regs 0 args)) (hg H0) {tmps:=⟨vs⟩++sW (fn.ntmps-(⟨vs⟩:Array Value).size) undef,defers:= []} w:=by
  refine⟨aA,?_,hh,hs,hfr,⟨List.Pairwise.nil,λd hd=>by simp at hd,bH _⟩⟩;intro t v hv;obtain⟨_,h2⟩:=Hb hv;obtain⟨u,hu,hr⟩:=hvs.get h2;simp only [Nat.sub_zero]at hu;have htl:t<vs.length:=(dA.1 hu).1;have:(⟨vs⟩++sW (fn.ntmps-(⟨vs⟩:Array Value).size) undef:Array Value).getD t undef=u:=by refine NN ?_;simp [hu]
  rw [this];exact hr
 refine wpIn_mono (h.run ah n w.heap.size ρ _ w rfl hsim (bH _)) ?_;rintro e a' w' ⟨R',H',L',ρ',⟨ret,H1,hΦ,hq⟩,hl',hs',he'⟩;have main:sN T R' H' fn.results.toList [] (λvs=>Dh H0.length H' ret H1 (pH vs))->LeavesInM Fence.wide n P fn a'.tmps (λe w'=>∃ret H1,Φ ret H1/\sv ρ H0 w ret H1 e w') a'.defers .returning w':=by
  intro hq;refine Gr a'.defers w' hs'.dfr (λw'' hm=>?_);have hs2:dO fn.ntmps w.heap.size L' ρ' (rg R') (hg H') {a' with defers:= []} w'':=
   ⟨hs'.size,hs'.regs,λid b hid=>let⟨rb,h1,h2⟩:=hs'.heap id b hid;⟨rb,h1,h2.marks hm⟩,hs'.sep,hs'.fresh,⟨List.Pairwise.nil,λd hd=>by simp at hd,by rw [hm.size];exact hs'.dfr.2.2⟩⟩
  obtain⟨us,v,hrun,hrel,sel,g1,g2,g3,g4,g5⟩:=SU hT hs2 hq;obtain⟨k1,k2⟩:=Hy (R0:= []) (L0:=H1.length) sel (gY g2) g3 trivial g4 g5 hs2;refine⟨v,hrun,ret,H1,hΦ,cu sel ρ',(lM ret g1).2 hrel,k1.heap,k1.sep,k1.fresh,?_⟩;have e1:fT H0.length ρ (hg H0) w ρ' (hg H') w'':=⟨he'.ext,he'.fr.marks hm,he'.own⟩;exact e1.trans k2
 cases e with
 |normal=>exact main hq
 |ret=>exact main hq
 |_=>exact hq.elim
theorem Nn{T:TT}{fn:Func}{c:Code}(h:bp P (·=none) fn.ntmps H0.length c (Ql T fn H0.length Φ) (regs 0 args) H0 H0.length)(hT:fC P T:=by exact dw)(hf:P.funcs[f]?=some fn:=by kernel_rfl)(hb:fn.body=some c:=by exact rfl)(hnm:(fn.name== "runtime.NumGoroutine")=false:=by exact rfl)(hle:Nat.ble args.length fn.ntmps=true:=by exact rfl):fc P f args H0 Φ:=aiy hT hf hb hnm hle h
section
variable {P:Program} {N:Nat} {ops:Array Oper}
theorem Tw{Q:RL->HL->Nat->Prop}{o:Oper}{os:List Oper}{R:RL}{H:HL}{L d f:Nat}{x:Operand}{args:Array Operand}{tys:Array TypeId}{caps zs args0:List SV}(sel:List Nat)(hd:rz N ops=ab)(hc:fc P f args0 H0 Φ)(ho:o.op= .call ⟨.value x,args,tys⟩)(hgp:nU ops o (rg R)=aa ab)(u:o.dst=aa d)(hx:aZ (rg R) x=aa (.fn f caps))(I:args.toList.map (aZ (rg R))=zs.map aa)(x5:bu sel args0=aa (zs++caps))(cx:sel.length=H0.length)(V:iF sel H sel H0)(x7:iA sel 0 sel H0=ab)(h:∀ret H1,Φ ret H1->∃W z,cW (sel++dc L (H1.length-H0.length)) (sel++dc L (H1.length-H0.length)) H0 H1=aa W/\bG (sel++dc L (H1.length-H0.length)) ret=aa z/\qX P N ops Q os ((d,z)::R) (eX H W) (L+(H1.length-H0.length))):qX P N ops Q (o::os) R H L:=by
 refine⟨λrr nn B ρ a w k K hos r hl hK=>?_⟩;have hN:∀(i:Nat) (o:Oper) (d:Nat),ops[i]?=aa o->o.dst=aa d->d<N:=by intro i o d ho u;simp only [rz,jg]at hd;have:=hd o EK;simpa [u]using this
 have e1:ops[k]?=aa o:=by have:=hos 0;simpa using this.symm
 have x0:∀j,os[j]?=ops[k+1+j]?:=λj=>by have:=hos (j+1);simp only [pP]at this;rw [this];congr 1;omega
 rw [jM,List.range'_succ,wpOpsIn_cons];have hw1:=akn r hgp;unfold wpOpIn;simp only [e1,hw1,if_true];refine⟨λ_ _=>trivial,?_⟩;have hR:∀t∈oQ o,∀v,(rg R) t=aa v->av ρ v (a.tmps.getD t undef):=λt _ v hv=>r.regs t v hv
 have hF:∀id∈sel,∀b,hg H id=aa b->∃rb,ρ id=aa rb/\cd ρ w rb b:=λid _ b hb=>r.heap id b hb
 obtain⟨g1,g2,g3⟩:=Lv cx V x7 hF (λi _ j _=>r.sep i j);have h9:=JN ho hx hR;simp only [av]at h9;obtain⟨cs,ha,U⟩:=h9;have hzs:=JM ho I hR;have h6:aD (cu sel ρ) args0 (args.map a.eval++⟨cs⟩:Array Value).toList:=by refine(jH args0 x5).2 ?_;simpa using aD.append hzs U
 have O:CallsIn (Fw rr) (nn-1) P f (args.map a.eval++⟨cs⟩) w _:=hc.call (nn-1) (cu sel ρ) w _ h6 g1 g2 g3;rw [Oper.semAt_eq _ _ _ (by intro c;rw [ho];simp),Tb ho ha hc.fn];refine⟨λh=>(by cases h),?_⟩;refine O.mono ?_;rintro e w' ⟨ret,H1,hΦ,Z⟩;cases e with
 |panicked c=>exact Z.elim
 |outgrown=>exact Z.elim
 |returned v=>
  obtain⟨W,z,hW,hz,hgo⟩:=h ret H1 hΦ;obtain⟨w1,w2,w3,w4,w5⟩:=vJ hW;have F:∀id G,(id,G)∈W->id<L+(H1.length-H0.length)/\(id∉sel->L<=id):=by
   intro id G hm;obtain⟨j,hj,hent⟩:=w3 id G hm;by_cases hjs:j<H0.length
   .rw [gP ag]at hj;obtain⟨b0,x6⟩:=w5 j hjs;obtain⟨s,b,e1,e2,_⟩:=mL V x6;rw [hj]at e1;cases e1;have:=gn hl (by rw [kJ];exact e2:hk H _=aa b);exact⟨ag,λhn=>absurd (jO hj) hn⟩
   .rw [iR ag,vX]at hj;split at hj
    .have:=Option.some.inj hj;exact⟨ag,λ_=>ag⟩
    .cases hj
  obtain⟨ρo,k1,k2⟩:=Jv hl cx V hW hz hF (λid G hm hn=>r.fresh id ((F id G hm).2 hn)) Z;obtain⟨s1,h7⟩:=ajq (o:=o) (e:=⟨⟨o.dst,[],[],W.map (·.1)⟩,aa z,W⟩) (L':=L+(H1.length-H0.length)) rfl (λd hd=>hN k o d e1 hd) r ag (λid G hm=>(F id G hm).1) k1 (rv:=v)
   (λv hv=>by cases hv;exact k2)
  rw [EY rfl,<-wx,<-mK]at s1;rw [<-wx,<-mK]at h7;have hr1:vb R o.dst (aa z)=(d,z)::R:=by rw [u];rfl
  rw [hr1]at s1;exact hgo.run rr nn B _ _ _ (k+1) K x0 s1 (pw ag (λid G hm=>(F id G hm).1)) (λa2 w2 R3 H3 L3 ρ3 hq3 hl3 hs3 h8=>hK a2 w2 R3 H3 L3 ρ3 hq3 hl3 hs3 (h7.trans h8))
end
def Bs(own:Bool)(s:Nat):List Nat->HL->Bool
 |x::xs,aa b::H=>match own||b.own with
  |true=>(match dD x s with|true=>af|false=>Bs own s xs H)
  |false=>Bs own s xs H
 |_::xs,ah::H=>Bs own s xs H
 |_,_=>ab
theorem JA{own:Bool}{s:Nat}:∀{xs:List Nat} {H:HL} {j:Nat} {b:SB},Bs own s xs H=ab->xs[j]?=aa s->hg H j=aa b->(own||b.own)=ab->False
 | [],H,j,b,_,h,_,_=>pM
 |x::xs,[],j,b,_,_,h,_=>sg
 |x::xs,ah::H,j,b,hd,h1,h2,h3=>by
  cases j with
  |zero=>simp [hg]at h2
  |succ j=>exact JA (xs:=xs) (H:=H) (j:=j) hd lv A4 h3
 |x::xs,aa c::H,j,b,hd,h1,h2,h3=>by
  simp only [Bs]at hd;cases j with
  |zero=>
   simp at h1;subst h1;have e:c=b:=A4;subst e;rw [h3]at hd;have:dD x x=ab:=aq;rw [this]at hd;cases hd
  |succ j=>
   refine JA (own:=own) (xs:=xs) (H:=H) (j:=j) ?_ lv A4 h3;split at hd
   .split at hd
    .cases hd
    .exact hd
   .exact hd
def Ac:List Nat->HL->Bool
 |s::ss,aa b::H=>(match Bs b.own s ss H with|true=>Ac ss H|false=>af)
 |_::ss,ah::H=>Ac ss H
 |_,_=>ab
theorem Fx:∀{ss:List Nat} {H:HL} {i j:Nat} {b c:SB} {s:Nat},Ac ss H=ab->ss[i]?=aa s->ss[j]?=aa s->hg H i=aa b->hg H j=aa c->(b.own||c.own)=ab->i<j->False
 | [],H,i,j,b,c,s,_,h,_,_,_,_,_=>pM
 |x::ss,[],i,j,b,c,s,_,_,_,h,_,_,_=>sg
 |x::ss,ah::H,i,j,b,c,s,hd,h1,h2,h3,h4,h5,hij=>by
  cases i with
  |zero=>simp [hg]at h3
  |succ i=>
   cases j with
   |zero=>omega
   |succ j=>exact Fx (ss:=ss) (H:=H) (i:=i) (j:=j) hd lv mY (by simpa [hg]using h3) (by simpa [hg]using h4) h5 ag
 |x::ss,aa d::H,i,j,b,c,s,hd,h1,h2,h3,h4,h5,hij=>by
  simp only [Ac]at hd;split at hd
  .rename_i hn;cases j with
   |zero=>omega
   |succ j=>
    cases i with
    |zero=>
     simp at h1;subst h1;have e:d=b:=by simpa [hg]using h3
     subst e;exact JA hn mY (by simpa [hg]using h4) h5
    |succ i=>exact Fx (ss:=ss) (H:=H) (i:=i) (j:=j) hd lv mY (by simpa [hg]using h3) (by simpa [hg]using h4) h5 ag
  .cases hd
theorem OP{ρ:bw}{H1 U:HL}{w:World}{F:SV}(sel:List Nat)(hl:dD sel.length U.length=ab)(hA:rE sel H0.length=ab)(hr:bG sel F=aa ret)(hH:iF sel H1 sel U)(hd:Ac sel U=ab){e:Ending}{w':World}(h:sv ρ H0 w ret H1 e w'):sv ρ H0 w F U e w':=by
 have hl:=gY hl;cases e with
 |returned v=>
  obtain⟨ρ1,q1,q2,q3,q4,W⟩:=h;refine⟨cu sel ρ1,(lM F hr).2 q1,?_,?_,?_,?_,W.fr,?_⟩
  .intro j b0 hj;obtain⟨s,b,e1,e2,e3⟩:=mL hH hj;obtain⟨rb,hr,hb⟩:=q2 s b e2;exact⟨rb,by simp only [cu,e1];exact hr,(rP e3 hb).1⟩
  .intro i j bi bj ri rj hne hi hj hri G u k o ⟨hfi,V⟩;obtain⟨Z,ci,e1,e2,e3⟩:=mL hH hi;obtain⟨sj,cj,f1,f2,f3⟩:=mL hH hj;simp only [cu,e1]at hri;simp only [cu,f1]at G;obtain⟨O,r,hb⟩:=q2 Z ci e2;rw [hri]at r;cases r;obtain⟨O,r,hb2⟩:=q2 sj cj f2;rw [G]at r;cases r;obtain⟨_,g2,g3⟩:=rP e3 hb;obtain⟨_,g4,g5⟩:=rP f3 hb2;by_cases I:Z=sj
   .subst I;rcases Nat.lt_or_gt_of_ne hne with h|h
    .exact Fx hd e1 f1 hi hj (by rw [u];rfl) h
    .exact Fx hd f1 e1 hj hi (by rw [u,Bool.or_true]) h
   .exact q3 Z sj ci cj ri rj I e2 f2 hri G (g3 u) k o ⟨g2 k o hfi,g4 k o V⟩
  .intro id hid;have:sel[id]?=ah:=dI ag;simp only [cu,this]
  .intro id hid rb hr;simp only [rE,jg,List.mem_range]at hA;have:=hA id hid;split at this
   .rename_i k hk;have e:=gY this;subst e;simp only [cu,hk];exact W.ext _ hid _ hr
   .cases this
  .rintro k o ⟨id,b0,rb,h1,h2,h3,h4⟩;obtain⟨s,b,e1,e2,e3⟩:=mL hH h1;simp only [cu,e1]at h2;obtain⟨O,r,hb⟩:=q2 s b e2;rw [h2]at r;cases r;obtain⟨_,g2,g3⟩:=rP e3 hb;exact W.own k o ⟨s,b,rb,e2,h2,g3 h3,g2 k o h4⟩
 |_=>exact h
theorem bV.fin{H1 u:HL}{r:SV}(h:bV P f args H0 ret H1)(sel:List Nat)(hl:dD sel.length u.length=ab)(hA:rE sel H0.length=ab)(hr:bG sel r=aa ret)(hH:iF sel H1 sel u)(hd:Ac sel u=ab):bV P f args H0 r u:=
 ⟨h.fn,λn ρ w vs a b c d=>(h.call n ρ w vs a b c d).mono λe F hq=>OP sel hl hA hr hH hd hq⟩
theorem fc.fin{Ψ:SV->HL->Prop}(h:fc P f args H0 Φ)(k:∀ret H1,Φ ret H1->∃r u sel,Ψ r u/\dD sel.length u.length=ab/\rE sel H0.length=ab/\bG sel r=aa ret/\iF sel H1 sel u/\Ac sel u=ab):fc P f args H0 Ψ:=
 ⟨h.fn,λn ρ w vs a b c d=>(h.call n ρ w vs a b c d).mono λe F ⟨ret,H1,p,hq⟩=>let⟨r,u,sel,g1,g2,g3,g4,g5,g6⟩:=k ret H1 p;⟨r,u,g1,OP sel g2 g3 g4 g5 g6 hq⟩⟩
open Go.Proofs
abbrev db(m q:Nat)(s:UInt16)(b:Nat)(kid:UInt64)(own:SV):List SV:= [.p m 0,.u16 s,.i (b:Int),.u64 kid,own,.mp q]
structure il where
 p:UInt64
 g:UInt64
 c:UInt64
 d:List UInt8
 f:Bool
def fv(id:Nat):Option il->SV
 |none=> .pnil
 |some _=> .p id 0
def cT(s:UInt16)(b:Nat)(id:Nat):Option il->List SV
 |none=> []
 |some z=>AK s z.p b z.g id z.d.length z.f z.c af
def dG:Option il->List UInt8
 |none=> []
 |some z=>z.d
def fV:Option il->UInt64
 |none=>0
 |some z=>z.p
theorem ve{sel:List Nat}{i j:Nat}(h:sel[i]?=aa j)(s:UInt16)(b:Nat)(z:Option il):bu sel (cT s b i z)=aa (cT s b j z):=by
 cases z with
 |none=>rfl
 |some z=>simp only [cT,bu,bG,h,AK,nZ,oz,jA]
theorem Hv{sel:List Nat}{i j:Nat}(h:sel[i]?=aa j)(s:UInt16)(b:Nat)(z:Option il):cZ sel (.box (cT s b i z))=al (cT s b j z):=by simp only [cZ,ve h s b z]
theorem uV{sel:List Nat}{m u q F i r:Nat}(h1:sel[m]?=aa u)(h2:sel[q]?=aa F)(h3:sel[i]?=aa r)(s:UInt16)(b:Nat)(k:UInt64)(z:Option il):bu sel (db m q s b k (fv i z))=aa (db u F s b k (fv r z)):=by cases z<;>simp only [db,fv,bu,bG,h1,h2,h3]
theorem Gv{sel:List Nat}{m u q F i r:Nat}(h1:sel[m]?=aa u)(h2:sel[q]?=aa F)(h3:sel[i]?=aa r)(s:UInt16)(b:Nat)(k:UInt64)(z:Option il):cZ sel (.box (db m q s b k (fv i z)))=al (db u F s b k (fv r z)):=by simp only [cZ,uV h1 h2 h3 s b k z]
theorem aa4(hM:MV M)(hX:bJ X=ab)(nn:UInt8)(s:UInt8)(g:UInt8)(ep:UInt64):aM 104 [.p 0 0] [an (bA 1 3 M s ab g ep 0),an [],an X,an [.fn 28 [.p 4 0]],an [.u8 nn]] (.tup [.agg [.u8 0,.u8 0,.u8 0,.u8 0,.u8 0,.u8 0,.u8 0,.u8 0,.u8 0,.u8 0,.u8 0,.u8 0,.u8 0,.u8 0,.u8 0,.u8 0,.u64 0,.u8 0,.u8 0,.u64 0,.s []],.b af]) []:=by have q0:=Gu ep 0 s;have q:=FZ [] aw (aP ep 0 s) 0 ⟨bH _,aq,aq⟩ hM hX nn s ab g ep;have r:rF [] (aP ep 0 s) 0=af:=rfl;rw [r]at q;refine Wu ?_;refine zq ?_;exact AY
theorem Ts(hM:MV M)(hX:bJ X=ab)(nn dv g:UInt8)(ep:UInt64)(s:UInt16)(b:Nat)(mo:Obj)(z:Option il):aM 70 [.p 5 0] [an (bA 1 3 M dv ab g ep 0),an [],an X,an [.fn 28 [.p 4 0]],an [.u8 nn],al (db 0 6 s b (fV z) (fv 7 z)),aa (.ext (.lit mo)),al (cT s b 8 z),aC 5 (dG z)] (.tup [.pnil,.i 6]) []:=by have q:=aa4 hM hX nn dv g ep;refine xC ?_;refine zJ ?_;exact bE [0,1,2,3,4,5,6,7,8]
theorem ai4(hn:l.length<1000000){x:Hd}(hx:l[p]?=aa x)(hM:MV M)(hX:bJ X=ab)(nn dv g:UInt8)(ep:UInt64)(hp:oC l (aP ep 0 dv) p)(hk:x.kid=aP ep 0 dv)(s:UInt16)(b:Nat)(mo:Obj)(z:il)(hz:(z.p !=x.kid)=af):aM 70 [.p 5 0] [an (bA 1 3 M dv ab g ep l.length),an (aI l),an X,an [.fn 28 [.p 4 0]],an [.u8 nn],al (db 0 6 s b (fV (aa z)) (fv 7 (aa z))),aa (.ext (.lit mo)),al (cT s b 8 (aa z)),aC 5 (dG (aa z))] (.tup [.p 7 0,.i 0]) []:=by
 have q:=Qe l hn p hx hM hX nn dv g ep hp hk;refine xC ?_;repeat(first|refine zH (df rfl az) ?_|refine zW (bC hz) ?_|refine aS ?_)
 exact bE [0,1,2,3,4,5,6,7,8]
theorem ai5(hn:l.length<1000000){x:Hd}(hx:l[p]?=aa x)(hM:MV M)(hX:bJ X=ab)(nn dv g:UInt8)(ep:UInt64)(hp:oC l (aP ep 0 dv) p)(hk:x.kid=aP ep 0 dv)(h1:1<=s.toNat)(h2:s.toNat<=5)(b:Nat)(hb:b<=16)(hpx:decide (x.kid>bh qZ ((b:Int)).toNat)=af)(r:0<x.key.length)(hl1:x.key.length<=1024)(mo:Obj)(z:Option il)(hz:z=ah\/∃y,z=aa y/\(y.p !=x.kid)=ab):aQ 70 [.p 5 0] [an (bA 1 3 M dv ab g ep l.length),an (aI l),an X,an [.fn 28 [.p 4 0]],an [.u8 nn],al (db 0 6 s b (fV z) (fv 7 z)),aa (.ext (.lit mo)),al (cT s b 8 z),aC 5 (dG z)] (.tup [.p 9 0,.i 0]) [an (bA 1 3 M dv ab g ep l.length),an (aI l),an X,an [.fn 28 [.p 4 0]],an [.u8 nn],al (db 0 6 s b x.kid (.p 9 0)),aa (.ext (.lit mo)),ah,ah,al (cT s b 10 (aa ⟨x.kid,0,0,x.key,af⟩)),aC 5 x.key]:=by
 have q:=Qe l hn p hx hM hX nn dv g ep hp hk;have q2:=λf=>aa5 h1 h2 x.kid b hb hpx x.key r hl1 f
 rcases hz with rfl|⟨y,rfl,hy⟩
 all_goals
  refine xC ?_;repeat(first|refine zH (df rfl az) ?_|refine zW (bl hy) ?_|refine aS ?_)
  refine zW (aE [10] [ab,af,ab] af ((q2 af))) ?_;refine zl ?_;exact bE [0,1,2,3,4,5,6,7,8,11,12]
def br(z:Option il)(x:Hd):il:=match z with|some y=>if(y.p !=x.kid)=ab then⟨x.kid,0,0,x.key,af⟩else y|none=>⟨x.kid,0,0,x.key,af⟩
theorem L4(z:Option il)(x:Hd):(br z x).p=x.kid:=by
 unfold br;split
 .split
  .rfl
  .rename_i h;simpa using h
 .rfl
theorem Tr(hn:l.length<1000000){x:Hd}(hx:l[p]?=aa x)(hM:MV M)(hX:bJ X=ab)(nn dv g:UInt8)(ep:UInt64)(hp:oC l (aP ep 0 dv) p)(hk:x.kid=aP ep 0 dv)(h1:1<=s.toNat)(h2:s.toNat<=5)(b:Nat)(hb:b<=16)(hpx:decide (x.kid>bh qZ ((b:Int)).toNat)=af)(r:0<x.key.length)(hl1:x.key.length<=1024)(mo:Obj)(z:Option il):aQ 70 [.p 5 0] [an (bA 1 3 M dv ab g ep l.length),an (aI l),an X,an [.fn 28 [.p 4 0]],an [.u8 nn],al (db 0 6 s b (fV z) (fv 7 z)),aa (.ext (.lit mo)),al (cT s b 8 z),aC 5 (dG z)] (.tup [.p 9 0,.i 0]) [an (bA 1 3 M dv ab g ep l.length),an (aI l),an X,an [.fn 28 [.p 4 0]],an [.u8 nn],al (db 0 6 s b (br z x).p (.p 9 0)),aa (.ext (.lit mo)),ah,ah,al (cT s b 10 (aa (br z x))),ao 5 ((br z x).d.map .u8)]:=by
 have new:(z=ah\/∃y,z=aa y/\(y.p !=x.kid)=ab)->br z x=⟨x.kid,0,0,x.key,af⟩:=by
  rintro(rfl|⟨y,rfl,hy⟩)
  .rfl
  .unfold br;simp only [hy,if_true]
 by_cases hz:z=ah\/∃y,z=aa y/\(y.p !=x.kid)=ab
 .rw [new hz];exact ai5 hn hx hM hX nn dv g ep hp hk h1 h2 b hb hpx r hl1 mo z hz
 .obtain⟨y,rfl⟩:∃y,z=aa y:=by
   cases z with
   |none=>exact absurd (.inl rfl) hz
   |some y=>exact⟨y,rfl⟩
  have hy:(y.p !=x.kid)=af:=by
   cases h:y.p !=x.kid with
   |true=>exact absurd (.inr ⟨y,rfl,h⟩) hz
   |false=>rfl
  have e:br (aa y) x=y:=by unfold br;simp only [hy];rfl
  rw [e];refine(ai4 hn hx hM hX nn dv g ep hp hk s b mo y hy).fin [0,1,2,3,4,5,6,7,8,7,8] rfl rfl rfl ?_ rfl;exact bU
def mT(s:UInt16)(b:Nat)(y:il):il:=if(y.g==cB b)=ab then y else⟨y.p,g1 y.g,0,ra s y.d,ab⟩
theorem aby(hn:l.length<1000000){x:Hd}(hx:l[p]?=aa x)(hM:MV M)(hX:bJ X=ab)(nn dv g:UInt8)(ep:UInt64)(hp:oC l (aP ep 0 dv) p)(hk:x.kid=aP ep 0 dv)(h1:1<=s.toNat)(h2:s.toNat<=5)(b:Nat)(hb:b<=16)(hpx:decide (x.kid>bh qZ ((b:Int)).toNat)=af)(O:0<x.key.length)(hl1:x.key.length<=1024)(mo:Obj)(z:Option il)(hd0:0<(br z x).d.length)(hd1:(br z x).d.length<=1024):aQ 37 [.p 5 0] [an (bA 1 3 M dv ab g ep l.length),an (aI l),an X,an [.fn 28 [.p 4 0]],an [.u8 nn],al (db 0 6 s b (fV z) (fv 7 z)),aa (.ext (.lit mo)),al (cT s b 8 z),aC 5 (dG z)] (.i (if((br z x).g==cB b)=ab then 150 else 0)) [an (bA 1 3 M dv ab g ep l.length),an (aI l),an X,an [.fn 28 [.p 4 0]],an [.u8 nn],al (db 0 6 s b (mT s b (br z x)).p (.p 9 0)),aa (.ext (.lit mo)),ah,ah,al (cT s b 10 (aa (mT s b (br z x)))),ao 5 ((mT s b (br z x)).d.map .u8)]:=by
 have q:=Tr hn hx hM hX nn dv g ep hp hk h1 h2 b hb hpx O hl1 mo z;obtain⟨y,hy⟩:=ax (br z x);rw [<-hy]at q hd0 hd1|-;obtain⟨F,u,G,r,I⟩:=y;cases e:u==cB b with
 |true=>
  have q2:=abW (s:=s) F b u G af r I e;have e2:mT s b ⟨F,u,G,r,I⟩=⟨F,u,G,r,I⟩:=by unfold mT;simp only [e,if_true]
  simp only [e,if_true];rw [e2];refine NC ?_;refine xZ ?_;refine zW (aE [9,10] [af,ab] ab q2) ?_;exact bE [0,1,2,3,4,5,6,7,8,9,10]
 |false=>
  have q2:=abV h1 h2 F b u G af r hd0 hd1 I e;have e2:mT s b ⟨F,u,G,r,I⟩=⟨F,g1 u,0,ra s r,ab⟩:=by unfold mT;simp only [e];rfl
  have eb:=Fi s r;try simp only [gE,if_false]
  rw [e2];rw [<-eb]at q2;refine NC ?_;refine xZ ?_;refine zW (aE [9,10] [af,ab,ab] ab q2) ?_;exact bE [0,1,2,3,4,5,6,7,8,9,11]
theorem abz(hM:MV M)(hX:bJ X=ab)(nn dv g:UInt8)(ep:UInt64)(s:UInt16)(b:Nat)(mo:Obj)(z:Option il):aQ 37 [.p 5 0] [an (bA 1 3 M dv ab g ep 0),an [],an X,an [.fn 28 [.p 4 0]],an [.u8 nn],al (db 0 6 s b (fV z) (fv 7 z)),aa (.ext (.lit mo)),al (cT s b 8 z),aC 5 (dG z)] (.i 6) [an (bA 1 3 M dv ab g ep 0),an [],an X,an [.fn 28 [.p 4 0]],an [.u8 nn],al (db 0 6 s b (fV z) (fv 9 z)),aa (.ext (.lit mo)),ah,ah,al (cT s b 10 z),aC 5 (dG z)]:=by
 have q:=Ts hM hX nn dv g ep s b mo z;refine bV.fin (H1:= [an (bA 1 3 M dv ab g ep 0),an [],an X,an [.fn 28 [.p 4 0]],an [.u8 nn],al (db 0 6 s b (fV z) (fv 7 z)),aa (.ext (.lit mo)),al (cT s b 8 z),aC 5 (dG z)]) ?_ [0,1,2,3,4,5,6,7,8,7,8] rfl rfl rfl ?_ rfl
 .skip
  refine NC ?_;refine WB ?_;exact bE [0,1,2,3,4,5,6,7,8]
 .skip
  exact bU
theorem abu(hn:l.length<1000000){x:Hd}(hx:l[p]?=aa x)(hM:MV M)(hX:bJ X=ab)(nn dv g:UInt8)(ep:UInt64)(hp:oC l (aP ep 0 dv) p)(hk:x.kid=aP ep 0 dv)(h1:1<=s.toNat)(h2:s.toNat<=5)(b:Nat)(hb:b<=16)(hpx:decide (x.kid>bh qZ ((b:Int)).toNat)=af)(G:0<x.key.length)(hl1:x.key.length<=1024)(mo:Obj)(z:Option il)(hd0:0<(br z x).d.length)(hd1:(br z x).d.length<=1024)(hc:((br z x).c+aF (aU 1)==aF (aU 0))=af)(P:List UInt8)(hP:P.length<=65536)(O:Bool):aQ 34 [.p 5 0,.slnil,.sl 9 0 P.length 1 O] [an (bA 1 3 M dv ab g ep l.length),an (aI l),an X,an [.fn 28 [.p 4 0]],an [.u8 nn],al (db 0 6 s b (fV z) (fv 7 z)),aa (.ext (.lit mo)),al (cT s b 8 z),aC 5 (dG z),ak P] (.tup [.sl 12 0 ((bF (aV x.kid b (br z x).g) (br z x).c).length+(P.length+dH s)) 1 af,.i 0]) [an (bA 1 3 M dv ab g ep l.length),an (aI l),an X,an [.fn 28 [.p 4 0]],an [.u8 nn],al (db 0 6 s b (br z x).p (.p 10 0)),aa (.ext (.lit mo)),ah,ah,ak P,al (cT s b 11 (aa {br z x with c:=(br z x).c+aF (aU 1)})),ao 5 ((br z x).d.map .u8),aC 5 (bF (aV x.kid b (br z x).g) (br z x).c++mA s (dR s (aV x.kid b (br z x).g) (br z x).d) (bf (dP s (aV x.kid b (br z x).g) (br z x).d) (br z x).c) (bF (aV x.kid b (br z x).g) (br z x).c) P)]:=by have q:=Tr hn hx hM hX nn dv g ep hp hk h1 h2 b hb hpx G hl1 mo z;have ep2:=L4 z x;obtain⟨y,hy⟩:=ax (br z x);rw [<-hy]at q hd0 hd1 hc ep2|-;rw [<-ep2];obtain⟨u,r,F,I,U⟩:=y;have q2:=abR h1 h2 u b r F I P hd0 hd1 hP U O;dsimp only at hc;rw [hc]at q2;dsimp only;obtain⟨B,hB⟩:=ax (bF (aV u b r) F++mA s (dR s (aV u b r) I) (bf (dP s (aV u b r) I) F) (bF (aV u b r) F) P);rw [<-hB]at q2|-;obtain⟨n,hn⟩:=ax ((bF (aV u b r) F).length+(P.length+dH s));rw [<-hn]at q2|-;refine aL (fn:=Tryz.f34) ?_;refine xZ ?_;refine zW (aE [10,11,9] [af,ab,ab,ab] af q2) ?_;exact bE [0,1,2,3,4,5,6,7,8,9,10,11,12]
theorem abw(hM:MV M)(hX:bJ X=ab)(nn dv g:UInt8)(ep:UInt64)(s:UInt16)(b:Nat)(mo:Obj)(z:Option il)(P:List UInt8)(r:Bool):aM 34 [.p 5 0,.slnil,.sl 9 0 P.length 1 r] [an (bA 1 3 M dv ab g ep 0),an [],an X,an [.fn 28 [.p 4 0]],an [.u8 nn],al (db 0 6 s b (fV z) (fv 7 z)),aa (.ext (.lit mo)),al (cT s b 8 z),aC 5 (dG z),ak P] (.tup [.slnil,.i 6]) []:=by have q:=Ts hM hX nn dv g ep s b mo z;refine aL (fn:=Tryz.f34) ?_;refine WB ?_;exact EA
end Go.Sh
