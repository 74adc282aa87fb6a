/- Merged for a claim: Sh1, Sh2, Sh3, Sh4, Sh5, Sh6, Sh7, Sh8, Sh9, Sh10, Sh11. -/
import Derived.Test.YtkahaemiigimcaaGreatFm0
set_option linter.unusedSimpArgs false
set_option linter.unusedVariables false
open Option renaming some->aa,none->ah,bind_eq_some_iff->j0,map_some->nq,map_eq_some_iff->so,bind_some->ur
open Bool renaming true->ab,false->af,false_eq_true->gE,eq_iff_iff->jq,or_eq_true->oy,not_false->wP
open List renaming take->aB,drop->aG,replicate->aK,length_append->aW,take_of_length_le->bW,drop_zero->cq,range->cQ,length_map->dm,getElem?_eq_getElem->dy,getElem?_eq_some_iff->dA,getElem?_eq_none->dI,map_append->dU,length_take->eZ,length_drop->fQ,mem_cons->gy,lookup_cons->gJ,getElem?_append_left->gP,getElem?_take_of_lt->ic,append_assoc->iw,getElem?_append_right->iR,getElem?_drop->iS,map_cons->iT,map_take->iU,all_eq_true->jg,nil_append->jA,length_cons->jM,mem_cons_of_mem->jN,mem_of_getElem?->jO,ext_getElem?->ku,getElem?_map->ky,mem_singleton->lx,take_length->ly,mem_append->mu,mem_map->mw,drop_drop->ng,take_append_drop->nJ,take_take->nK,cons_append->oz,map_drop->o0,getElem?_cons_succ->pP,getElem?_set->pQ,map_nil->qR,mem_of_mem_take->qS,drop_take->sX,getElem?_toArray->sY,take_left->sZ,eq_nil_of_length_eq_zero->ug,getElem?_cons_zero->uh,take_left'->vz,lookup_nil->vB,getElem?_range->wR,take_zero->wT,take_succ_eq_append_getElem->Bc
open UInt64 renaming ofNat->aF,toNat_inj->dJ,lt_iff_toNat_lt->gh,toNat_ofNat'->j5,toNat_add->lY,toNat_div->nL,toNat_mod->nM,le_iff_toNat_le->oA,toNat_toUInt8->oB,toNat_shiftRight->sr,toNat_mul->uu,toNat_shiftLeft->uv
open And renaming intro->aJ
open Nat renaming le_refl->bH,beq->dD,ble->eU,mul_one->fS,mod_eq_of_lt->gq,zero_add->ig,mul_le_mul_right->iV,min_eq_left->jt,le_trans->jP,add_mul->nh,shiftLeft_eq->nk,shiftRight_eq_div_pow->np,sub_self->pR,add_zero->qT,add_assoc->sn,min_eq_right->um,zero_mul->uq,div_eq_of_lt->vD
open Go.Sem renaming run_bind->bM,run_pure->bZ
open Go.Result renaming andThen_ok->bQ,andThen->pd
open UInt8 renaming ofNat->cX,toNat_inj->my,toNat_ofNat'->nN,toNat_toUInt64->qU
open Array renaming getD_eq_getD_getElem?->ib,getElem?_eq_some_iff->jL,getElem?_toList->lU,getElem?_setIfInBounds_ne->nI,getElem?_eq_getElem->pO,length_toList->qN,replicate->sW,ext_getElem?->vy,getElem?_modify->Ba,getElem?_setIfInBounds_self_of_lt->Bb
open Int renaming toNat_natCast->mq
open Go.Value renaming int->su
open BitVec renaming ofInt->ue
open UInt16 renaming ofNat->wV
open UInt32 renaming toNat_ofNat'->Bd
namespace Go.Sh
variable{parts:Array (Nat×Operand)}{op:BinOp}{full full2 g ne r:Bool}{Q:Exit->Act->World->Prop}{yk:IntKind}{F ks:List Nat}{news vs:List Value}{blk by_ d id k len m nid off sz t1 xT:Nat}{fz:Nat×Nat}{S:Nat->Nat->Prop}{o:Oper}{y:Operand}{e:Operand->Value}{a:Option Addr}{hi lo:Option Operand}{P:Program}{dx:TypeDesc}{t:TypeId}{i:TypeInfo}{u v:Value}{w:World}
structure Ob(Q:Prop):Prop where
 a:Q
theorem bU{p:Prop}(h:p:=by(repeat'(first|refine And.intro ?_ ?_|exact trivial|exact aY hX rfl|exact aY (cY _) hap|exact hM _ rfl|exact uU (hM _ rfl) rfl rfl|exact wc _ hxB|exact aY (cY _) hcat|exact aY hBp rfl|exact aY (cY _) hap4|exact aY (Su _) hap|exact aY (cY _) happ.symm|exact aY (by first|(simp;done)|fail) (by rfl)|rfl|exact qA _ _|exact qB _ _|exact uV rfl rfl rfl _ _ _ _|exact ve rfl _ _ _|exact uU rfl rfl rfl|exact aY (uN _) rfl|exact jc _ (cY _)|exact aY (ajA _) rfl|exact(by exact Hn rfl rfl _ _ _)|exact sM|exact Dz rfl rfl rfl _|exact Dy rfl rfl rfl _|exact afc j|exact afb j|exact aY (GG _ _) rfl|exact tU|exact tV|exact rS|exact aY (u5 _) rfl|exact(by first|exact Hn rfl rfl _ _ _|exact jV rfl _ _ _ _ _ _ _ _ _|fail)|exact iQ rfl (by first|(simp;done)|fail) (by first|(simp;done)|fail)|exact aY (cY _) (YG rfl lX)|exact(by exact jV rfl _ _ _ _ _ _ _ _ _)|exact aY (GG _ _) (afn _ _ _ rfl)|(refine wA ?_)|(refine pJ ?_)|(refine dM ?_ ?_)))<;>first|exact aY (by first|(simp;done)|fail) (by rfl)|rfl|exact ke (by first|(simp;done)|fail) (by rfl) rfl|exact kb _ (by first|(simp;done)|fail)|exact qA _ _|exact gw rfl|exact dh (by first|exact hp|exact hp.symm|fail)|exact qB _ _|exact aY hX rfl|exact ve rfl _ _ _|exact uU (hM _ rfl) rfl rfl|exact uV rfl rfl rfl _ _ _ _|exact uU rfl rfl rfl|exact dh (by exact hp1.symm)|exact gw (by rfl)|exact jc _ (cY _)|exact dh (by first|exact hp1|exact hp1.symm|fail)|exact nG (by exact hpw)|exact aha (by first|(simp;done)|fail) rfl|exact aY (uN _) rfl|exact dh (by first|(simp [ew];done)|fail)|exact aY (by first|(simp;done)|fail) rfl|exact dh (by first|rfl|exact hp1.symm|fail)|exact dh (by exact hp2.symm)|exact ahb rfl _ _ _ _|exact ahA rfl _ _ _ _|exact gw (by first|exact hst|exact hst.symm|fail)|exact dh (by exact hw2.symm)|exact lr (by exact hs.symm)|exact Dz rfl rfl rfl _|exact Dy rfl rfl rfl _|exact dh (by first|exact hw|exact hw.symm|fail)|exact oa (qB _ _)|exact oa (qA _ _)|exact oa (aY (uN _) rfl)|exact oa (jc _ (cY _))|exact Ca (uV rfl rfl rfl _ _ _ _)|exact Ca (ve rfl _ _ _)|exact iQ rfl (by rfl) (by exact hDn.symm)|exact dh (by first|exact hp2|exact hp2.symm|fail)|exact(by exact jV rfl _ _ _ _ _ _ _ _ _)|exact(by first|exact ahc rfl _ _ _ _ _ _ _ _ _)|exact(by exact Hn rfl rfl _ _ _)|exact(by first|exact ahd rfl rfl _ _ _)|exact DP (by rfl)|exact gw (by exact hz)|exact aY (by first|(simp;done)|fail) (by first|rfl|exact happ.symm|fail)|exact gw (by exact hw4)|exact K0 rfl rfl rfl|exact kb _ (jG _)|exact DO (by rfl)|exact lr (by first|exact hul|exact hul.symm|fail)|exact dh (by exact hp)|exact dh (by first|exact hnk.symm|exact hnc.symm|fail)|exact lr (by first|exact i1.symm|exact i2.symm|fail)|exact dh (by exact hw3.symm)|exact sM|exact rS|exact tU|exact tV|exact ke (by first|rfl|(simp;done)|fail) (by first|rfl|(simp;done)|fail) rfl|exact Gv rfl rfl rfl _ _ _ _|exact Hv rfl _ _ _|exact .inl rfl|exact .inr (.inl rfl)|exact .inr (.inl (jG _))|exact .inr (.inl (cY _))|exact .inr (.inr rfl)|exact LD (qB _ _)|exact AT (by first|(simp;done)|fail)|exact gw (by first|exact hs|exact hs.symm|fail)|exact gw (by first|exact hfin|exact hfin.symm|fail)|exact gw (by exact hw0)|exact aY (cY _) htk2|exact iQ rfl (by rfl) (by exact hal)|exact iQ rfl (by rfl) (by exact hcn.symm)|exact K0 (hM _ rfl) rfl rfl|exact .inr (.inr (Gv rfl rfl rfl _ _ _ _))|exact .inr (.inr (Hv rfl _ _ _))|exact kb _ (GG _ _)):p:=h
structure RB where
 blk:Nat
 off:Nat
 cap:Nat
 virt:Bool
variable{rb:RB}
inductive SV where
 |i (n:Int)
 |u8 (x:UInt8)
 |u16 (x:UInt16)
 |u32 (x:UInt32)
 |u64 (x:UInt64)
 |b (x:Bool)
 |s (l:List UInt8)
 |p (id off:Nat)
 |pnil
 |sl (id o n sz:Nat) (full:Bool)
 |slnil
 |fnil
 |fn (f:Nat) (cap:List SV)
 |yld (id:Nat)
 |mp (id:Nat)
 |mnil
 |agg (l:List SV)
 |tup (l:List SV)
 |lit (v:Value)
 |slc (id o n c sz:Nat)
 |lp (r o:Nat)
 |ifc (t id o:Nat)
 |inil
 deriving Inhabited
variable{l xs ys:List SV}{z:SV}
def SV.atom:SV->Bool
 | .agg _=>af
 | .tup _=>af
 |_=>ab
def cw(l:List SV):Bool:=l.all SV.atom
abbrev bw:=Nat->Option RB
variable{ρ:bw}
mutual
def av(ρ:bw):SV->Value->Prop
 | .i n,v=>v= .int .i64 n
 | .u8 x,v=>v= .int .u8 (x.toNat:Int)
 | .u16 x,v=>v= .int .u16 (x.toNat:Int)
 | .u32 x,v=>v= .int .u32 (x.toNat:Int)
 | .u64 x,v=>v= .int .u64 (x.toNat:Int)
 | .b x,v=>v= .bool x
 | .s l,v=>v= .string ⟨⟨l⟩⟩
 | .p id off,v=>∃rb,ρ id=aa rb/\v= .pointer (aa ⟨rb.blk,rb.off+off,ah⟩)
 | .pnil,v=>v= .pointer ah
 | .sl id o n sz full,v=>∃rb a c,ρ id=aa rb/\v= .slice a n c/\n<=c/\(full=ab->c=n)/\
   (c=0\/(rb.virt=af/\a=aa ⟨rb.blk,rb.off+o,ah⟩/\o+c*sz<=rb.cap))
 | .slc id o n c sz,v=>∃rb a k,ρ id=aa rb/\v= .slice a n k/\n<=c/\k=c/\
   (k=0\/(rb.virt=af/\a=aa ⟨rb.blk,rb.off+o,ah⟩/\o+k*sz<=rb.cap))
 | .slnil,v=>v= .slice ah 0 0
 | .fnil,v=>v= .nilFunc
 | .fn f cap,v=>∃cs,v= .func (.func f) #[] ⟨cs⟩/\aD ρ cap cs
 | .yld id,v=>∃rb,ρ id=aa rb/\v= .func (.yield rb.blk) #[] #[]
 | .mp id,v=>∃rb,ρ id=aa rb/\v= .map (aa rb.blk)
 | .mnil,v=>v= .map ah
 | .lp r o,v=>v= .pointer (aa ⟨r,o,ah⟩)
 | .inil,v=>v= .nilIface
 | .ifc t id o,v=>∃rb,ρ id=aa rb/\v= .iface t (.pointer (aa ⟨rb.blk,rb.off+o,ah⟩))
 | .lit u,v=>v=u/\∃a n c,u= .slice a n c
 | .agg l,v=>∃cs,v= .agg ⟨cs⟩/\cw l=ab/\aD ρ l cs
 | .tup l,v=>∃cs,v= .tuple ⟨cs⟩/\aD ρ l cs
def aD(ρ:bw):List SV->List Value->Prop
 | [],vs=>vs= []
 |x::xs,vs=>∃y ys,vs=y::ys/\av ρ x y/\aD ρ xs ys
end
def fK(ρ ρ':bw):Prop:=∀id rb,ρ id=aa rb->ρ' id=aa rb
theorem fK.refl(ρ:bw):fK ρ ρ:=λ_ _ h=>h
theorem fK.trans{a b c:bw}(h:fK a b)(k:fK b c):fK a c:=λi r e=>k i r (h i r e)
mutual
theorem av.ext{ρ ρ':bw}(h:fK ρ ρ'):∀(x:SV) {v:Value},av ρ x v->av ρ' x v
 | .i _,_,k=>pL
 | .u8 _,_,k=>pL
 | .u16 _,_,k=>pL
 | .u32 _,_,k=>pL
 | .u64 _,_,k=>pL
 | .b _,_,k=>pL
 | .s _,_,k=>pL
 | .pnil,_,k=>pL
 | .slnil,_,k=>pL
 | .fnil,_,k=>pL
 | .mnil,_,k=>pL
 | .lp _ _,_,k=>pL
 | .inil,_,k=>pL
 | .ifc t id off,v,k=>by
  simp only [av]at k|-;obtain⟨rb,hr,e⟩:=k;exact⟨rb,h _ _ hr,e⟩
 | .lit _,_,k=>pL
 | .p id off,v,k=>by
  simp only [av]at k|-;obtain⟨rb,hr,e⟩:=k;exact⟨rb,h _ _ hr,e⟩
 | .sl id o n sz full,v,k=>by
  simp only [av]at k|-;obtain⟨rb,a,c,hr,e⟩:=k;exact⟨rb,a,c,h _ _ hr,e⟩
 | .slc id o n c sz,v,k=>by
  simp only [av]at k|-;obtain⟨rb,a,c,hr,e⟩:=k;exact⟨rb,a,c,h _ _ hr,e⟩
 | .yld id,v,k=>by
  simp only [av]at k|-;obtain⟨rb,hr,e⟩:=k;exact⟨rb,h _ _ hr,e⟩
 | .mp id,v,k=>by
  simp only [av]at k|-;obtain⟨rb,hr,e⟩:=k;exact⟨rb,h _ _ hr,e⟩
 | .fn f cap,v,k=>by
  simp only [av]at k|-;obtain⟨cs,e,hr⟩:=k;exact⟨cs,e,aD.ext h cap hr⟩
 | .agg l,v,k=>by
  simp only [av]at k|-;obtain⟨cs,e,ha,hr⟩:=k;exact⟨cs,e,ha,aD.ext h l hr⟩
 | .tup l,v,k=>by
  simp only [av]at k|-;obtain⟨cs,e,hr⟩:=k;exact⟨cs,e,aD.ext h l hr⟩
theorem aD.ext{ρ ρ':bw}(h:fK ρ ρ'):∀(xs:List SV) {vs:List Value},aD ρ xs vs->aD ρ' xs vs
 | [],_,k=>by simpa only [aD]using k
 |x::xs,vs,k=>by
  simp only [aD]at k|-;obtain⟨y,ys,e,hy,hys⟩:=k;exact⟨y,ys,e,av.ext h x hy,aD.ext h xs hys⟩
end
theorem aD.nil_iff:aD ρ [] vs↔vs= []:=by simp only [aD]
theorem aD.cons_iff{x:SV}:aD ρ (x::xs) (v::vs)↔av ρ x v/\aD ρ xs vs:=by
 simp only [aD];constructor
 .rintro⟨y,ys,e,hy,G⟩;cases e;exact⟨hy,G⟩
 .rintro⟨hy,G⟩;exact⟨v,vs,rfl,hy,G⟩
theorem aD.cons{x:SV}(h:av ρ x v)(k:aD ρ xs vs):aD ρ (x::xs) (v::vs):=aD.cons_iff.2 ⟨h,k⟩
theorem aD.length{ρ:bw}:∀{xs:List SV} {vs:List Value},aD ρ xs vs->vs.length=xs.length
 | [],vs,h=>by rw [aD.nil_iff]at h;subst h;rfl
 |x::xs,vs,h=>by
  simp only [aD]at h;obtain⟨y,ys,rfl,_,G⟩:=h;simp [aD.length G]
theorem aD.get{ρ:bw}:∀{xs:List SV} {vs:List Value},aD ρ xs vs->∀{k:Nat} {x:SV},xs[k]?=aa x->∃v,vs[k]?=aa v/\av ρ x v
 | [],_,_,k,x,hx=>by simp at hx
 |y::ys,vs,h,k,x,hx=>by
  simp only [aD]at h;obtain⟨v,I,rfl,hy,G⟩:=h;cases k with
  |zero=>simp at hx;subst hx;exact⟨v,rfl,hy⟩
  |succ k=>simp at hx;obtain⟨u,hu,hr⟩:=aD.get G hx;exact⟨u,by simpa using hu,hr⟩
theorem aD.append{ρ:bw}:∀{xs ys:List SV} {vs us:List Value},aD ρ xs vs->aD ρ ys us->aD ρ (xs++ys) (vs++us)
 | [],ys,vs,us,h,k=>by rw [aD.nil_iff]at h;subst h;simpa using k
 |x::xs,ys,vs,us,h,k=>by
  simp only [aD]at h;obtain⟨v,I,rfl,hy,G⟩:=h;exact aD.cons hy (aD.append G k)
theorem aD.take{ρ:bw}:∀{xs:List SV} {vs:List Value} (n:Nat),aD ρ xs vs->aD ρ (xs.take n) (vs.take n)
 | [],vs,n,h=>N6
 |x::xs,vs,n,h=>by
  simp only [aD]at h;obtain⟨v,I,rfl,hy,G⟩:=h;cases n with
  |zero=>simp [aD]
  |succ n=>exact aD.cons hy (aD.take n G)
theorem aD.drop{ρ:bw}:∀{xs:List SV} {vs:List Value} (n:Nat),aD ρ xs vs->aD ρ (xs.drop n) (vs.drop n)
 | [],vs,n,h=>N6
 |x::xs,vs,n,h=>by
  have h0:=h;simp only [aD]at h;obtain⟨v,I,rfl,hy,G⟩:=h;cases n with
  |zero=>simpa using h0
  |succ n=>simpa using aD.drop n G
theorem aD.set{ρ:bw}:∀{xs:List SV} {vs:List Value} {k:Nat} {x:SV} {v:Value},aD ρ xs vs->av ρ x v->aD ρ (xs.set k x) (vs.set k v)
 | [],vs,k,x,v,h,_=>N6
 |y::ys,vs,k,x,v,h,hx=>by
  simp only [aD]at h;obtain⟨u,I,rfl,hy,G⟩:=h;cases k with
  |zero=>exact aD.cons hx G
  |succ k=>exact aD.cons hy (aD.set G hx)
theorem aD.replicate{ρ:bw}{x:SV}{v:Value}(h:av ρ x v):∀n,aD ρ (aK n x) (aK n v)
 |0=>by simp [aD]
 |n+1=>aD.cons h (aD.replicate h n)
theorem av.oneCell{x:SV}(h:av ρ x v)(G:x.atom=ab):v.oneCell'=ab:=by cases x<;>simp only [av,SV.atom]at h G<;>first|(obtain⟨rfl,_,_,_,rfl⟩:=h;rfl)|(subst h;rfl)|(obtain⟨_,_,rfl⟩:=h;rfl)|(obtain⟨_,rfl,_⟩:=h;rfl)|(obtain⟨_,_,_,_,rfl,_⟩:=h;rfl)|exact absurd G aw
theorem av.cells{x:SV}(h:av ρ x v)(G:x.atom=ab):v.cells= #[v]:=by cases x<;>simp only [av,SV.atom]at h G<;>first|(obtain⟨rfl,_,_,_,rfl⟩:=h;rfl)|(subst h;rfl)|(obtain⟨_,_,rfl⟩:=h;rfl)|(obtain⟨_,rfl,_⟩:=h;rfl)|(obtain⟨_,_,_,_,rfl,_⟩:=h;rfl)|exact absurd G aw
theorem aD.oneCell{ρ:bw}:∀{xs:List SV} {vs:List Value},aD ρ xs vs->cw xs=ab->∀v∈vs,v.oneCell'=ab
 | [],vs,h,_,v,hv=>by rw [aD.nil_iff]at h;subst h;simp at hv
 |x::xs,vs,h,ha,v,hv=>by
  simp only [aD]at h;obtain⟨u,I,rfl,hy,G⟩:=h;simp [cw]at ha;rcases gy.1 hv with rfl|hv
  .exact hy.oneCell ha.1
  .exact aD.oneCell G (by simpa [cw]using ha.2) v hv
theorem av.slc_sl{o n c:Nat}(h:av ρ (.slc id o n c sz) v):av ρ (.sl id o n sz af) v:=by simp only [av]at h|-;obtain⟨rb,a,k,h1,h2,h3,h4,h5⟩:=h;exact⟨rb,a,k,h1,h2,ag,λh=>(by cases h),h5⟩
def SV.cells:SV->List SV
 | .agg l=>l
 |v=> [v]
theorem av.cells_rel{x:SV}(h:av ρ x v)(ht:∀l,x≠ .tup l):aD ρ x.cells v.cells.toList/\cw x.cells=ab:=by
 by_cases G:x.atom=ab
 .rw [h.cells G];have:x.cells= [x]:=by cases x<;>first|rfl|(simp [SV.atom]at G)
  rw [this];exact⟨aD.cons h (aD.nil_iff.2 rfl),by simpa [cw]using G⟩
 .cases x<;>simp only [SV.atom,not_true_eq_false]at G
  .simp only [av]at h;obtain⟨cs,rfl,hl,hr⟩:=h;exact⟨hr,hl⟩
  .exact absurd rfl (ht _)
inductive OB where
 |loop (R:List (Nat×SV)) (N:Nat) (ps:List Nat) (assign body:Code)
 |pend (c:Code)
structure FE where
 v:Value
 rb:RB
 n:Nat
 sz:Nat
 cells:List SV
structure AE where
 r:Nat
 off:Nat
 cells:List SV
def AE.foot(e:AE)(k o:Nat):Prop:=k=e.r/\e.off<=o/\o<e.off+e.cells.length
inductive YB where
 |fam (l:List FE)
 |lit (o:Obj)
 |locd (r:Nat) (o:Obj)
 |ar (l:List AE) (fs:List FE)
 |nm
def YB.own:YB->Bool
 | .fam _=>af
 | .lit _=>ab
 | .locd _ _=>ab
 | .ar _ _=>ab
 | .nm=>af
inductive SB where
 |row (t:Nat) (cells:List SV)
 |box (cells:List SV)
 |ro (cells:List SV)
 |obj (y:OB)
 |ext (y:YB)
variable{b:SB}
def SB.own:SB->Bool
 | .ro _=>af
 | .ext y=>y.own
 |_=>ab
abbrev cG:=Nat->Option SB
def pZ(e:FE)(k o:Nat):Prop:=k=e.rb.blk/\e.rb.off<=o/\o<e.rb.off+e.cells.length
def YB.foot(rb:RB):YB->Nat->Nat->Prop
 | .fam l,k,o=>∃e,e∈l/\k=e.rb.blk/\e.rb.off<=o/\o<e.rb.off+e.cells.length
 | .lit _,k,_=>k=rb.blk
 | .locd _ _,k,_=>k=rb.blk
 | .ar l fs,k,o=>(∃e,e∈l/\e.foot k o)\/∃e,e∈fs/\pZ e k o
 | .nm,_,_=>False
def foot(rb:RB):SB->Nat->Nat->Prop
 | .row _ _,k,o=>rb.virt=af/\k=rb.blk/\rb.off<=o
 | .box l,k,o=>k=rb.blk/\rb.off<=o/\o<rb.off+l.length
 | .ro l,k,o=>k=rb.blk/\rb.off<=o/\o<rb.off+l.length
 | .obj _,k,_=>k=rb.blk
 | .ext y,k,o=>y.foot rb k o
def l8(t:Nat)(c:Array Value)(fz:Nat×Nat):Prop:=fz=(0,0)\/(t=5/\c.size<=fz.1)
def kY(ρ:bw)(w:World)(blk off:Nat)(cells:List SV)(G:Bool):Prop:=
 ∃c t fz,w.heap[blk]?=aa (.cells c t fz)/\cw cells=ab/\aD ρ cells ((c.toList.drop off).take cells.length)/\(G=ab->l8 t c fz)/\off+cells.length<=c.size
def qW(ρ:bw)(R:List (Nat×SV))(tmps:Array Value):Prop:=∀t v,R.lookup t=aa v->av ρ v (tmps.getD t undef)
def mz(ρ:bw)(w:World)(blk:Nat):OB->Prop
 | .loop R N ps assign body=>∃r:Loop,w.heap[blk]?=aa (.loop r)/\r.state= .ready/\r.pending=ah/\r.params=⟨ps⟩/\r.assign=assign/\r.body=body/\r.tmps.size=N/\qW ρ R r.tmps
 | .pend c=>∃r:Loop,w.heap[blk]?=aa (.loop r)/\r.state= .done/\r.pending=aa c
def jT:Obj->Nat
 | .loop _=>1
 | .map .. =>2
 | .mapIter .. =>3
 |_=>0
def jQ(w:World)(e:FE):Prop:=
 (∃a c,e.v= .slice a e.n c/\e.n<=c/\(c=0\/(e.rb.virt=af/\a=aa ⟨e.rb.blk,e.rb.off,ah⟩/\c*e.sz<=e.rb.cap)))/\
 (e.cells= []\/(kY (λ_=>ah) w e.rb.blk e.rb.off e.cells af/\e.cells.length<=e.rb.cap/\e.rb.virt=af))
def tl(w:World)(rb:RB):YB->Prop
 | .fam l=>∀e,e∈l->jQ w e
 | .lit o=>(2<=jT o/\rb.off=0)/\w.heap[rb.blk]?=aa o
 | .locd r o=>(2<=jT o/\rb.off=0/\rb.blk=r)/\w.heap[rb.blk]?=aa o
 | .ar l fs=>((∀e,e∈l->kY (λ_=>ah) w e.r e.off e.cells ab)/\l.Pairwise λa b=>∀k o,¬(a.foot k o/\b.foot k o))/\(∀e,e∈fs->jQ w e)/\∀a,a∈l->∀e,e∈fs->∀k o,¬(a.foot k o/\pZ e k o)
 | .nm=>True
def cd(ρ:bw)(w:World)(rb:RB):SB->Prop
 | .obj y=>mz ρ w rb.blk y
 | .ext y=>tl w rb y
 | .ro l=>l= []\/(kY ρ w rb.blk rb.off l af/\l.length<=rb.cap/\rb.virt=af)
 | .box l=>kY ρ w rb.blk rb.off l ab/\l.length<=rb.cap/\rb.virt=af
 | .row t l=>(rb.virt=ab/\l= [])\/(rb.virt=af/\∃c fz,w.heap[rb.blk]?=aa (.cells c t fz)/\l8 t c fz/\c.size=rb.off+rb.cap/\cw l=ab/\
   aD ρ l ((c.toList.drop rb.off).take l.length)/\l.length<=rb.cap)
def iX(ρ:bw)(H:cG)(w:World):Prop:=∀id b,H id=aa b->∃rb,ρ id=aa rb/\cd ρ w rb b
def l7(ρ:bw)(H:cG):Prop:=∀i j bi G ri I,i≠j->H i=aa bi->H j=aa G->ρ i=aa ri->ρ j=aa I->bi.own=ab->
 ∀k o,¬(foot ri bi k o/\foot I G k o)
def dV(ρ:bw)(H:cG)(k o:Nat):Prop:=∃id b rb,H id=aa b/\ρ id=aa rb/\b.own=ab/\foot rb b k o
def lz(S:Nat->Prop):Obj->Option Obj->Prop
 | .cells c t fz,o=>∃(G:Array Value) (fz':Nat×Nat),o=aa (.cells G t fz')/\G.size=c.size/\(fz'=fz\/((∃j,S j)/\(l8 t c fz->l8 t G fz')))/\∀j,¬S j->G[j]?=c[j]?
 |x,o=>o=aa x\/((∃j,S j)/\jT x≠0/\∃y,o=aa y/\jT y=jT x)
structure Fr(S:Nat->Nat->Prop)(w w':World):Prop where
 os:w'.os=w.os
 tape:w'.tape=w.tape
 output:w'.output=w.output
 size:w.heap.size<=w'.heap.size
 blk:∀k o,w.heap[k]?=aa o->lz (S k) o w'.heap[k]?
theorem l8.same{t:Nat}{c G:Array Value}(h:l8 t c fz)(hs:G.size=c.size):l8 t G fz:=by unfold l8 at*;rw [hs];exact h
theorem lz.refl(S:Nat->Prop)(x:Obj):lz S x (aa x):=by cases x<;>first|exact⟨_,_,rfl,rfl,.inl rfl,λ_ _=>rfl⟩|exact .inl rfl
theorem lz.same{S:Nat->Prop}{x:Obj}{o:Option Obj}(h:lz S x o)(hS:∀j,¬S j):o=aa x:=by
 cases x with
 |cells cc t fz=>
  obtain⟨G,f1,e1,s1,hf,g1⟩:=h;have:G=cc:=vy (λj=>g1 j (hS j));rcases hf with rfl|⟨⟨j,hj⟩,_⟩
  .rw [e1,this]
  .exact absurd hj (hS j)
 |_=>
  rcases h with h|⟨⟨j,hj⟩,_⟩
  .exact h
  .exact absurd hj (hS j)
theorem lz.fixed{S:Nat->Prop}{x:Obj}{o:Option Obj}(h:lz S x o)(hm:jT x=0)(hc:∀c t fz,x≠ .cells c t fz):o=aa x:=by
 cases x with
 |cells cc t fz=>exact absurd rfl (hc _ _ _)
 |_=>
  rcases h with h|⟨_,h2,_⟩
  .exact h
  .exact absurd hm h2
theorem Fr.refl(S:Nat->Nat->Prop)(w:World):Fr S w w:=⟨rfl,rfl,rfl,bH _,λk o h=>by rw [h];exact lz.refl _ _⟩
theorem lz.trans{S T:Nat->Prop}{x:Obj}{V Z:Option Obj}(h:lz S x V)(k:∀y,V=aa y->lz T y Z)(hT:∀j,T j->S j):lz S x Z:=by
 cases x with
 |cells cc t fz=>
  obtain⟨c1,f1,e1,s1,G,g1⟩:=h;obtain⟨c2,f2,e2,s2,O,g2⟩:=k _ e1;refine⟨c2,f2,e2,s2.trans s1,?_,λj hj=>(g2 j (λht=>hj (hT j ht))).trans (g1 j hj)⟩;rcases O with rfl|⟨⟨j,hj⟩,U⟩
  .rcases G with rfl|⟨hj,hu⟩
   .exact .inl rfl
   .exact .inr ⟨hj,λu=>(hu u).same s2⟩
  .refine .inr ⟨⟨j,hT j hj⟩,λu=>U ?_⟩;rcases G with rfl|⟨_,hu⟩
   .exact u.same s1
   .exact hu u
 |_=>
  rcases h with h|⟨hj,hm,y,hy,he⟩
  .rcases k _ h with h2|⟨⟨j,hj⟩,hm,y,hy,he⟩
   .exact .inl h2
   .exact .inr ⟨⟨j,hT j hj⟩,hm,y,hy,he⟩
  .have h2:=k _ hy;refine .inr ⟨hj,hm,?_⟩;cases y with
   |cells cc t fz=>exact absurd he.symm hm
   |_=>
    rcases h2 with h2|⟨_,hm2,z,hz,I⟩
    .exact⟨_,h2,he⟩
    .exact⟨z,hz,I.trans he⟩
theorem Fr.trans{T:Nat->Nat->Prop}{a b c:World}(h:Fr S a b)(k:Fr T b c)(hT:∀x o,x<a.heap.size->T x o->S x o):Fr S a c:=by refine⟨k.os.trans h.os,k.tape.trans h.tape,k.output.trans h.output,jP h.size k.size,λx o ho=>?_⟩;have hx:x<a.heap.size:=(jL.1 ho).1;exact(h.blk x o ho).trans (λy hy=>k.blk x y hy) (λj hj=>hT x j hx hj)
theorem Fr.mono{T:Nat->Nat->Prop}{a b:World}(h:Fr S a b)(hT:∀x o,x<a.heap.size->S x o->T x o):Fr T a b:=by refine⟨h.os,h.tape,h.output,h.size,λx o ho=>?_⟩;have hx:x<a.heap.size:=(jL.1 ho).1;exact(lz.refl (T x) o).trans (λy hy=>by cases hy;exact h.blk x o ho) (λj hj=>hT x j hx hj)
theorem Fr.below{a b:World}(h:Fr S a b)(hS:∀x o,x<a.heap.size->¬S x o):RowKit.Below a.heap.size a b:=by refine⟨h.os,h.tape,h.output,h.size,λk hk=>?_⟩;obtain⟨o,ho⟩:∃o,a.heap[k]?=aa o:=⟨_,pO hk⟩;rw [ho];exact(h.blk k o ho).same (λj=>hS k j hk)
theorem Fr.drew{a b:World}(h:Fr S a b):Fr S a {b with drawn:=b.drawn+1}:=⟨h.os,h.tape,h.output,h.size,h.blk⟩
theorem Fr.alloc(S:Nat->Nat->Prop)(w:World)(o:Obj):Fr S w (w.alloc o):=by refine⟨rfl,rfl,rfl,aq,λk x hx=>?_⟩;have hk:k<w.heap.size:=(jL.1 hx).1;rw [RowKit.Below.heap_alloc w o k hk,hx];exact lz.refl _ _
def jU(c:Array Value)(off:Nat)(vs:List Value):Array Value:=⟨c.toList.take off++vs++c.toList.drop (off+vs.length)⟩
theorem tQ(c:Array Value)(off:Nat)(vs:List Value)(h:off+vs.length<=c.size):(jU c off vs).size=c.size:=by simp [jU];omega
def World.putCells(w:World)(blk off:Nat)(vs:List Value):World:=
 {w with heap:=w.heap.modify blk fun
   | .cells c t fz=> .cells (jU c off vs) t fz
   |o=>o}
theorem u6(c:Array Value)(off:Nat)(vs:List Value)(h:off+vs.length<=c.size)(j:Nat):(jU c off vs)[j]?=if off<=j/\j<off+vs.length then vs[j-off]? else c[j]?:=by
 have hl:c.toList.length=c.size:=aq;simp only [jU,sY];by_cases h1:j<off
 .rw [if_neg ag,gP aA,gP aA,ic h1];simp
 .by_cases h2:j<off+vs.length
  .rw [if_pos ag,gP aA,iR aA];congr 1;simp;omega
  .rw [if_neg ag,iR aA,iS];rw [<-lU];congr 1;simp;omega
theorem World.putCells_heap(w:World)(blk off:Nat)(vs:List Value){c:Array Value}(h:w.heap[blk]?=aa (.cells c t fz)):(World.putCells w blk off vs).heap[blk]?=aa (.cells (jU c off vs) t fz):=by simp [World.putCells,Ba,h]
theorem World.putCells_other(w:World)(blk off:Nat)(vs:List Value)(h:k≠blk):(World.putCells w blk off vs).heap[k]?=w.heap[k]?:=by simp only [World.putCells,Ba];rw [if_neg (λe=>h e.symm)]
theorem l8.put{t:Nat}{c:Array Value}(h:l8 t c fz)(off:Nat)(vs:List Value)(hs:off+vs.length<=c.size):l8 t (jU c off vs) fz:=by unfold l8;rw [tQ _ _ _ hs];exact h
theorem World.putCells_size(w:World)(blk off:Nat)(vs:List Value):(World.putCells w blk off vs).heap.size=w.heap.size:=by simp [World.putCells]
theorem Fr.putCells(S:Nat->Nat->Prop)(w:World)(blk off:Nat)(vs:List Value){c:Array Value}(h:w.heap[blk]?=aa (.cells c t fz))(hb:off+vs.length<=c.size)(hS:∀o,off<=o->o<off+vs.length->S blk o):Fr S w (World.putCells w blk off vs):=by
 refine⟨rfl,rfl,rfl,by rw [World.putCells_size];exact bH _,λk o ho=>?_⟩;by_cases hk:k=blk
 .subst hk;rw [World.putCells_heap w k off vs h];rw [h]at ho;cases ho;exact⟨_,_,rfl,tQ _ _ _ hb,.inl rfl,λj hj=>by rw [u6 _ _ _ hb,if_neg (λG=>hj (hS j G.1 G.2))]⟩
 .rw [World.putCells_other w blk off vs hk,ho];exact lz.refl _ _
def au(n:Int):Int:=IntKind.i64.wrap n
theorem AQ{n:Int}(h: -9223372036854775808<=n)(k:n<9223372036854775808):au n=n:=by unfold au;rw [IntKind.wrap_i64];omega
theorem eI(n:Int):au n=(n+9223372036854775808)%18446744073709551616-9223372036854775808:=IntKind.wrap_i64 n
def oe(a:UInt8)(n:Nat):UInt8:=if n<8 then a<<<cX n else 0
def wk(a:UInt8)(n:Nat):UInt8:=if n<8 then a>>>cX n else 0
def L9(a:UInt16)(n:Nat):UInt16:=if n<16 then a<<<wV n else 0
def Ck(a:UInt16)(n:Nat):UInt16:=if n<16 then a>>>wV n else 0
def mU(a:UInt32)(n:Nat):UInt32:=if n<32 then a<<<UInt32.ofNat n else 0
def kf(a:UInt32)(n:Nat):UInt32:=if n<32 then a>>>UInt32.ofNat n else 0
def dr(a:UInt64)(n:Nat):UInt64:=if n<64 then a<<<aF n else 0
def bh(a:UInt64)(n:Nat):UInt64:=if n<64 then a>>>aF n else 0
def dg(n:Int):UInt8:=cX (n%256).toNat
def fO(n:Int):UInt64:=aF (n%18446744073709551616).toNat
def rp:SV->Option Nat
 | .i n=>if 0<=n then aa n.toNat else ah
 | .u64 c=>aa c.toNat
 | .u32 c=>aa c.toNat
 | .u8 c=>aa c.toNat
 |_=>ah
def wq(n:Nat):SV->Option SV
 | .u8 a=>aa (.u8 (oe a n))
 | .u16 a=>aa (.u16 (L9 a n))
 | .u32 a=>aa (.u32 (mU a n))
 | .u64 a=>aa (.u64 (dr a n))
 | .i a=>aa (.i (au (a*2^min n 64)))
 |_=>ah
def tZ(n:Nat):SV->Option SV
 | .u8 a=>aa (.u8 (wk a n))
 | .u16 a=>aa (.u16 (Ck a n))
 | .u32 a=>aa (.u32 (kf a n))
 | .u64 a=>aa (.u64 (bh a n))
 | .i a=>aa (.i (a.fdiv (2^min n 64)))
 |_=>ah
def gG(op:BinOp):SV->SV->Option SV
 | .i a,.i c=>match op with
  | .add=>aa (.i (au (a+c)))| .sub=>aa (.i (au (a-c)))| .mul=>aa (.i (au (a*c)))
  | .quo=>if c=0 then ah else aa (.i (au (a.tdiv c)))| .rem=>if c=0 then ah else aa (.i (a.tmod c))
  | .eql=>aa (.b (a==c))| .neq=>aa (.b (a !=c))| .lss=>aa (.b (decide (a<c)))| .leq=>aa (.b (decide (a<=c)))
  | .gtr=>aa (.b (decide (a>c)))| .geq=>aa (.b (decide (a>=c)))|_=>ah
 | .u8 a,.u8 c=>match op with
  | .add=>aa (.u8 (a+c))| .sub=>aa (.u8 (a-c))| .mul=>aa (.u8 (a*c))
  | .quo=>if c=0 then ah else aa (.u8 (a/c))| .rem=>if c=0 then ah else aa (.u8 (a%c))
  | .and=>aa (.u8 (a&&&c))| .or=>aa (.u8 (a|||c))| .xor=>aa (.u8 (a^^^c))
  | .eql=>aa (.b (a==c))| .neq=>aa (.b (a !=c))| .lss=>aa (.b (decide (a<c)))| .leq=>aa (.b (decide (a<=c)))
  | .gtr=>aa (.b (decide (a>c)))| .geq=>aa (.b (decide (a>=c)))|_=>ah
 | .u16 a,.u16 c=>match op with
  | .quo=>if c=0 then ah else aa (.u16 (a/c))| .rem=>if c=0 then ah else aa (.u16 (a%c))
  | .eql=>aa (.b (a==c))| .lss=>aa (.b (decide (a<c)))
  | .gtr=>aa (.b (decide (a>c)))| .geq=>aa (.b (decide (a>=c)))|_=>ah
 | .u32 a,.u32 c=>match op with
  | .add=>aa (.u32 (a+c))| .and=>aa (.u32 (a&&&c))| .or=>aa (.u32 (a|||c))| .xor=>aa (.u32 (a^^^c))|_=>ah
 | .u64 a,.u64 c=>match op with
  | .add=>aa (.u64 (a+c))| .sub=>aa (.u64 (a-c))| .mul=>aa (.u64 (a*c))
  | .quo=>if c=0 then ah else aa (.u64 (a/c))| .rem=>if c=0 then ah else aa (.u64 (a%c))
  | .and=>aa (.u64 (a&&&c))| .or=>aa (.u64 (a|||c))| .xor=>aa (.u64 (a^^^c))| .andNot=>aa (.u64 (a&&& ~~~c))
  | .eql=>aa (.b (a==c))| .neq=>aa (.b (a !=c))| .lss=>aa (.b (decide (a<c)))| .leq=>aa (.b (decide (a<=c)))
  | .gtr=>aa (.b (decide (a>c)))| .geq=>aa (.b (decide (a>=c)))|_=>ah
 | .s a,.s c=>match op with
  | .eql=>aa (.b (a==c))| .neq=>aa (.b (!(a==c)))
  |_=>ah
 |_,_=>ah
def iI(op:BinOp)(x y:SV):Option SV:=
 match op with
 | .shl=>(rp y).bind λn=>wq n x
 | .shr=>(rp y).bind λn=>tZ n x
 |_=>gG op x y
section
variable {P:Program} {ρ:bw} {w:World}
theorem OY{y:SV}{n:Nat}(h:rp y=aa n)(hy:av ρ y v):∃k:IntKind,v= .int k (n:Int):=by
 cases y<;>simp only [rp,av]at h hy<;>try(cases h;done)
 .rename_i m;split at h
  .cases h;exact⟨_,by rw [hy];congr 1;omega⟩
  .cases h
 all_goals(cases h;exact⟨_,hy⟩)
set_option maxRecDepth 4000 in
theorem aiQ(a:UInt8)(n:Nat):(((oe a n).toNat:Nat):Int)=IntKind.u8.wrap ((a.toNat:Int)*2^min n 8):=by
 rw [IntKind.wrap_u8];unfold oe;have h2:(2:Int)^8=256:=aw;split
 .rename_i h;rw [jt ag,UInt8.toNat_shiftLeft,nN,nk];rw [gq (by omega:n%2^8<8),gq (by omega:n<2^8)];generalize hq:a.toNat*2^n=q;have e:(a.toNat:Int)*2^n=(q:Int):=Iy;rw [e];omega
 .rename_i h;rw [um ag,h2];show(0:Int)=_
  omega
set_option maxRecDepth 4000 in
theorem aiL(a:UInt16)(n:Nat):(((L9 a n).toNat:Nat):Int)=IntKind.u16.wrap ((a.toNat:Int)*2^min n 16):=by
 rw [IntKind.wrap_u16];unfold L9;have h2:(2:Int)^16=65536:=aw;split
 .rename_i h;rw [jt ag,UInt16.toNat_shiftLeft,UInt16.toNat_ofNat',nk];rw [gq (by omega:n%2^16<16),gq (by omega:n<2^16)];generalize hq:a.toNat*2^n=q;have e:(a.toNat:Int)*2^n=(q:Int):=Iy;rw [e];omega
 .rename_i h;rw [um ag,h2];show(0:Int)=_
  omega
set_option maxRecDepth 4000 in
theorem aiM(a:UInt32)(n:Nat):(((mU a n).toNat:Nat):Int)=IntKind.u32.wrap ((a.toNat:Int)*2^min n 32):=by
 rw [IntKind.wrap_u32];unfold mU;have h2:(2:Int)^32=4294967296:=aw;split
 .rename_i h;rw [jt ag,UInt32.toNat_shiftLeft,Bd,nk];rw [gq (by omega:n%2^32<32),gq (by omega:n<2^32)];generalize hq:a.toNat*2^n=q;have e:(a.toNat:Int)*2^n=(q:Int):=Iy;rw [e];omega
 .rename_i h;rw [um ag,h2];show(0:Int)=_
  omega
set_option maxRecDepth 4000 in
theorem aiN(a:UInt64)(n:Nat):(((dr a n).toNat:Nat):Int)=IntKind.u64.wrap ((a.toNat:Int)*2^min n 64):=by
 rw [IntKind.wrap_u64];unfold dr;have h2:(2:Int)^64=18446744073709551616:=aw;split
 .rename_i h;rw [jt ag,uv,j5,nk];rw [gq (by omega:n%2^64<64),gq (by omega:n<2^64)];generalize hq:a.toNat*2^n=q;have e:(a.toNat:Int)*2^n=(q:Int):=Iy;rw [e];omega
 .rename_i h;rw [um ag,h2];show(0:Int)=_
  omega
theorem FX(a n:Nat):((a:Int)).fdiv (2^n)=((a/2^n:Nat):Int):=by
 rw [Int.fdiv_eq_ediv_of_nonneg _ (by exact Int.le_of_lt (Int.pow_pos (by decide)))]
 push_cast;rfl
theorem aiU(a:UInt8)(n:Nat):(((wk a n).toNat:Nat):Int)=((a.toNat:Int)).fdiv (2^min n 8):=by
 rw [FX];unfold wk;have G:=a.toNat_lt;split
 .rename_i h;rw [jt ag,UInt8.toNat_shiftRight,nN,np];rw [gq (by omega:n%2^8<8),gq (by omega:n<2^8)]
 .rename_i h;rw [um ag,vD G];rfl
theorem aiS(a:UInt16)(n:Nat):(((Ck a n).toNat:Nat):Int)=((a.toNat:Int)).fdiv (2^min n 16):=by
 rw [FX];unfold Ck;have G:=a.toNat_lt;split
 .rename_i h;rw [jt ag,UInt16.toNat_shiftRight,UInt16.toNat_ofNat',np];rw [gq (by omega:n%2^16<16),gq (by omega:n<2^16)]
 .rename_i h;rw [um ag,vD G];rfl
theorem aiT(a:UInt32)(n:Nat):(((kf a n).toNat:Nat):Int)=((a.toNat:Int)).fdiv (2^min n 32):=by
 rw [FX];unfold kf;have G:=a.toNat_lt;split
 .rename_i h;rw [jt ag,UInt32.toNat_shiftRight,Bd,np];rw [gq (by omega:n%2^32<32),gq (by omega:n<2^32)]
 .rename_i h;rw [um ag,vD G];rfl
theorem Tm(a:UInt64)(n:Nat):(((bh a n).toNat:Nat):Int)=((a.toNat:Int)).fdiv (2^min n 64):=by
 rw [FX];unfold bh;have G:=a.toNat_lt;split
 .rename_i h;rw [jt ag,sr,j5,np];rw [gq (by omega:n%2^64<64),gq (by omega:n<2^64)]
 .rename_i h;rw [um ag,vD G];rfl
theorem aik{k:IntKind}(a:Int)(n:Nat)(t:TypeId):(binOp .shl t (.int k a) (.int yk (n:Int))).run P w= .ok (.int k (k.wrap (a*2^min n k.bits))) w:=by have h:¬((n:Int)<0):=ag;simp [binOp,Op.shift,h]
theorem ail{k:IntKind}(a:Int)(n:Nat)(t:TypeId):(binOp .shr t (.int k a) (.int yk (n:Int))).run P w= .ok (.int k (a.fdiv (2^min n k.bits))) w:=by have h:¬((n:Int)<0):=ag;simp [binOp,Op.shift,h]
theorem aji{n:Nat}{x:SV}(t:TypeId)(h:wq n x=aa z)(hx:av ρ x v):∃u,(binOp .shl t v (.int yk (n:Int))).run P w= .ok u w/\av ρ z u:=by
 cases x<;>simp only [wq,av]at h hx<;>try(cases h;done)
 all_goals(cases h;subst hx;refine⟨_,aik _ _ _,?_⟩;simp only [av])
 .rfl
 .rw [aiQ];rfl
 .rw [aiL];rfl
 .rw [aiM];rfl
 .rw [aiN];rfl
theorem ajj{n:Nat}{x:SV}(t:TypeId)(h:tZ n x=aa z)(hx:av ρ x v):∃u,(binOp .shr t v (.int yk (n:Int))).run P w= .ok u w/\av ρ z u:=by
 cases x<;>simp only [tZ,av]at h hx<;>try(cases h;done)
 all_goals(cases h;subst hx;refine⟨_,ail _ _ _,?_⟩;simp only [av])
 .rfl
 .rw [aiU];rfl
 .rw [aiS];rfl
 .rw [aiT];rfl
 .rw [Tm];rfl
theorem MN(a b:Nat):(a:Int).tmod b=((a%b:Nat):Int):=rfl
theorem MI(a b:Nat):(a:Int).tdiv b=((a/b:Nat):Int):=rfl
theorem Fk(l:List UInt8):(⟨⟨l⟩⟩:ByteArray).toList=l:=by rw [ByteArray.toList_eq]
def CQ(op:BinOp)(k:IntKind)(a c:Int):Sem Value:=
 match op with
 | .add| .sub| .mul=>Op.intArith op k a c
 | .quo| .rem=>Op.intDiv op k a c
 | .and| .or| .xor| .andNot=>Op.intBits op k a c
 |_=>Op.intCmp op a c
theorem DQ{k:IntKind}(a c:Int)(t:TypeId)(h:op≠ .shl/\op≠ .shr):(binOp op t (.int k a) (.int k c)).run P w=(CQ op k a c).run P w:=by cases op<;>first|(exact absurd rfl h.1)|(exact absurd rfl h.2)|(simp [binOp,CQ])
theorem acO{a c:Int}(t:TypeId)(h:gG op (.i a) (.i c)=aa z):∃r,(binOp op t (.int .i64 a) (.int .i64 c)).run P w= .ok r w/\av ρ z r:=by
 cases op<;>simp only [gG]at h<;>(try(cases h;done))<;>rw [DQ a c t aw]
 .cases h;exact⟨_,rfl,by simp only [av,au]⟩
 .cases h;exact⟨_,rfl,by simp only [av,au]⟩
 .cases h;exact⟨_,rfl,by simp only [av,au]⟩
 .by_cases hc:c=0
  .rw [if_pos hc]at h;cases h
  .rw [if_neg hc]at h;cases h;exact⟨_,by simp only [CQ,Op.intDiv,if_neg hc];rfl,by simp only [av,au]⟩
 .by_cases hc:c=0
  .rw [if_pos hc]at h;cases h
  .rw [if_neg hc]at h;cases h;exact⟨_,by simp only [CQ,Op.intDiv,if_neg hc];rfl,gO⟩
 .cases h;exact⟨_,rfl,gO⟩
 .cases h;exact⟨_,rfl,gO⟩
 .cases h;exact⟨_,rfl,gO⟩
 .cases h;exact⟨_,rfl,gO⟩
 .cases h;exact⟨_,rfl,gO⟩
 .cases h;exact⟨_,rfl,gO⟩
theorem MY(x:BitVec 8):IntKind.u8.wrap (x.toNat:Int)=(x.toNat:Int):=by rw [IntKind.wrap_u8];have:=x.isLt;omega
theorem MZ(a:UInt8):ue IntKind.u8.bits (a.toNat:Int)=a.toBitVec:=by
 show ue 8 (a.toNat:Int)=_
 rw [BitVec.ofInt_natCast];simp
theorem aj7{a c:UInt8}(t:TypeId)(h:gG op (.u8 a) (.u8 c)=aa z):∃r,(binOp op t (.int .u8 (a.toNat:Int)) (.int .u8 (c.toNat:Int))).run P w= .ok r w/\av ρ z r:=by
 have G:=a.toNat_lt;have hc:=c.toNat_lt;cases op<;>simp only [gG]at h<;>(try(cases h;done))<;>rw [DQ _ _ t aw]
 .cases h;refine⟨_,rfl,?_⟩;simp only [av];rw [IntKind.wrap_u8,UInt8.toNat_add];congr 1
 .cases h;refine⟨_,rfl,?_⟩;simp only [av];rw [IntKind.wrap_u8,UInt8.toNat_sub];congr 1;omega
 .cases h;refine⟨_,rfl,?_⟩;simp only [av];rw [IntKind.wrap_u8,UInt8.toNat_mul];congr 1
 .by_cases h0:c=0
  .rw [if_pos h0]at h;cases h
  .rw [if_neg h0]at h;cases h;have hn:¬((c.toNat:Int)=0):=λe=>h0 (my.1 lS)
   refine Cx ?_;simp only [av];rw [MI,IntKind.wrap_u8,UInt8.toNat_div];congr 1;have:a.toNat/c.toNat<=a.toNat:=Nat.div_le_self _ _;generalize a.toNat/c.toNat=q at this|-;omega
 .by_cases h0:c=0
  .rw [if_pos h0]at h;cases h
  .rw [if_neg h0]at h;cases h;have hn:¬((c.toNat:Int)=0):=λe=>h0 (my.1 lS)
   refine Cx ?_;simp only [av];rw [MN,UInt8.toNat_mod]
 .cases h;refine⟨_,rfl,?_⟩;simp only [av,MZ];exact congrArg _ (MY _)
 .cases h;refine⟨_,rfl,?_⟩;simp only [av,MZ];exact congrArg _ (MY _)
 .cases h;refine⟨_,rfl,?_⟩;simp only [av,MZ];exact congrArg _ (MY _)
 .cases h;refine⟨_,rfl,?_⟩;simp only [av];congr 1;rw [jq];simp [<-my];omega
 .cases h;refine⟨_,rfl,?_⟩;simp only [av];congr 1;rw [jq];simp [<-my];omega
 .cases h;refine⟨_,rfl,?_⟩;simp only [av];congr 1;rw [jq];simp [UInt8.lt_iff_toNat_lt]
 .cases h;refine⟨_,rfl,?_⟩;simp only [av];congr 1;rw [jq];simp [UInt8.le_iff_toNat_le]
 .cases h;refine⟨_,rfl,?_⟩;simp only [av];congr 1;rw [jq];simp [UInt8.lt_iff_toNat_lt]
 .cases h;refine⟨_,rfl,?_⟩;simp only [av];congr 1;rw [jq];simp [UInt8.le_iff_toNat_le]
theorem ajZ{a c:UInt16}(t:TypeId)(h:gG op (.u16 a) (.u16 c)=aa z):∃r,(binOp op t (.int .u16 (a.toNat:Int)) (.int .u16 (c.toNat:Int))).run P w= .ok r w/\av ρ z r:=by
 have G:=a.toNat_lt;have hc:=c.toNat_lt;cases op<;>simp only [gG]at h<;>(try(cases h;done))<;>rw [DQ _ _ t aw]
 .by_cases h0:c=0
  .rw [if_pos h0]at h;cases h
  .rw [if_neg h0]at h;cases h;have hn:¬((c.toNat:Int)=0):=λe=>h0 (UInt16.toNat_inj.1 lS)
   refine Cx ?_;simp only [av];rw [MI,IntKind.wrap_u16,UInt16.toNat_div];congr 1;have:a.toNat/c.toNat<=a.toNat:=Nat.div_le_self _ _;generalize a.toNat/c.toNat=q at this|-;omega
 .by_cases h0:c=0
  .rw [if_pos h0]at h;cases h
  .rw [if_neg h0]at h;cases h;have hn:¬((c.toNat:Int)=0):=λe=>h0 (UInt16.toNat_inj.1 lS)
   refine Cx ?_;simp only [av];rw [MN,UInt16.toNat_mod]
 .cases h;refine⟨_,rfl,?_⟩;simp only [av];congr 1;rw [jq];simp [<-UInt16.toNat_inj];omega
 .cases h;refine⟨_,rfl,?_⟩;simp only [av];congr 1;rw [jq];simp [UInt16.lt_iff_toNat_lt]
 .cases h;refine⟨_,rfl,?_⟩;simp only [av];congr 1;rw [jq];simp [UInt16.lt_iff_toNat_lt]
 .cases h;refine⟨_,rfl,?_⟩;simp only [av];congr 1;rw [jq];simp [UInt16.le_iff_toNat_le]
theorem HT(x:BitVec 32):IntKind.u32.wrap (x.toNat:Int)=(x.toNat:Int):=by rw [IntKind.wrap_u32];have:=x.isLt;omega
theorem HU(a:UInt32):ue IntKind.u32.bits (a.toNat:Int)=a.toBitVec:=by
 show ue 32 (a.toNat:Int)=_
 rw [BitVec.ofInt_natCast];simp
theorem aj1{a c:UInt32}(t:TypeId)(h:gG op (.u32 a) (.u32 c)=aa z):∃r,(binOp op t (.int .u32 (a.toNat:Int)) (.int .u32 (c.toNat:Int))).run P w= .ok r w/\av ρ z r:=by
 have G:=a.toNat_lt;have hc:=c.toNat_lt;cases op<;>simp only [gG]at h<;>(try(cases h;done))<;>rw [DQ _ _ t aw]
 .cases h;refine⟨_,rfl,?_⟩;simp only [av];rw [IntKind.wrap_u32,UInt32.toNat_add];congr 1
 .cases h;refine⟨_,rfl,?_⟩;simp only [av,HU];exact congrArg _ (HT _)
 .cases h;refine⟨_,rfl,?_⟩;simp only [av,HU];exact congrArg _ (HT _)
 .cases h;refine⟨_,rfl,?_⟩;simp only [av,HU];exact congrArg _ (HT _)
theorem Ec(x:BitVec 64):IntKind.u64.wrap (x.toNat:Int)=(x.toNat:Int):=by rw [IntKind.wrap_u64];have:=x.isLt;omega
theorem Ee(a:UInt64):ue IntKind.u64.bits (a.toNat:Int)=a.toBitVec:=by
 show ue 64 (a.toNat:Int)=_
 rw [BitVec.ofInt_natCast];simp
theorem aj4{a c:UInt64}(t:TypeId)(h:gG op (.u64 a) (.u64 c)=aa z):∃r,(binOp op t (.int .u64 (a.toNat:Int)) (.int .u64 (c.toNat:Int))).run P w= .ok r w/\av ρ z r:=by
 have G:=a.toNat_lt;have hc:=c.toNat_lt;cases op<;>simp only [gG]at h<;>(try(cases h;done))<;>rw [DQ _ _ t aw]
 .cases h;refine⟨_,rfl,?_⟩;simp only [av];rw [IntKind.wrap_u64,lY];congr 1
 .cases h;refine⟨_,rfl,?_⟩;simp only [av];rw [IntKind.wrap_u64,UInt64.toNat_sub];congr 1;omega
 .cases h;refine⟨_,rfl,?_⟩;simp only [av];rw [IntKind.wrap_u64,uu];congr 1
 .by_cases h0:c=0
  .rw [if_pos h0]at h;cases h
  .rw [if_neg h0]at h;cases h;have hn:¬((c.toNat:Int)=0):=λe=>h0 (dJ.1 lS)
   refine Cx ?_;simp only [av];rw [MI,IntKind.wrap_u64,nL];congr 1;have:a.toNat/c.toNat<=a.toNat:=Nat.div_le_self _ _;generalize a.toNat/c.toNat=q at this|-;omega
 .by_cases h0:c=0
  .rw [if_pos h0]at h;cases h
  .rw [if_neg h0]at h;cases h;have hn:¬((c.toNat:Int)=0):=λe=>h0 (dJ.1 lS)
   refine Cx ?_;simp only [av];rw [MN,nM]
 .cases h;refine⟨_,rfl,?_⟩;simp only [av,Ee];exact congrArg _ (Ec _)
 .cases h;refine⟨_,rfl,?_⟩;simp only [av,Ee];exact congrArg _ (Ec _)
 .cases h;refine⟨_,rfl,?_⟩;simp only [av,Ee];exact congrArg _ (Ec _)
 .cases h;refine⟨_,rfl,?_⟩;simp only [av,Ee];exact congrArg _ (Ec _)
 .cases h;refine⟨_,rfl,?_⟩;simp only [av];congr 1;rw [jq];simp [<-dJ];omega
 .cases h;refine⟨_,rfl,?_⟩;simp only [av];congr 1;rw [jq];simp [<-dJ];omega
 .cases h;refine⟨_,rfl,?_⟩;simp only [av];congr 1;rw [jq];simp [gh]
 .cases h;refine⟨_,rfl,?_⟩;simp only [av];congr 1;rw [jq];simp [oA]
 .cases h;refine⟨_,rfl,?_⟩;simp only [av];congr 1;rw [jq];simp [gh]
 .cases h;refine⟨_,rfl,?_⟩;simp only [av];congr 1;rw [jq];simp [oA]
theorem air{a c:List UInt8}(t:TypeId)(h:gG op (.s a) (.s c)=aa z):∃r,(binOp op t (.string ⟨⟨a⟩⟩) (.string ⟨⟨c⟩⟩)).run P w= .ok r w/\av ρ z r:=by
 cases op<;>simp only [gG]at h<;>(try(cases h;done))
 .cases h;refine⟨_,rfl,?_⟩;simp only [av,Fk]
 .cases h;refine⟨_,rfl,?_⟩;simp only [av,Fk]
theorem aiv{x y:SV}(t:TypeId)(h:gG op x y=aa z)(hx:av ρ x v)(hy:av ρ y u):∃r,(binOp op t v u).run P w= .ok r w/\av ρ z r:=by
 cases x<;>cases y<;>(try(simp only [gG]at h;cases h;done))<;>simp only [av]at hx hy<;>subst hx<;>subst hy<;>
  first|exact acO t h|exact aj7 t h|exact ajZ t h|exact aj1 t h|exact aj4 t h|exact air t h
theorem ai9{x y:SV}(t:TypeId)(h:iI op x y=aa z)(hx:av ρ x v)(hy:av ρ y u):∃r,(binOp op t v u).run P w= .ok r w/\av ρ z r:=by
 cases op<;>simp only [iI]at h<;>(try exact aiv t h hx hy)
 .obtain⟨n,hn,hs⟩:=j0.1 h;obtain⟨k,rfl⟩:=OY hn hy;exact aji t hs hx
 .obtain⟨n,hn,hs⟩:=j0.1 h;obtain⟨k,rfl⟩:=OY hn hy;exact ajj t hs hx
def D9(op:UnOp):SV->Option SV
 | .b x=>match op with| .not=>aa (.b (!x))|_=>ah
 | .u32 n=>match op with| .xor=>aa (.u32 (~~~n))|_=>ah
 | .u64 n=>match op with| .xor=>aa (.u64 (~~~n))|_=>ah
 |_=>ah
theorem aj0(n:UInt32):(Op.intBits .xor .u32 IntKind.u32.max (n.toNat:Int)).run P w= .ok (.int .u32 ((~~~n).toNat:Int)) w:=by
 have e:ue IntKind.u32.bits IntKind.u32.max=BitVec.allOnes 32:=by
  show ue 32 _=_
  decide
 simp only [Op.intBits,HU,e];show Result.ok _ w=_
 congr 2;have e2:(BitVec.allOnes 32^^^n.toBitVec)= ~~~n.toBitVec:=BitVec.allOnes_xor;exact(congrArg (λx:BitVec 32=>IntKind.u32.wrap (x.toNat:Int)) e2).trans (HT _)
theorem aj3(n:UInt64):(Op.intBits .xor .u64 IntKind.u64.max (n.toNat:Int)).run P w= .ok (.int .u64 ((~~~n).toNat:Int)) w:=by
 have e:ue IntKind.u64.bits IntKind.u64.max=BitVec.allOnes 64:=by
  show ue 64 _=_
  decide
 simp only [Op.intBits,Ee,e];show Result.ok _ w=_
 congr 2;have e2:(BitVec.allOnes 64^^^n.toBitVec)= ~~~n.toBitVec:=BitVec.allOnes_xor;exact(congrArg (λx:BitVec 64=>IntKind.u64.wrap (x.toNat:Int)) e2).trans (Ec _)
theorem ajx{op:UnOp}{x:SV}(h:D9 op x=aa z)(hx:av ρ x v):∃r,(Op.unary op v).run P w= .ok r w/\av ρ z r:=by
 cases x<;>(try(simp only [D9]at h;cases h;done))<;>simp only [av]at hx<;>subst hx<;>cases op<;>simp only [D9]at h<;>(try(cases h;done))<;>cases h
 .exact⟨_,by simp only [Op.unary];exact aj0 _,gO⟩
 .exact⟨_,by simp only [Op.unary];exact aj3 _,gO⟩
 .exact⟨_,rfl,gO⟩
def DT(d:IntKind):SV->Option SV
 | .i n=>match d with| .u8=>aa (.u8 (dg n))| .u64=>aa (.u64 (fO n))|_=>ah
 | .u8 x=>match d with| .i64=>aa (.i (x.toNat:Int))| .u32=>aa (.u32 x.toUInt32)| .u64=>aa (.u64 x.toUInt64)|_=>ah
 | .u16 x=>match d with| .u8=>aa (.u8 x.toUInt8)|_=>ah
 | .u32 x=>match d with| .u8=>aa (.u8 x.toUInt8)| .u64=>aa (.u64 x.toUInt64)|_=>ah
 | .u64 x=>match d with| .i64=>aa (.i (au (x.toNat:Int)))| .u8=>aa (.u8 x.toUInt8)| .u32=>aa (.u32 x.toUInt32)|_=>ah
 |_=>ah
theorem Nb(n:Int):(((dg n).toNat:Nat):Int)=n%256:=by unfold dg;rw [nN];omega
theorem VE(n:Int):(((fO n).toNat:Nat):Int)=n%18446744073709551616:=by unfold fO;rw [j5];omega
theorem VJ{k:IntKind}{a b:Int}(h:a=b):su k a=su k b:=by rw [h]
theorem aiz{d:IntKind}{x:SV}(h:DT d x=aa z)(hx:av ρ x v):∃k n,v= .int k n/\av ρ z (.int d (d.wrap n)):=by
 cases x<;>(try(simp only [DT]at h;cases h;done))<;>simp only [av]at hx<;>subst hx<;>refine⟨_,_,rfl,?_⟩<;>
  cases d<;>simp only [DT]at h<;>(try(cases h;done))<;>cases h<;>simp only [av]<;>(try rfl)<;>
  simp only [IntKind.wrap_u8,IntKind.wrap_u32,IntKind.wrap_u64,IntKind.wrap_i64,Nb,VE,UInt8.toNat_toUInt32,qU,
   UInt16.toNat_toUInt8,UInt32.toNat_toUInt8,UInt32.toNat_toUInt64,oB,UInt64.toNat_toUInt32]<;>
  refine VJ ?_<;>first
   |(rename_i x;have:=x.toNat_lt;omega)
   |omega
end
section
variable {P:Program} {ρ ρ':bw} {w w':World}
theorem qY(b o j:Nat):(⟨b,o,ah⟩:Addr).add j=⟨b,o+j,ah⟩:=by unfold Addr.add;split<;>simp_all
theorem Ju{b o:Nat}{c:Array Value}(h:w.heap[b]?=aa (.cells c t fz)):w.cell? ⟨b,o,ah⟩=c[o]?:=by simp [World.cell?,h]
theorem aci{b o:Nat}{c:Array Value}(h:w.heap[b]?=aa (.cells c t fz))(hz:l8 t c fz)(ho:o<c.size):w.frozen? ⟨b,o,ah⟩=af:=by
 obtain⟨lo,hi⟩:=fz;simp only [World.frozen?,h];rcases hz with hz|hz
 .cases hz;simp
 .simp only at hz;simp;omega
theorem Tc{b o n:Nat}{c:Array Value}(h:w.heap[b]?=aa (.cells c t fz))(hn:o+n<=c.size):(loadCells ⟨b,o,ah⟩ n).run P w= .ok ⟨(c.toList.drop o).take n⟩ w:=by
 have hl:((c.toList.drop o).take n).length=n:=aA;have:=run_loadCells_list (P:=P) w ⟨b,o,ah⟩ ((c.toList.drop o).take n) (λj v hv=>by
  rw [qY,Ju h,<-lU];have hj:j<((c.toList.drop o).take n).length:=(dA.1 hv).1;rw [ic ag,iS]at hv;exact hv)
 rw [hl]at this;exact pK
theorem aib{b o:Nat}{c:Array Value}(h:w.heap[b]?=aa (.cells c t fz))(hv:c[o]?=aa v):(load ⟨b,o,ah⟩).run P w= .ok v w:=by rw [run_load,Ju h,hv]
theorem aiJ{b o:Nat}{c:Array Value}(h:w.heap[b]?=aa (.cells c t fz))(ho:o<c.size):w.setCell ⟨b,o,ah⟩ v=World.putCells w b o [v]:=by
 have G:(w.setCell ⟨b,o,ah⟩ v).heap=(World.putCells w b o [v]).heap:=by
  apply vy;intro k;by_cases hk:k=b
  .subst hk;rw [World.putCells_heap w k o [v] h];simp only [World.setCell,Ba,h,if_true,nq];simp;apply vy;intro j;rw [u6 _ _ _ aA];by_cases hj:j=o
   .subst hj;simp [ho]
   .rw [nI (λe=>hj e.symm),if_neg aA]
  .rw [World.putCells_other w b o [v] hk];simp only [World.setCell,Ba];rw [if_neg (λe=>hk e.symm)]
 cases w;simp only [World.setCell,World.putCells]at G|-;rw [G]
theorem agZ{b o:Nat}{c:Array Value}(h:w.heap[b]?=aa (.cells c t fz))(ho:o+(vs.length+1)<=c.size):World.putCells (World.putCells w b o [v]) b (o+1) vs=World.putCells w b o (v::vs):=by
 have h1:=World.putCells_heap w b o [v] h;have s1:(jU c o [v]).size=c.size:=tQ _ _ _ aA;have G:(World.putCells (World.putCells w b o [v]) b (o+1) vs).heap=(World.putCells w b o (v::vs)).heap:=by
  apply vy;intro k;by_cases hk:k=b
  .subst hk;rw [World.putCells_heap _ k (o+1) vs h1,World.putCells_heap w k o (v::vs) h];congr 2;apply vy;intro j;rw [u6 _ _ _ (by rw [s1];omega),u6 _ _ _ aA,u6 _ _ _ aA];by_cases h1:j=o
   .subst h1;rw [if_neg ag,if_pos aq,if_pos aq];simp
   .by_cases h2:o+1<=j/\j<o+1+vs.length
    .rw [if_pos h2,if_pos aA];rw [show j-o=(j-(o+1))+1 from by omega];simp
    .rw [if_neg h2,if_neg aA,if_neg aA]
  .rw [World.putCells_other _ b _ _ hk,World.putCells_other _ b _ _ hk,World.putCells_other _ b _ _ hk]
 simp only [World.putCells]at G|-;rw [G]
theorem GW(w:World)(b o:Nat):World.putCells w b o []=w:=by
 have G:(World.putCells w b o []).heap=w.heap:=by
  apply vy;intro k;simp only [World.putCells,Ba];split
  .rename_i e;cases hk:w.heap[k]? with
   |none=>rfl
   |some x=>cases x<;>simp [jU]
  .rfl
 cases w;simp only [World.putCells]at G|-;rw [G]
theorem wg{b o:Nat}{t:TypeId}{fz:Nat×Nat}:∀(vs:List Value) (i:Nat) {w:World} {c:Array Value},w.heap[b]?=aa (.cells c t fz)->l8 t c fz->o+i+vs.length<=c.size->(∀v∈vs,v.oneCell'=ab)->
  (storeCells ⟨b,o,ah⟩ vs i).run P w= .ok () (World.putCells w b (o+i) vs)
 | [],i,w,c,_,_,_,_=>by rw [GW];rfl
 |v::vs,i,w,c,h,hz,hn,h1=>by
  simp at hn;have hs:w.cell? ⟨b,o+i,ah⟩=c[o+i]?:=Ju h;have e:(store ((⟨b,o,ah⟩:Addr).add i) v).run P w= .ok () (World.putCells w b (o+i) [v]):=by rw [run_store P w _ v .plain (h1 v aq),qY,hs,pO ag];simp only [aci h hz (show o+i<c.size by omega),gE,if_false];rw [aiJ h ag]
  have ih:=wg (o:=o) vs (i+1) (w:=World.putCells w b (o+i) [v]) (World.putCells_heap w b (o+i) [v] h) (hz.put _ _ aA) (by rw [tQ _ _ _ (by simp;omega)];omega) (λu hu=>h1 u (by simp [hu]));simp only [storeCells,bM,e,bQ,ih];rw [show o+(i+1)=o+i+1 from by omega,agZ h ag]
def dq(P:Program)(t:TypeId):Option Nat:=(P.info? t).map (·.size)
def tO(P:Program)(t:TypeId):Option Bool:=(P.underlying t).map fun| .struct _=>ab| .array _ _=>ab|_=>af
theorem ml{n:Nat}(h:dq P t=aa n):(sizeOf t).run P w= .ok n w:=by
 unfold dq at h;cases hi:P.info? t with
 |none=>simp [hi]at h
 |some i=>simp [hi]at h;simp [sizeOf,typeInfo,hi,h]
theorem eS{d:TypeDesc}(h:P.underlying t=aa d):(underlying t).run P w= .ok d w:=by simp [underlying,h]
theorem Hs(h:tO P t=aa g):(isAgg t).run P w= .ok g w:=by
 unfold tO at h;cases hi:P.underlying t with
 |none=>simp [hi]at h
 |some d=>rw [hi]at h;unfold isAgg;rw [bM,eS hi,bQ];cases d<;>simp at h<;>subst h<;>rfl
def GH:Value->Option SV
 | .int .i64 n=>aa (.i n)
 | .int .u8 n=>if 0<=n/\n<256 then aa (.u8 (cX n.toNat))else ah
 | .int .u16 n=>if 0<=n/\n<65536 then aa (.u16 (wV n.toNat))else ah
 | .int .u32 n=>if 0<=n/\n<4294967296 then aa (.u32 (UInt32.ofNat n.toNat))else ah
 | .int .u64 n=>if 0<=n/\n<18446744073709551616 then aa (.u64 (aF n.toNat))else ah
 | .bool b=>aa (.b b)
 | .string s=>aa (.s s.data.toList)
 | .pointer ah=>aa .pnil
 | .slice ah 0 0=>aa .slnil
 | .nilFunc=>aa .fnil
 | .map ah=>aa .mnil
 | .nilIface=>aa .inil
 |_=>ah
def GI:List Value->Option (List SV)
 | []=>aa []
 |v::vs=>(GH v).bind λx=>(GI vs).map (x::·)
def DB:Value->Option SV
 | .agg c=>(GI c.toList).map .agg
 |v=>GH v
theorem Rz{x:SV}(h:GH v=aa x):av ρ x v/\x.atom=ab:=by unfold GH at h;split at h<;>(try(cases h;done))<;>(try(split at h<;>(try(cases h;done))))<;>cases h<;>refine⟨?_,rfl⟩<;>simp only [av];all_goals(rename_i G;refine VJ ?_;simp only [nN,UInt16.toNat_ofNat',Bd,j5];omega)
theorem RA:∀{vs:List Value} {xs:List SV},GI vs=aa xs->aD ρ xs vs/\cw xs=ab
 | [],xs,h=>by cases h;exact⟨aD.nil_iff.2 rfl,rfl⟩
 |v::vs,xs,h=>by
  simp only [GI]at h;obtain⟨x,hx,h2⟩:=j0.1 h;obtain⟨ys,hy,rfl⟩:=so.1 h2;obtain⟨a,b⟩:=RA hy;obtain⟨c,d⟩:=Rz (ρ:=ρ) hx;exact⟨aD.cons c a,by simp [cw]at b|-;exact⟨d,b⟩⟩
theorem qo{x:SV}(h:DB v=aa x):av ρ x v/\∀l,x≠ .tup l:=by
 unfold DB at h;split at h
 .rename_i c;obtain⟨l,hl,rfl⟩:=so.1 h;obtain⟨a,b⟩:=RA (ρ:=ρ) hl;exact⟨by simp only [av];exact⟨_,rfl,b,a⟩,λl=>aq⟩
 .obtain⟨a,b⟩:=Rz (ρ:=ρ) h;exact⟨a,λl e=>by subst e;simp [SV.atom]at b⟩
def jm(P:Program)(t:TypeId):Option SV:=(P.info? t).bind λi=>i.zero.bind DB
theorem Hu{x:SV}(h:jm P t=aa x):∃v,(zeroValue t).run P w= .ok v w/\(∀ρ,av ρ x v)/\∀l,x≠ .tup l:=by
 unfold jm at h;cases hi:P.info? t with
 |none=>simp [hi]at h
 |some i=>
  rw [hi,ur]at h;obtain⟨v,hv,hx⟩:=j0.1 h;exact⟨v,by simp [zeroValue,typeInfo,hi,hv],λρ=>(qo hx).1,(qo (ρ:=λ_=>ah) hx).2⟩
def dz(agg:Bool)(sz:Nat)(l:List SV)(k:Nat):Option SV:=
 if agg then(if k+sz<=l.length then aa (.agg ((l.drop k).take sz))else ah)else l[k]?
def bN(l:List SV)(k:Nat):SV->List SV
 | .agg xs=>l.take k++xs++l.drop (k+xs.length)
 |x=>l.set k x
theorem AL(l:List SV)(k:Nat)(x:SV)(h:k+x.cells.length<=l.length):bN l k x=l.take k++x.cells++l.drop (k+x.cells.length):=by
 have G:∀y:SV,k<l.length->l.set k y=l.take k++ [y]++l.drop (k+1):=λy hk=>by rw [List.set_eq_take_append_cons_drop,if_pos hk];simp
 cases x<;>first|rfl|exact G _ (by simp [SV.cells]at h;omega)
theorem vK{l:List Value}{o n:Nat}(hk:k<n):((l.drop o).take n)[k]?=l[o+k]?:=by rw [ic hk,iS]
theorem QZ{x:SV}{fr:Bool}(hg:tO P t=aa g)(hs:dq P t=aa sz)(hc:kY ρ w blk off l fr)(hx:dz g sz l k=aa x):∃v,(loadVar t ⟨blk,off+k,ah⟩).run P w= .ok v w/\av ρ x v:=by
 obtain⟨c,ty,fz,hb,I,hr,_,O⟩:=hc;unfold dz at hx;unfold loadVar;rw [bM,Hs hg,bQ];cases g with
 |true=>
  simp only [if_true]at hx|-;split at hx
  .rename_i hk;cases hx;have hrl:=hr.length;simp only [eZ,fQ,qN]at hrl;refine⟨_,by rw [bM,ml hs,bQ,bM,Tc hb (by omega),bQ,bZ],?_⟩;simp only [av];refine⟨_,rfl,?_,?_⟩
   .simp only [cw,jg]at I|-;exact λy hy=>I y (List.mem_of_mem_drop (qS hy))
   .have:=(hr.drop k).take sz;rw [sX,ng,nK,jt ag]at this;exact this
  .cases hx
 |false=>
  simp only [gE,if_false]at hx|-;obtain⟨v,hv,G⟩:=hr.get hx;have hk:k<l.length:=(dA.1 hx).1;rw [vK hk,lU]at hv;exact⟨v,aib hb hv,G⟩
theorem kY.put{x:SV}(hc:kY ρ w blk off l ab)(hx:av ρ x v)(ht:∀l,x≠ .tup l)(hk:k+x.cells.length<=l.length):kY ρ (World.putCells w blk (off+k) v.cells.toList) blk off (bN l k x) ab/\(bN l k x).length=l.length:=by
 obtain⟨c,ty,fz,hb,O,hr,hf,U⟩:=hc;obtain⟨h1,h2⟩:=hx.cells_rel ht;have I:=h1.length;rw [AL l k x hk];have cx:(l.take k++x.cells++l.drop (k+x.cells.length)).length=l.length:=aA;refine⟨⟨_,ty,fz,World.putCells_heap w blk _ _ hb,?_,?_,λ_=>(hf rfl).put _ _ ag,?_⟩,cx⟩
 .simp only [cw,jg,mu]at O h2|-;rintro y ((hy|hy)|hy)
  .exact O y (qS hy)
  .exact h2 y hy
  .exact O y (List.mem_of_mem_drop hy)
 .rw [cx];have e:((jU c (off+k) v.cells.toList).toList.drop off).take l.length=((c.toList.drop off).take l.length).take k++v.cells.toList++((c.toList.drop off).take l.length).drop (k+v.cells.toList.length):=by
   have V:((c.toList.drop off).take l.length).length=l.length:=aA;have hV:v.cells.toList.length=v.cells.size:=aq;have hP:(jU c (off+k) v.cells.toList).size=c.size:=tQ _ _ _ ag;apply ku;intro j;have hg:∀i,i<l.length->((c.toList.drop off).take l.length)[i]?=c[off+i]?:=λi hi=>by rw [vK hi,lU]
   have G:l.length<=j->((c.toList.drop off).take l.length)[j]?=ah:=λhi=>dI ag
   generalize(c.toList.drop off).take l.length=L at V hg G;by_cases hj:j<l.length
   .refine Ir ?_;by_cases a1:j<k
    .rw [if_neg ag,gP N7,gP lu,ic a1,hg j hj]
    .by_cases a2:j<k+v.cells.toList.length
     .rw [if_pos ag,gP N7,iR lu];congr 1;rw [eZ];omega
     .rw [if_neg ag,iR N7,iS];rw [show k+v.cells.toList.length+(j-(L.take k++v.cells.toList).length)=j from by rw [aW,eZ];omega,hg j hj]
   .rw [dI aA,dI (by simp only [aW,eZ,fQ];omega)]
  rw [e,I];exact((hr.take k).append h1).append (hr.drop _)
 .rw [cx,tQ _ _ _ ag];exact U
theorem TD{x:SV}(hs:dq P t=aa sz)(hc:kY ρ w blk off l ab)(hx:av ρ x v)(ht:∀l,x≠ .tup l)(U:x.cells.length=sz)(hk:k+sz<=l.length):(storeVar t ⟨blk,off+k,ah⟩ v).run P w= .ok () (World.putCells w blk (off+k) v.cells.toList):=by
 obtain⟨c,ty,fz,hb,V,hr,hf,O⟩:=hc;obtain⟨h1,h2⟩:=hx.cells_rel ht;have G:=h1.length;have I:=hf rfl;unfold storeVar;rw [bM,ml hs,bQ];have hne:¬(v.cells.size≠sz):=by simp at G;omega
 simp only [hne,if_false];exact wg (P:=P) v.cells.toList 0 hb I ag (h1.oneCell h2)
end
abbrev eM:=Nat->Option SV
variable{R:eM}
abbrev ix:=List (Nat×Option SB)
def jX(H:cG)(W:ix):cG:=λid=>match W.lookup id with|some ob=>ob|none=>H id
def sy(ρ:bw)(H:cG)(W:ix)(k o:Nat):Prop:=∃id G b rb,(id,G)∈W/\H id=aa b/\ρ id=aa rb/\b.own=ab/\foot rb b k o
structure cI(ρ:bw)(H:cG)(w:World)(W:ix)(ρ':bw)(w':World):Prop where
 ext:fK ρ ρ'
 dom:∀id rb,ρ' id=aa rb->ρ id=aa rb\/∃ob,(id,ob)∈W
 blks:∀id b,(id,aa b)∈W->∃rb,ρ' id=aa rb/\cd ρ' w' rb b
 fr:Fr (sy ρ H W) w w'
 feet:∀id b rb k o,(id,aa b)∈W->ρ' id=aa rb->foot rb b k o->sy ρ H W k o\/w.heap.size<=k
 sep:∀i j bi bj ri rj,i≠j->(i,aa bi)∈W->(j,aa bj)∈W->ρ' i=aa ri->ρ' j=aa rj->bi.own=ab->∀k o,¬(foot ri bi k o/\foot rj bj k o)
theorem Ar{W:ix}{G:Option SB}(h:W.lookup id=aa G):(id,G)∈W:=by
 induction W with
 |nil=>simp at h
 |cons x xs ih=>
  obtain⟨i,b⟩:=x;simp only [gJ]at h;split at h
  .rename_i e;cases h;simp at e;subst e;simp
  .exact jN _ (ih h)
theorem adK{W:ix}(h:W.lookup id=ah)(G:Option SB):(id,G)∉W:=by
 induction W with
 |nil=>simp
 |cons x xs ih=>
  obtain⟨i,b⟩:=x;simp only [gJ]at h;split at h
  .cases h
  .rename_i e;intro hm;rcases gy.1 hm with hm|hm
   .cases hm;simp at e
   .exact ih h hm
section
variable {P:Program} {ρ ρ':bw} {H:cG} {w w':World} {W:ix}
theorem kY.ext{f:Bool}(h:kY ρ w blk off l f)(he:fK ρ ρ'):kY ρ' w blk off l f:=by obtain⟨c,t,fz,hb,G,hr,hf,hs⟩:=h;exact⟨c,t,fz,hb,G,hr.ext he,hf,hs⟩
theorem qW.ext{R:List (Nat×SV)}{tmps:Array Value}(h:qW ρ R tmps)(he:fK ρ ρ'):qW ρ' R tmps:=λt v hv=>(h t v hv).ext he
theorem mz.ext{y:OB}(h:mz ρ w blk y)(he:fK ρ ρ'):mz ρ' w blk y:=by
 cases y with
 |loop R N ps as_ bd=>obtain⟨r,h1,h2,h3,h4,h5,G,I,O⟩:=h;exact⟨r,h1,h2,h3,h4,h5,G,I,O.ext he⟩
 |pend c=>exact h
theorem mz.frame{y:OB}(h:mz ρ w blk y)(hf:Fr S w w')(hd:∀o,¬S blk o):mz ρ w' blk y:=by
 cases y with
 |loop R N ps as_ bd=>obtain⟨r,h1,h2,h3,h4,h5,G,I,O⟩:=h;exact⟨r,(hf.blk _ _ h1).same hd,h2,h3,h4,h5,G,I,O⟩
 |pend c=>obtain⟨r,h1,h2,h3⟩:=h;exact⟨r,(hf.blk _ _ h1).same hd,h2,h3⟩
theorem mz.lt{y:OB}(h:mz ρ w blk y):blk<w.heap.size:=by
 cases y with
 |loop R N ps as_ bd=>obtain⟨r,h1,_⟩:=h;exact(jL.1 h1).1
 |pend c=>obtain⟨r,h1,_⟩:=h;exact(jL.1 h1).1
theorem cd.ext(h:cd ρ w rb b)(he:fK ρ ρ'):cd ρ' w rb b:=by
 cases b with
 |obj y=>exact mz.ext h he
 |ext y=>exact h
 |ro l=>exact h.imp id λh=>⟨h.1.ext he,h.2⟩
 |box l=>exact⟨h.1.ext he,h.2⟩
 |row t l=>
  rcases h with h|⟨hv,c,fz,hb,hz,hs,G,hr,hl⟩
  .exact .inl h
  .exact .inr ⟨hv,c,fz,hb,hz,hs,G,hr.ext he,hl⟩
theorem TN{c G:Array Value}{n:Nat}(I:G.size=c.size)(h:∀j,off<=j->j<off+n->G[j]?=c[j]?):(G.toList.drop off).take n=(c.toList.drop off).take n:=by
 apply ku;intro j;by_cases hj:j<n
 .rw [vK hj,vK hj,lU,lU,h _ ag ag]
 .rw [dI aA,dI aA]
theorem kY.frame{f:Bool}(h:kY ρ w blk off l f)(hf:Fr S w w')(hd:∀o,off<=o->o<off+l.length->¬S blk o):kY ρ w' blk off l f:=by obtain⟨c,t,fz,hb,Z,hr,hz,hs⟩:=h;obtain⟨V,I,O,G,U,hg⟩:=hf.blk _ _ hb;refine⟨V,t,I,O,Z,?_,λe=>U.elim (λq=>by rw [q];exact(hz e).same G) (λq=>q.2 (hz e)),by rw [G];exact hs⟩;rw [TN G (λj h1 h2=>hg j (hd j h1 h2))];exact hr
theorem tl.frame{y:YB}(h:tl w rb y)(hf:Fr S w w')(hd:∀k o,y.foot rb k o->¬S k o):tl w' rb y:=by
 cases y with
 |fam l=>exact λe he=>⟨(h e he).1,(h e he).2.imp id λq=>⟨q.1.frame hf λo h1 h2=>hd _ _ ⟨e,he,rfl,h1,h2⟩,q.2⟩⟩
 |lit o=>exact⟨h.1,(hf.blk _ _ h.2).same (λj=>hd _ j rfl)⟩
 |locd r o=>exact⟨h.1,(hf.blk _ _ h.2).same (λj=>hd _ j rfl)⟩
 |ar l fs=>exact⟨⟨λe he=>(h.1.1 e he).frame hf λo h1 h2=>hd _ _ (.inl ⟨e,he,rfl,h1,h2⟩),h.1.2⟩,λe he=>⟨(h.2.1 e he).1,(h.2.1 e he).2.imp id λq=>⟨q.1.frame hf λo h1 h2=>hd _ _ (.inr ⟨e,he,rfl,h1,h2⟩),q.2⟩⟩,h.2.2⟩
 |nm=>exact trivial
theorem tl.foot_mut{y:YB}(h:tl w rb y){o:Nat}(hk:y.foot rb k o):∃x,w.heap[k]?=aa x/\jT x≠1:=by
 cases y with
 |fam l=>
  obtain⟨e,he,rfl,h1,h2⟩:=hk;rcases(h e he).2 with q|⟨⟨c,t,fz,hb,_⟩,_⟩
  .rw [q]at h2;simp at h2;omega
  .exact⟨_,hb,t9⟩
 |lit o=>obtain⟨⟨h1,_⟩,h2⟩:=h;subst hk;exact⟨_,h2,ag⟩
 |locd r o=>obtain⟨⟨h1,_⟩,h2⟩:=h;subst hk;exact⟨_,h2,ag⟩
 |ar l fs=>
  rcases hk with⟨e,he,rfl,_⟩|⟨e,he,rfl,h1,h2⟩
  .obtain⟨c,t,fz,hb,_⟩:=h.1.1 e he;exact⟨_,hb,t9⟩
  .rcases(h.2.1 e he).2 with q|⟨⟨c,t,fz,hb,_⟩,_⟩
   .rw [q]at h2;simp at h2;omega
   .exact⟨_,hb,t9⟩
 |nm=>exact hk.elim
theorem cd.frame(h:cd ρ w rb b)(hf:Fr S w w')(hd:∀k o,foot rb b k o->¬S k o):cd ρ w' rb b:=by
 cases b with
 |obj y=>exact mz.frame h hf (λo=>hd _ o rfl)
 |ext y=>exact tl.frame h hf hd
 |ro l=>exact h.imp id λh=>⟨h.1.frame hf λo h1 h2=>hd _ _ ⟨rfl,h1,h2⟩,h.2⟩
 |box l=>exact⟨h.1.frame hf λo h1 h2=>hd _ _ ⟨rfl,h1,h2⟩,h.2⟩
 |row t l=>
  rcases h with h|⟨hv,c,fz,hb,hz,hs,Z,hr,hl⟩
  .exact .inl h
  .obtain⟨V,I,O,G,U,hg⟩:=hf.blk _ _ hb;refine .inr ⟨hv,V,I,O,U.elim (λq=>by rw [q];exact hz.same G) (λq=>q.2 hz),by rw [G];exact hs,Z,?_,hl⟩;rw [TN G (λj h1 h2=>hg j (hd _ _ ⟨hv,rfl,h1⟩))];exact hr
theorem cd.foot_lt(h:cd ρ w rb b){o:Nat}(hk:foot rb b k o):k<w.heap.size:=by
 cases b with
 |obj y=>rw [hk];exact mz.lt h
 |ext y=>obtain⟨x,hx,_⟩:=tl.foot_mut h hk;exact(jL.1 hx).1
 |ro l=>
  rcases h with rfl|⟨⟨c,t,fz,hb,_⟩,_⟩
  .have:=hk.2;simp at this;omega
  .rw [hk.1];exact(jL.1 hb).1
 |box l=>obtain⟨⟨c,t,fz,hb,_⟩,_⟩:=h;rw [hk.1];exact(jL.1 hb).1
 |row t l=>
  rcases h with h|⟨hv,c,fz,hb,_⟩
  .rw [hk.1]at h;cases h.1
  .rw [hk.2.1];exact(jL.1 hb).1
structure uw(ρ:bw)(H:cG)(w:World)(ρ':bw)(H':cG)(w':World):Prop where
 ext:fK ρ ρ'
 heap:iX ρ' H' w'
 sep:l7 ρ' H'
 fr:Fr (dV ρ H) w w'
 own:∀k o,dV ρ' H' k o->dV ρ H k o\/w.heap.size<=k
theorem uw.refl(G:iX ρ H w)(hs:l7 ρ H):uw ρ H w ρ H w:=⟨fK.refl _,G,hs,Fr.refl _ _,λ_ _ h=> .inl h⟩
theorem uw.trans{ρ1 ρ2 ρ3:bw}{H1 G I:cG}{O U V:World}(h:uw ρ1 H1 O ρ2 G U)(k:uw ρ2 G U ρ3 I V):uw ρ1 H1 O ρ3 I V:=
  ⟨h.ext.trans k.ext,k.heap,k.sep,h.fr.trans k.fr (λx o hx ho=>(h.own x o ho).resolve_right ag),
   λx o ho=>(k.own x o ho).elim (λh2=>h.own x o h2) (λh2=> .inr (jP h.fr.size h2))⟩
theorem sy.owned{o:Nat}(h:sy ρ H W k o):dV ρ H k o:=by obtain⟨id,G,b,rb,_,h1,h2,h3,h4⟩:=h;exact⟨id,b,rb,h1,h2,h3,h4⟩
theorem cI.evo{H0:cG}(h:cI ρ H0 w W ρ' w')(Z:∀id ob,(id,ob)∈W->H0 id=H id)(hh:iX ρ H w)(hs:l7 ρ H):uw ρ H w ρ' (jX H W) w':=by
 have hO:∀k o,sy ρ H0 W k o->sy ρ H W k o:=by rintro k o ⟨id,ob,b,rb,h1,h2,h3⟩;exact⟨id,ob,b,rb,h1,(Z _ _ h1)▸h2,h3⟩
 have h8:∀id b rb,W.lookup id=ah->H id=aa b->ρ id=aa rb->∀k o,foot rb b k o->¬sy ρ H0 W k o:=by
  rintro id b rb hl hb hr k o hf ho;obtain⟨h9,ob,b2,ha,hm,h2,h3,h4,h5⟩:=hO k o ho;have hne:h9≠id:=λe=>adK hl ob (e▸hm)
  exact hs h9 id b2 b ha rb hne h2 hb h3 hr h4 k o ⟨h5,hf⟩
 refine⟨h.ext,?_,?_,h.fr.mono (λk o _ ho=>(hO k o ho).owned),?_⟩
 .intro id b hb;simp only [jX]at hb;split at hb
  .rename_i ob hl;subst hb;exact h.blks id b (Ar hl)
  .rename_i hl;obtain⟨rb,hr,I⟩:=hh id b hb;exact⟨rb,h.ext _ _ hr,(I.frame h.fr (λk o hf=>h8 id b rb hl hb hr k o hf)).ext h.ext⟩
 .intro i j bi bj ri rj hne hi hj hri h7 G k o ⟨hfi,O⟩;simp only [jX]at hi hj;split at hi
  .rename_i x5 h6;subst hi;split at hj
   .rename_i x0 U;subst hj;exact h.sep i j bi bj ri rj hne (Ar h6) (Ar U) hri h7 G k o ⟨hfi,O⟩
   .rename_i U;obtain⟨rb,hr,I⟩:=hh j bj hj;have e:=h.ext _ _ hr;rw [h7]at e;cases e;rcases h.feet i bi ri k o (Ar h6) hri hfi with ho|ho
    .exact h8 j bj rj U hj hr k o O ho
    .exact absurd (I.foot_lt O) ag
  .rename_i h6;obtain⟨x6,hr,I⟩:=hh i bi hi;have e:=h.ext _ _ hr;rw [hri]at e;cases e;split at hj
   .rename_i x0 U;subst hj;rcases h.feet j bj rj k o (Ar U) h7 O with ho|ho
    .exact h8 i bi ri h6 hi hr k o hfi ho
    .exact absurd (I.foot_lt hfi) ag
   .obtain⟨x7,V,_⟩:=hh j bj hj;have e2:=h.ext _ _ V;rw [h7]at e2;cases e2;exact hs i j bi bj ri rj hne hi hj hr V G k o ⟨hfi,O⟩
 .rintro k o ⟨id,b,rb,hb,hr,G,hf⟩;simp only [jX]at hb;split at hb
  .rename_i ob hl;subst hb;rcases h.feet id b rb k o (Ar hl) hr hf with ho|ho
   .exact .inl (hO k o ho).owned
   .exact .inr ho
  .obtain⟨ha,V,_⟩:=hh id b hb;have e2:=h.ext _ _ V;rw [hr]at e2;cases e2;exact .inl ⟨id,b,rb,hb,V,G,hf⟩
theorem cI.zero(ρ:bw)(H:cG)(w:World):cI ρ H w [] ρ w:=
 ⟨fK.refl _,λ_ _ h=> .inl h,λ_ _ h=>pM,Fr.refl _ _,λ_ _ _ _ _ h=>pM,λ_ _ _ _ _ _ _ h=>pM⟩
def setR(ρ:bw)(id:Nat)(rb:RB):bw:=λi=>if i=id then aa rb else ρ i
theorem gN(ρ:bw)(id:Nat)(rb:RB):setR ρ id rb id=aa rb:=by simp [setR]
theorem lO(ρ:bw){i:Nat}(rb:RB)(h:i≠id):setR ρ id rb i=ρ i:=by simp [setR,h]
theorem fK.setR(rb:RB)(h:ρ id=ah):fK ρ (setR ρ id rb):=λi r hr=>by rw [lO ρ rb (λe=>by rw [e,h]at hr;cases hr)];exact hr
theorem alloc_heap_new(w:World)(o:Obj):(w.alloc o).heap[w.heap.size]?=aa o:=by
 show(w.heap.push o)[w.heap.size]?=aa o
 simp
theorem cI.new{c:Array Value}(d:Nat)(hn:ρ nid=ah)(hblk:rb.blk=w.heap.size)(hb:cd ρ ({(w.alloc (.cells c t fz))with drawn:=d}) rb b)(hx:∀y,b≠ .ext y:=by intro y e;cases e):cI ρ H w [(nid,aa b)] (setR ρ nid rb) {(w.alloc (.cells c t fz))with drawn:=d}:=by
 have he:fK ρ (setR ρ nid rb):=fK.setR rb hn;refine⟨he,?_,?_,?_,?_,?_⟩
 .intro id r hr;by_cases e:id=nid
  .subst e;exact .inr ⟨_,lx.2 rfl⟩
  .rw [lO ρ rb e]at hr;exact .inl hr
 .intro id x hx;simp at hx;obtain⟨rfl,rfl⟩:=hx;exact⟨rb,gN _ _ _,hb.ext he⟩
 .have:=Fr.alloc (sy ρ H [(nid,aa b)]) w (.cells c t fz);exact⟨this.os,this.tape,this.output,this.size,this.blk⟩
 .intro id x r k o hm hr hf;simp at hm;obtain⟨rfl,rfl⟩:=hm;rw [gN]at hr;cases hr;right;cases x with
  |ext y=>exact absurd rfl (hx y)
  |_=>simp only [foot]at hf;omega
 .intro i j bi G ri I hne hi hj;simp at hi hj;exact EB
theorem acg{w:World}{t:Nat}{c:Array Value}(hv:rb.virt=af)(hb:w.heap[rb.blk]?=aa (.cells c t fz))(ht:t=5)(hz:l8 t c fz):∃G,(w.freeze ⟨rb.blk,c.size,ah⟩ 1).heap[rb.blk]?=aa (.cells c t G)/\l8 t c G/\Fr (λk o=>foot rb (.row t l) k o) w (w.freeze ⟨rb.blk,c.size,ah⟩ 1):=by
 obtain⟨lo,hi⟩:=fz;have I:∀k,(w.freeze ⟨rb.blk,c.size,ah⟩ 1).heap[k]?=if k=rb.blk then aa (.cells c t (if lo==hi then(c.size,c.size+1)else(min lo c.size,max hi (c.size+1))))else w.heap[k]?:=by
  intro k;simp only [World.freeze,Nat.one_ne_zero,if_false,Ba];by_cases hk:k=rb.blk
  .subst hk;rw [if_pos rfl,if_pos rfl,hb];rfl
  .rw [if_neg (λe=>hk e.symm),if_neg hk]
 have hu:l8 t c (if lo==hi then(c.size,c.size+1)else(min lo c.size,max hi (c.size+1))):=by
  unfold l8 at*;rcases hz with h|h
  .cases h;right;exact⟨ht,aq⟩
  .right;refine⟨ht,?_⟩;split
   .exact bH _
   .simp only at h|-;omega
 refine⟨_,by rw [I,if_pos rfl],hu,?_⟩;refine⟨rfl,rfl,rfl,by simp [World.freeze],λk o ho=>?_⟩;rw [I];by_cases hk:k=rb.blk
 .subst hk;rw [if_pos rfl];rw [hb]at ho;cases ho;exact⟨c,_,rfl,rfl,.inr ⟨⟨rb.off,hv,rfl,bH _⟩,λ_=>hu⟩,λ_ _=>rfl⟩
 .rw [if_neg hk,ho];exact lz.refl _ _
theorem cI.put{O:SB}(hid:H id=aa b)(hr:ρ id=aa rb)(I:b.own=ab)(G:∀k o,foot rb O k o->foot rb b k o)(hb:cd ρ w' rb O)(hf:Fr (λk o=>foot rb b k o) w w'):cI ρ H w [(id,aa O)] ρ w':=by
 have ho:∀k o,foot rb b k o->sy ρ H [(id,aa O)] k o:=λk o h=>⟨id,_,b,rb,lx.2 rfl,hid,hr,I,h⟩
 refine⟨fK.refl _,λ_ _ h=> .inl h,?_,hf.mono (λk o _ h=>ho k o h),?_,?_⟩
 .intro i x hx;simp at hx;obtain⟨rfl,rfl⟩:=hx;exact⟨rb,hr,hb⟩
 .intro i x r k o hx hrr U;simp at hx;obtain⟨rfl,rfl⟩:=hx;rw [hr]at hrr;cases hrr;exact .inl (ho k o (G k o U))
 .intro i j bi V ri Z hne hi hj;simp at hi hj;exact EB
theorem cI.move{O:SB}{G:RB}(hne:id≠nid)(hid:H id=aa b)(hr:ρ id=aa rb)(U:b.own=ab)(hn:ρ nid=ah)(I:∀k o,foot G O k o->foot rb b k o\/w.heap.size<=k)(hb:cd ρ w' G O)(hf:Fr (λk o=>foot rb b k o) w w'):cI ρ H w [(id,ah),(nid,aa O)] (setR ρ nid G) w':=by
 have ho:∀k o,foot rb b k o->sy ρ H [(id,ah),(nid,aa O)] k o:=λk o h=>⟨id,ah,b,rb,aq,hid,hr,U,h⟩
 have he:fK ρ (setR ρ nid G):=fK.setR G hn;refine⟨he,?_,?_,hf.mono (λk o _ h=>ho k o h),?_,?_⟩
 .intro i r hrr;by_cases e:i=nid
  .subst e;exact .inr ⟨aa O,aq⟩
  .rw [lO ρ G e]at hrr;exact .inl hrr
 .intro i x hx;simp at hx;obtain⟨rfl,rfl⟩:=hx;exact⟨G,gN _ _ _,hb.ext he⟩
 .intro i x r k o hx hrr V;simp at hx;obtain⟨rfl,rfl⟩:=hx;rw [gN]at hrr;cases hrr;exact(I k o V).imp (ho k o) (λh=>h)
 .intro i j bi Z ri rj hne hi hj;simp at hi hj;exact EB
def Fw(r:Option Nat):Fence:={Fence.wide with round:=r}
def aZ(R:eM):Operand->Option SV
 | .tmp t=>R t
 | .const v=>DB v
 | .func f=>aa (.fn f [])
 | .global _=>ah
def oQ(o:Oper):List Nat:=o.op.operands.toList.filterMap fun| .tmp t=>aa t|_=>ah
def Jd(ρ:bw)(H:cG)(F:List Nat):Prop:=∀i∈F,∀j∈F,∀bi G ri I,i≠j->H i=aa bi->H j=aa G->ρ i=aa ri->ρ j=aa I->bi.own=ab->
 ∀k o,¬(foot ri bi k o/\foot I G k o)
def LT(P:Program)(o:Oper)(R:eM)(H:cG)(F:List Nat)(W:ix)(G:Option SV):Prop:=
 ∀(r:Option Nat) (n:Nat) (a:Act) (w:World) (ρ:bw) (next:Act->World->Prop) (Q:Exit->Act->World->Prop),
  (∀t∈oQ o,∀v,R t=aa v->av ρ v (a.tmps.getD t undef))->
  (∀id∈F,∀b,H id=aa b->∃rb,ρ id=aa rb/\cd ρ w rb b)->Jd ρ H F->
  (∀id I,(id,I)∈W->id∉F->ρ id=ah)->
  (∀rv w' ρ',cI ρ H w W ρ' w'->(∀v,G=aa v->av ρ' v rv)->next (a.put o.dst rv) w')->o.wpIn (Fw r) n P a w next Q
theorem LT.of_run{G:Option SV}(hd:∀c,o.op≠ .defer c)(h:∀(e:Operand->Value) (w:World) (ρ:bw),(∀x∈o.op.operands,∀v,aZ R x=aa v->av ρ v (e x))->(∀id∈F,∀b,H id=aa b->∃rb,ρ id=aa rb/\cd ρ w rb b)->Jd ρ H F->(∀id O,(id,O)∈W->id∉F->ρ id=ah)->∃x w' ρ',(execOp e o).run P w= .ok x w'/\cI ρ H w W ρ' w'/\((∃rv,x= .value rv/\∀v,G=aa v->av ρ' v rv)\/(x= .skip/\G=ah))):LT P o R H F W G:=by
 intro r n a w ρ next Q hR I hS hn hk
 refine⟨λ_ _=>trivial,?_⟩;rw [Oper.semAt_eq _ _ _ hd];obtain⟨x,w',ρ',hrun,hc,ho⟩:=h a.eval w ρ (λx hx v hv=>by
  cases x with
  |tmp t=>exact hR t (by simp only [oQ,List.mem_filterMap];exact⟨.tmp t,by simpa using hx,rfl⟩) v hv
  |const u=>exact(qo hv).1
  |func f=>simp only [aZ,Option.some.injEq]at hv;subst hv;simp only [av];exact⟨[],rfl,aD.nil_iff.2 rfl⟩
  | global g => cases hv) I hS hn
 rw [hrun];rcases ho with⟨rv,rfl,hv⟩|⟨rfl,ho⟩
 .exact hk rv w' ρ' hc hv
 .exact hk undef w' ρ' hc (λv hv=>by rw [ho]at hv;cases hv)
theorem LT.pure(hd:∀c,o.op≠ .defer c)(h:∀(e:Operand->Value) (w:World) (ρ:bw),(∀x∈o.op.operands,∀v,aZ R x=aa v->av ρ v (e x))->(∀id∈F,∀b,H id=aa b->∃rb,ρ id=aa rb/\cd ρ w rb b)->∃rv,(execOp e o).run P w= .ok (.value rv) w/\av ρ z rv):LT P o R H F [] (aa z):=
 LT.of_run hd λe w ρ h1 h2 _ _=>by obtain⟨rv,hr,hz⟩:=h e w ρ h1 h2;exact⟨_,w,ρ,hr,cI.zero _ _ _,.inl ⟨rv,rfl,λv hv=>by cases hv;exact hz⟩⟩
end
def SB.cells:SB->List SV
 | .row _ l=>l
 | .box l=>l
 | .ro l=>l
 | .obj _=> []
 | .ext _=> []
def SB.with(b:SB)(l:List SV):SB:=
 match b with
 | .row t _=> .row t l
 | .box _=> .box l
 | .ro _=> .ro l
 | .obj y=> .obj y
 | .ext y=> .ext y
def SV.isTup:SV->Bool
 | .tup _=>ab
 |_=>af
theorem SV.not_tup{x:SV}(h:x.isTup=af):∀l,x≠ .tup l:=λl e=>by subst e;cases h
section
variable {P:Program} {ρ ρ':bw} {H:cG} {w w':World}
theorem cd.cellsAt(h:cd ρ w rb b)(hne:0<b.cells.length):kY ρ w rb.blk rb.off b.cells b.own/\rb.virt=af:=by
 cases b with
 |obj y=>simp [SB.cells]at hne
 |ext y=>simp [SB.cells]at hne
 |ro l=>
  rcases h with rfl|h
  .simp [SB.cells]at hne
  .exact⟨h.1,h.2.2⟩
 |box l=>exact⟨h.1,h.2.2⟩
 |row t l=>
  rcases h with⟨_,rfl⟩|⟨hv,c,fz,hb,hz,hs,G,hr,hl⟩
  .simp [SB.cells]at hne
  .exact⟨⟨c,t,fz,hb,G,hr,λ_=>hz,by simp only [SB.cells];omega⟩,hv⟩
theorem cd.putB{x:SV}(h:cd ρ w rb (.box l))(hx:av ρ x v)(ht:∀l,x≠ .tup l)(hk:k+x.cells.length<=l.length):cd ρ (World.putCells w rb.blk (rb.off+k) v.cells.toList) rb (.box (bN l k x))/\Fr (λi o=>foot rb (.box l) i o) w (World.putCells w rb.blk (rb.off+k) v.cells.toList)/\(∀i o,foot rb (.box (bN l k x)) i o->foot rb (.box l) i o):=by
 have G:v.cells.toList.length=x.cells.length:=(hx.cells_rel ht).1.length;obtain⟨hc,hl,hv⟩:=h;obtain⟨h1,h2⟩:=hc.put hx ht hk;refine⟨⟨h1,ag,hv⟩,?_,?_⟩
 .obtain⟨c,t,fz,hb,I,hr,hz,hs⟩:=hc;exact Fr.putCells _ _ _ _ _ hb ag (λo h3 h4=>⟨rfl,ag,ag⟩)
 .rintro i o ⟨h3,h4,h5⟩;exact⟨h3,h4,by rw [h2]at h5;exact h5⟩
theorem cd.put{x:SV}(h:cd ρ w rb b)(I:b.own=ab)(hx:av ρ x v)(ht:∀l,x≠ .tup l)(hk:k+x.cells.length<=b.cells.length)(hne:0<b.cells.length):cd ρ (World.putCells w rb.blk (rb.off+k) v.cells.toList) rb (b.with (bN b.cells k x))/\Fr (λi o=>foot rb b i o) w (World.putCells w rb.blk (rb.off+k) v.cells.toList)/\(∀i o,foot rb (b.with (bN b.cells k x)) i o->foot rb b i o):=by
 have h8:v.cells.toList.length=x.cells.length:=(hx.cells_rel ht).1.length;cases b with
 |obj y=>simp [SB.cells]at hne
 |ext y=>simp [SB.cells]at hne
 |ro l=>cases I
 |box l=>exact h.putB hx ht hk
 |row t l=>
  rcases h with⟨_,rfl⟩|⟨hv,c,fz,hb,hz,hs,ha,hr,hl⟩
  .simp [SB.cells]at hne
  .have hc:kY ρ w rb.blk rb.off l ab:=⟨c,t,fz,hb,ha,hr,λ_=>hz,ag⟩;obtain⟨⟨c',t',h6,G,O,V,Z,h7⟩,h2⟩:=hc.put hx ht hk;have hb2:=World.putCells_heap w rb.blk (rb.off+k) v.cells.toList hb;rw [hb2]at G;cases G;simp only [SB.cells]at hk;have U:(jU c (rb.off+k) v.cells.toList).size=c.size:=tQ _ _ _ ag;refine⟨.inr ⟨hv,_,_,hb2,Z rfl,by rw [U];exact hs,O,V,by simp only [SB.cells];omega⟩,?_,λi o h=>h⟩;exact Fr.putCells _ _ _ _ _ hb ag (λo h3 h4=>⟨hv,rfl,ag⟩)
theorem Q7{x:Operand}(ho:o.op= .move x\/o.op= .assign x)(hx:aZ R x=aa z):LT P o R H [] [] (aa z):=by
 refine LT.pure (by rcases ho with h|h<;>simp [h]) λe w ρ h1 _=>⟨e x,?_,h1 x (by rcases ho with h|h<;>simp [h,Op.operands]) z hx⟩
 rcases ho with h|h<;>simp [execOp,h]
theorem aeG{c x:Operand}{t:Bool}(ho:o.op= .pick c x y)(hc:aZ R c=aa (.b t))(hx:(if t then aZ R x else aZ R y)=aa z):LT P o R H [] [] (aa z):=by
 refine LT.pure cJ λe w ρ h1 _=>?_
 have h2:=h1 c dj _ hc;simp only [av]at h2;cases t
 .exact⟨e y,by simp [execOp,ho,h2,asBool],h1 y dj z wN⟩
 .exact⟨e x,by simp [execOp,ho,h2,asBool],h1 x dj z wN⟩
theorem Td:(newVar t v).run P w= .ok ⟨w.heap.size,0,ah⟩ (w.alloc (.cells v.cells t)):=rfl
theorem cI.box{x:SV}(hn:ρ nid=ah)(hx:av ρ x v)(ht:∀l,x≠ .tup l):cI ρ H w [(nid,aa (.box x.cells))] (setR ρ nid ⟨w.heap.size,0,x.cells.length,af⟩) (w.alloc (.cells v.cells t)):=by
 obtain⟨h1,h2⟩:=hx.cells_rel ht;have hl:=h1.length;have:=cI.new (ρ:=ρ) (H:=H) (w:=w) (nid:=nid) (b:= .box x.cells) (rb:=⟨w.heap.size,0,x.cells.length,af⟩) (c:=v.cells) (t:=t) (fz:=(0,0)) w.drawn hn rfl
  ⟨⟨v.cells,t,(0,0),alloc_heap_new w _,h2,by simp only [cq];rw [bW (by omega)];exact h1,λ_=> .inl rfl,by simp only [qN]at hl;simp only;omega⟩,bH _,rfl⟩
 exact this
theorem Q5{x:Operand}{t:Nat}(ho:o.op= .box t x)(hx:aZ R x=aa z)(ht:z.isTup=af):LT P o R H [] [(nid,aa (.box z.cells))] (aa (.p nid 0)):=by
 refine LT.of_run cJ λe w ρ h1 _ _ hn=>?_
 have h2:=h1 x dj _ hx;refine⟨.value (.pointer (aa ⟨w.heap.size,0,ah⟩)),w.alloc (.cells (e x).cells t),_,by simp only [execOp,ho,Instr.box,bM,Td,bQ,bZ],cI.box (hn nid (aa (.box z.cells)) aq aq) h2 (SV.not_tup ht),.inl ⟨_,rfl,?_⟩⟩;intro v hv;cases hv;exact NP
theorem Q3{t:Nat}(ho:o.op= .alloc t)(hz:jm P t=aa z):LT P o R H [] [(nid,aa (.box z.cells))] (aa (.p nid 0)):=by
 refine LT.of_run cJ λe w ρ _ _ _ hn=>?_
 obtain⟨v,hv,hr,ht⟩:=Hu (P:=P) (w:=w) hz;refine⟨.value (.pointer (aa ⟨w.heap.size,0,ah⟩)),w.alloc (.cells v.cells t),_,by simp only [execOp,ho,Instr.alloc,bM,hv,Td,bQ,bZ],cI.box (hn nid (aa (.box z.cells)) aq aq) (hr ρ) ht,.inl ⟨_,rfl,?_⟩⟩;intro v hv;cases hv;exact NP
theorem ai2{x:SV}(h:dz g sz l k=aa x)(G:0<sz):0<l.length:=by
 unfold dz at h;split at h
 .split at h
  .omega
  .cases h
 .have:=(dA.1 h).1;omega
theorem aev{x:Operand}{t:Nat}(ho:o.op= .load t x)(hx:aZ R x=aa (.p id k))(hb:H id=aa b)(hg:tO P t=aa g)(hs:dq P t=aa sz)(O:0<sz)(hz:dz g sz b.cells k=aa z):LT P o R H [id] [] (aa z):=by
 refine LT.pure cJ λe w ρ h1 h2=>?_
 have h3:=h1 x dj _ hx;simp only [av]at h3;obtain⟨rb,hr,he⟩:=h3;obtain⟨V,G,I⟩:=h2 id aq b hb;rw [hr]at G;cases G;obtain⟨v,hv,U⟩:=QZ hg hs (I.cellsAt (ai2 hz O)).1 hz;exact⟨v,by simp only [execOp,ho,he,Instr.loadAt,Instr.sureAddr,bM,bZ,bQ,hv],U⟩
theorem aeR{x:Operand}{t:Nat}(ho:o.op= .store t x y)(hx:aZ R x=aa (.p id k))(hy:aZ R y=aa z)(hb:H id=aa b)(G:b.own=ab)(hs:dq P t=aa sz)(V:0<sz)(ht:z.isTup=af)(U:z.cells.length=sz)(hk:k+sz<=b.cells.length):LT P o R H [id] [(id,aa (b.with (bN b.cells k z)))] ah:=by
 refine LT.of_run cJ λe w ρ h1 h2 _ _=>?_
 have h3:=h1 x dj _ hx;have h4:=h1 y dj _ hy;simp only [av]at h3;obtain⟨rb,hr,he⟩:=h3;obtain⟨h6,O,I⟩:=h2 id aq b hb;rw [hr]at O;cases O;obtain⟨hc,_⟩:=I.cellsAt ag;rw [G]at hc;have hrun:=TD (P:=P) hs hc h4 (SV.not_tup ht) U hk;obtain⟨p1,p2,Z⟩:=I.put (k:=k) G h4 (SV.not_tup ht) ag ag;exact⟨.skip,_,ρ,XK,cI.put hb hr G Z p1 p2,.inr ⟨rfl,rfl⟩⟩
theorem aeS{x:Operand}{t:Nat}(ho:o.op= .store t x y)(hx:aZ R x=aa (.p id k))(hy:aZ R y=aa z)(hb:H id=aa (.box l))(hs:dq P t=aa sz)(ht:z.isTup=af)(O:z.cells.length=sz)(hk:k+sz<=l.length):LT P o R H [id] [(id,aa (.box (bN l k z)))] ah:=by
 refine LT.of_run cJ λe w ρ h1 h2 _ _=>?_
 have h3:=h1 x dj _ hx;have h4:=h1 y dj _ hy;simp only [av]at h3;obtain⟨rb,hr,he⟩:=h3;obtain⟨V,I,G⟩:=h2 id aq _ hb;rw [hr]at I;cases I;have hrun:=TD (P:=P) hs G.1 h4 (SV.not_tup ht) O hk;obtain⟨p1,p2,U⟩:=G.putB (k:=k) h4 (SV.not_tup ht) ag;exact⟨.skip,_,ρ,XK,cI.put hb hr rfl U p1 p2,.inr ⟨rfl,rfl⟩⟩
theorem LW{x:Operand}{a b:Value}(G:∀c,a≠ .agg c)(hi:a≠ .nilIface):(eqGuard op t x y a b).run P w= .ok () w:=by
 cases a<;>first
  |exact absurd rfl (G _)
  |exact absurd rfl hi
  |(cases op<;>simp [eqGuard])
theorem av.plain{x:SV}(h:∀l,x≠ .agg l)(hi:x≠ .inil)(hx:av ρ x v):(∀c,v≠ .agg c)/\v≠ .nilIface:=by
 cases x<;>simp only [av]at hx<;>first
  |exact absurd rfl (h _)
  |exact absurd rfl hi
  |(subst hx;exact⟨λc=>aq,aq⟩)
  |(obtain⟨rfl,_,_,_,rfl⟩:=hx;exact⟨λc=>aq,aq⟩)
  |(obtain⟨_,_,rfl⟩:=hx;exact⟨λc=>aq,aq⟩)
  |(obtain⟨_,rfl,_⟩:=hx;exact⟨λc=>aq,aq⟩)
  |(obtain⟨_,_,_,_,rfl,_⟩:=hx;exact⟨λc=>aq,aq⟩)
theorem aja{x y:SV}(h:iI op x y=aa z):∀l,x≠ .agg l:=by
 intro l e;subst e;cases op<;>simp only [iI]at h<;>first
  |(obtain⟨n,_,hs⟩:=j0.1 h;simp only [wq,tZ]at hs;cases hs;done)
  |(cases y<;>simp only [gG]at h<;>cases h)
theorem ai8{x y:SV}(h:iI op x y=aa z):x≠ .inil:=by intro e;subst e;cases op<;>simp [iI,gG,wq,tZ]at h<;>(try(obtain⟨_,_,h⟩:=h;cases h))
theorem aiu{x y:SV}(h:iI op x y=aa z)(hx:av ρ x v):(∀c,v≠ .agg c)/\v≠ .nilIface:=av.plain (aja h) (ai8 h) hx
theorem uS{t2:TypeId}{x:Operand}{a b:SV}(ho:o.op= .binOp op t x y t2)(hx:aZ R x=aa a)(hy:aZ R y=aa b)(hz:iI op a b=aa z):LT P o R H [] [] (aa z):=by
 refine LT.pure cJ λe w ρ h1 _=>?_
 have h2:=h1 x dj _ hx;have h3:=h1 y dj _ hy;obtain⟨r,hr,G⟩:=ai9 (P:=P) (w:=w) t hz h2 h3;obtain⟨g1,g2⟩:=aiu hz h2;exact⟨r,by simp only [execOp,ho,bM,LW g1 g2,bQ,hr,bZ],G⟩
theorem aeT{op:UnOp}{x:Operand}{a:SV}(ho:o.op= .unOp op t x)(hx:aZ R x=aa a)(hz:D9 op a=aa z):LT P o R H [] [] (aa z):=by
 refine LT.pure cJ λe w ρ h1 _=>?_
 have h2:=h1 x dj _ hx;obtain⟨r,hr,G⟩:=ajx (P:=P) (w:=w) hz h2;exact⟨r,by simp only [execOp,ho,bM,bQ,hr,bZ],G⟩
theorem ad9{s d:TypeId}{k:IntKind}{x:Operand}{a:SV}{ds:TypeDesc}(ho:o.op= .convert s d x)(hs:P.underlying s=aa ds)(hd:P.underlying d=aa (.int k))(hx:aZ R x=aa a)(hz:DT k a=aa z):LT P o R H [] [] (aa z):=by
 refine LT.pure cJ λe w ρ h1 _=>?_
 have h2:=h1 x dj _ hx;obtain⟨I,n,he,G⟩:=aiz hz h2;exact⟨_,by simp only [execOp,ho,he,convert,bM,eS hs,eS hd,bQ,Conv.intToInt,bZ],G⟩
def B7(P:Program)(t f:Nat):Option (Nat×Nat):=
 match P.underlying t with
 |some (.struct fs)=>(fs[f]?).map λx=>(x.offset,x.type)
 |_=>ah
theorem aei{x:Operand}{t f ft:Nat}(ho:o.op= .fieldAddr t x f)(hx:aZ R x=aa (.p id k))(hf:B7 P t f=aa (off,ft))(hs:dq P ft=aa sz)(O:0<sz):LT P o R H [] [] (aa (.p id (k+off))):=by
 refine LT.pure cJ λe w ρ h1 _=>?_
 have h3:=h1 x dj _ hx;simp only [av]at h3;obtain⟨rb,hr,he⟩:=h3;unfold B7 at hf;split at hf
 .rename_i fs hu;obtain⟨I,G,e2⟩:=so.1 hf;cases e2;refine⟨.pointer (aa ⟨rb.blk,rb.off+k+I.offset,ah⟩),?_,N8⟩;simp only [execOp,ho,he,Instr.fieldAt,bM,eS hu,bQ,G,Instr.sureAddr,bZ,fieldPlace,ml hs];rw [if_neg ag,bZ,bQ,qY,bQ]
 .cases hf
theorem Md{o n:Nat}(h:av ρ (.sl id o n sz full) v)(hn:0<n):∃rb c,ρ id=aa rb/\v= .slice (aa ⟨rb.blk,rb.off+o,ah⟩) n c/\n<=c/\(full=ab->c=n)/\rb.virt=af/\o+c*sz<=rb.cap:=by
 simp only [av]at h;obtain⟨rb,a,c,hr,rfl,hc,hf,h0|⟨hv,rfl,G⟩⟩:=h
 .omega
 .exact⟨rb,c,hr,rfl,hc,hf,hv,G⟩
def idxOf:SV->Option Nat
 | .i n=>if 0<=n then aa n.toNat else ah
 | .u8 x=>aa x.toNat
 | .u64 x=>aa x.toNat
 | .u32 x=>aa x.toNat
 |_=>ah
theorem Gg{x:SV}{n:Nat}(h:idxOf x=aa n)(hx:av ρ x v):∃k,v= .int k (n:Int):=by
 cases x<;>simp only [idxOf,av]at h hx<;>try(cases h;done)
 .split at h
  .cases h;exact⟨_,by rw [hx];congr 1;omega⟩
  .cases h
 all_goals(cases h;exact⟨_,hx⟩)
theorem ael{x:Operand}{t el i:Nat}(ho:o.op= .indexAddr t x y)(hx:aZ R x=aa (.p id k))(hy:aZ R y=aa z)(hi:idxOf z=aa i)(hu:P.underlying t=aa (.array len el))(hs:dq P el=aa sz)(hlt:i<len):LT P o R H [] [] (aa (.p id (k+i*sz))):=by
 refine LT.pure cJ λe w ρ h1 _=>?_
 have h3:=h1 x dj _ hx;obtain⟨kk,h4⟩:=Gg hi (h1 y dj _ hy);simp only [av]at h3;obtain⟨rb,hr,he⟩:=h3;have h0:(0:Int)<=(i:Int):=Int.natCast_nonneg _;have G:(i:Int)<(len:Int):=ag;refine⟨.pointer (aa ⟨rb.blk,rb.off+k+i*sz,ah⟩),?_,N8⟩;simp only [execOp,ho,he,h4,Instr.indexAt,asIntOf,bM,eS hu,bQ,Instr.sureAddr,bZ,h0,G,and_self,if_true,ml hs,qY,mq]
theorem aem{x:Operand}{t n el i:Nat}(ho:o.op= .indexAddr t x y)(hx:aZ R x=aa (.sl id k n sz full))(hy:aZ R y=aa z)(hi:idxOf z=aa i)(hu:P.underlying t=aa (.slice el))(hs:dq P el=aa sz)(hlt:i<n):LT P o R H [] [] (aa (.p id (k+i*sz))):=by
 refine LT.pure cJ λe w ρ h1 _=>?_
 obtain⟨rb,c,hr,he,_⟩:=Md (h1 x dj _ hx) ag;obtain⟨kk,h4⟩:=Gg hi (h1 y dj _ hy);have h0:(0:Int)<=(i:Int):=Int.natCast_nonneg _;have G:(i:Int)<(n:Int):=ag;refine⟨.pointer (aa ⟨rb.blk,rb.off+k+i*sz,ah⟩),?_,N8⟩;simp only [execOp,ho,he,h4,Instr.indexAt,asIntOf,bM,eS hu,bQ,bZ,h0,G,and_self,if_true,ml hs,qY,mq]
theorem aek{x:Operand}{t el i:Nat}{r:SV}(ho:o.op= .index t x y)(hx:aZ R x=aa (.agg l))(hy:aZ R y=aa z)(hi:idxOf z=aa i)(hu:P.underlying t=aa (.array len el))(hg:tO P el=aa g)(hs:dq P el=aa sz)(hlt:i<len)(hz:dz g sz l (i*sz)=aa r):LT P o R H [] [] (aa r):=by
 refine LT.pure cJ λe w ρ h1 _=>?_
 have h3:=h1 x dj _ hx;simp only [av]at h3;obtain⟨cs,he,U,hr⟩:=h3;obtain⟨kk,h4⟩:=Gg hi (h1 y dj _ hy);have h0:(0:Int)<=(i:Int):=Int.natCast_nonneg _;have G:(i:Int)<(len:Int):=ag;have key:∃v,(part el ⟨cs⟩ (i*sz)).run P w= .ok v w/\av ρ r v:=by
  unfold dz at hz;unfold part;rw [bM,Hs hg,bQ];cases g with
  |true=>
   simp only [if_true]at hz|-;split at hz
   .cases hz;refine⟨_,by rw [bM,ml hs,bQ,bZ],?_⟩;simp only [av];refine⟨(cs.drop (i*sz)).take sz,?_,?_,(hr.drop _).take _⟩
    .congr 1;apply Array.toList_inj.1;simp [List.extract_eq_take_drop]
    .simp only [cw,jg]at U|-;exact λy hy=>U y (List.mem_of_mem_drop (qS hy))
   .cases hz
  |false=>
   simp only [gE,if_false]at hz|-;obtain⟨v,hv,O⟩:=hr.get hz;refine⟨v,?_,O⟩;have:(⟨cs⟩:Array Value)[i*sz]?=aa v:=by simpa using hv
   rw [this];rfl
 obtain⟨v,hv,I⟩:=key;refine⟨v,?_,I⟩;simp only [execOp,ho,he,h4,Instr.index,asIntOf,bM,eS hu,bQ,bZ,h0,G,and_self,if_true,ml hs,mq,hv]
theorem aeh{x:Operand}{t f ft:Nat}{r:SV}(ho:o.op= .field t x f)(hx:aZ R x=aa (.agg l))(hf:B7 P t f=aa (off,ft))(hg:tO P ft=aa g)(hs:dq P ft=aa sz)(hz:dz g sz l off=aa r):LT P o R H [] [] (aa r):=by
 refine LT.pure cJ λe w ρ h1 _=>?_
 have h3:=h1 x dj _ hx;simp only [av]at h3;obtain⟨cs,he,U,hr⟩:=h3;have key:∃v,(part ft ⟨cs⟩ off).run P w= .ok v w/\av ρ r v:=by
  unfold dz at hz;unfold part;rw [bM,Hs hg,bQ];cases g with
  |true=>
   simp only [if_true]at hz|-;split at hz
   .cases hz;refine⟨_,by rw [bM,ml hs,bQ,bZ],?_⟩;simp only [av];refine⟨(cs.drop off).take sz,?_,?_,(hr.drop _).take _⟩
    .congr 1;apply Array.toList_inj.1;simp [List.extract_eq_take_drop]
    .simp only [cw,jg]at U|-;exact λy hy=>U y (List.mem_of_mem_drop (qS hy))
   .cases hz
  |false=>
   simp only [gE,if_false]at hz|-;obtain⟨v,hv,O⟩:=hr.get hz;refine⟨v,?_,O⟩;have:(⟨cs⟩:Array Value)[off]?=aa v:=by simpa using hv
   rw [this];rfl
 obtain⟨v,hv,I⟩:=key;refine⟨v,?_,I⟩;unfold B7 at hf;split at hf
 .rename_i fs hu;obtain⟨V,G,e2⟩:=so.1 hf;cases e2;simp only [execOp,ho,he,Instr.field,bM,eS hu,bQ,G,asAgg,bZ,hv]
 .cases hf
theorem aeg{x:Operand}{i:Nat}(ho:o.op= .extract x i)(hx:aZ R x=aa (.tup l))(hz:l[i]?=aa z):LT P o R H [] [] (aa z):=by
 refine LT.pure cJ λe w ρ h1 _=>?_
 have h3:=h1 x dj _ hx;simp only [av]at h3;obtain⟨cs,he,hr⟩:=h3;obtain⟨v,hv,G⟩:=hr.get hz;have:(⟨cs⟩:Array Value)[i]?=aa v:=by simpa using hv
 exact⟨v,by simp only [execOp,ho,he,Instr.extract,this,bM,bZ,bQ],G⟩
theorem aeE{x:Operand}(ho:o.op= .nilCheck x)(hx:aZ R x=aa (.p id k)):LT P o R H [] [] (aa (.p id k)):=by
 refine LT.pure cJ λe w ρ h1 _=>?_
 have h3:=h1 x dj _ hx;have h4:=h3;simp only [av]at h3;obtain⟨rb,hr,he⟩:=h3;exact⟨e x,by simp only [execOp,ho,he,bZ],h4⟩
theorem aex{f:Nat}{xs:Array Operand}{zs:List SV}(ho:o.op= .makeFunc (.func f) #[] xs)(hx:xs.toList.map (aZ R)=zs.map aa):LT P o R H [] [] (aa (.fn f zs)):=by
 refine LT.pure cJ λe w ρ h1 _=>?_
 refine⟨.func (.func f) #[] (xs.map e),by simp only [execOp,ho,Instr.makeFunc,Array.map_empty,bM,bZ,bQ],?_⟩;simp only [av];refine⟨(xs.map e).toList,rfl,?_⟩;rw [Array.toList_map];have h2:∀x∈xs.toList,∀v,aZ R x=aa v->av ρ v (e x):=λx hx=>h1 x (by simpa [ho,Op.operands]using hx)
 clear h1 ho;generalize xs.toList=ys at hx h2
 induction ys generalizing zs with
 |nil=>cases zs<;>simp at hx;exact aD.nil_iff.2 rfl
 |cons y ys ih=>
  cases zs with
  |nil=>simp at hx
  |cons z zs=>
   simp at hx;exact aD.cons (h2 y aq z hx.1) (ih hx.2 (λx hx=>h2 x (by simp [hx])))
theorem adY{x:Operand}{t n el:Nat}(ho:o.op= .sliceToArrayPointer t x)(hx:aZ R x=aa (.sl id k n sz full))(hu:P.underlying t=aa (.array len el))(h0:0<len)(hn:len<=n):LT P o R H [] [] (aa (.p id k)):=by
 refine LT.pure cJ λe w ρ h1 _=>?_
 obtain⟨rb,c,hr,he,_⟩:=Md (h1 x dj _ hx) ag;refine⟨.pointer (aa ⟨rb.blk,rb.off+k,ah⟩),?_,by simp only [av];exact⟨rb,hr,rfl⟩⟩;simp only [execOp,ho,he,Instr.arrayAt,bM,eS hu,bQ];rw [if_neg ag,bZ,bQ,bZ]
theorem aet{x:Operand}{t n el:Nat}(ho:o.op= .call {callee:= .builtin .len,args:= #[x],argTypes:= #[t]})(hx:aZ R x=aa (.sl id k n sz full))(hu:P.underlying t=aa (.slice el)):LT P o R H [] [] (aa (.i (n:Int))):=by
 refine LT.pure cJ λe w ρ h1 _=>?_
 have h3:=h1 x fG _ hx;simp only [av]at h3;obtain⟨rb,a,c,hr,he,_⟩:=h3;exact Nx
theorem aeu{x:Operand}{t n c el:Nat}(ho:o.op= .call {callee:= .builtin .len,args:= #[x],argTypes:= #[t]})(hx:aZ R x=aa (.slc id k n c sz))(hu:P.underlying t=aa (.slice el)):LT P o R H [] [] (aa (.i (n:Int))):=by
 refine LT.pure cJ λe w ρ h1 _=>?_
 have h3:=h1 x fG _ hx;simp only [av]at h3;obtain⟨rb,a,c,hr,he,_⟩:=h3;exact Nx
theorem aes{x:Operand}{t el:Nat}(ho:o.op= .call {callee:= .builtin .len,args:= #[x],argTypes:= #[t]})(hx:aZ R x=aa .slnil)(hu:P.underlying t=aa (.slice el)):LT P o R H [] [] (aa (.i 0)):=by
 refine LT.pure cJ λe w ρ h1 _=>?_
 have h3:=h1 x fG _ hx;simp only [av]at h3;exact⟨_,by simp [execOp,ho,resolve,invoke,builtin,Builtin.len_,h3,eS hu,goInt];rfl,gO⟩
theorem aer{x:Operand}{t n el:Nat}(ho:o.op= .call {callee:= .builtin .len,args:= #[x],argTypes:= #[t]})(hu:P.underlying t=aa (.array n el)):LT P o R H [] [] (aa (.i (n:Int))):=by
 refine LT.pure cJ λe w ρ h1 _=>?_
 refine⟨.int .i64 n,?_,gO⟩;simp [execOp,ho,resolve,invoke,builtin,Builtin.len_,eS hu,goInt]
theorem aeC{x:Operand}{t2:Nat}{a b:Int}(ho:o.op= .call {callee:= .builtin .min,args:= #[x,y],argTypes:= #[t1,t2]})(hx:aZ R x=aa (.i a))(hy:aZ R y=aa (.i b)):LT P o R H [] [] (aa (.i (if b<a then b else a))):=by
 refine LT.pure cJ λe w ρ h1 _=>?_
 have h3:=h1 x fG _ hx;have h4:=h1 y fG _ hy;simp only [av]at h3 h4;refine⟨_,?_,by simp only [av];rfl⟩;simp [execOp,ho,resolve,invoke,builtin,Builtin.min_,Builtin.min2,h3,h4]
theorem aeA{x:Operand}{t2:Nat}{a b:Int}(ho:o.op= .call {callee:= .builtin .max,args:= #[x,y],argTypes:= #[t1,t2]})(hx:aZ R x=aa (.i a))(hy:aZ R y=aa (.i b)):LT P o R H [] [] (aa (.i (if b>a then b else a))):=by
 refine LT.pure cJ λe w ρ h1 _=>?_
 have h3:=h1 x fG _ hx;have h4:=h1 y fG _ hy;simp only [av]at h3 h4;refine⟨_,?_,by simp only [av];rfl⟩;simp [execOp,ho,resolve,invoke,builtin,Builtin.max_,Builtin.max2,h3,h4]
theorem aeD{x:Operand}{t2:Nat}{a b:UInt64}(ho:o.op= .call {callee:= .builtin .min,args:= #[x,y],argTypes:= #[t1,t2]})(hx:aZ R x=aa (.u64 a))(hy:aZ R y=aa (.u64 b)):LT P o R H [] [] (aa (.u64 (if b<a then b else a))):=by
 refine LT.pure cJ λe w ρ h1 _=>?_
 have h3:=h1 x fG _ hx;have h4:=h1 y fG _ hy;simp only [av]at h3 h4;refine⟨_,?_,by simp only [av];rfl⟩;simp [execOp,ho,resolve,invoke,builtin,Builtin.min_,Builtin.min2,h3,h4];simp only [gh];split<;>rfl
theorem aeB{x:Operand}{t2:Nat}{a b:UInt64}(ho:o.op= .call {callee:= .builtin .max,args:= #[x,y],argTypes:= #[t1,t2]})(hx:aZ R x=aa (.u64 a))(hy:aZ R y=aa (.u64 b)):LT P o R H [] [] (aa (.u64 (if b>a then b else a))):=by
 refine LT.pure cJ λe w ρ h1 _=>?_
 have h3:=h1 x fG _ hx;have h4:=h1 y fG _ hy;simp only [av]at h3 h4;refine⟨_,?_,by simp only [av];rfl⟩;simp [execOp,ho,resolve,invoke,builtin,Builtin.max_,Builtin.max2,h3,h4];simp only [gh,GT.gt];split<;>rfl
end
def dK(n:Nat):List SV->List SV
 | [z]=>aK n z
 |zs=>(aK n zs).flatten
theorem Hj(n:Nat)(zs:List SV):dK n zs=(aK n zs).flatten:=by
 cases zs with
 |nil=>rfl
 |cons z zs=>
  cases zs with
  |nil=>
   simp only [dK]
   induction n with
   |zero=>rfl
   |succ n ih=>simp [List.replicate_succ,<-ih]
  |cons y ys=>rfl
def nB(G:Nat->Option (Nat×Nat)):List SV->List (Nat×SV)->Option (List SV)
 |l,[]=>aa l
 |l,(i,x)::rest=>
  match G i with
  |none=>ah
  |some (off,sz)=>
   if x.isTup=af/\x.cells.length=sz/\off+sz<=l.length then nB G (bN l off x) rest else ah
def GV(P:Program)(t:TypeId):Option (List (Nat×Nat)):=
 match P.underlying t with
 |some (.struct fields)=>fields.toList.mapM (λf=>(P.info? f.type).map λi=>(f.offset,i.size))
 |_=>ah
def AB(ρ:bw):List (Nat×SV)->List (Nat×Value)->Prop
 | [],vs=>vs= []
 |(i,x)::xs,vs=>∃v G,vs=(i,v)::G/\av ρ x v/\AB ρ xs G
section
variable {P:Program} {ρ ρ':bw} {H:cG} {w w':World}
theorem Qp(off:Nat):∀(vs:List Value) (k:Nat) (cs:Array Value),off+k+vs.length<=cs.size->
  (vs.zipIdx k).foldl (fun(cs:Array Value) (p:Value×Nat)=>cs.setIfInBounds (off+p.2) p.1) cs=jU cs (off+k) vs
 | [],k,cs,_=>by
  simp only [List.zipIdx_nil,List.foldl_nil];apply vy;intro j;rw [u6 _ _ _ (by simpa using ‹_›),if_neg aq]
 |v::vs,k,cs,h=>by
  simp at h;simp only [List.zipIdx_cons,List.foldl_cons];rw [Qp off vs (k+1) _ aA];apply vy;intro j;rw [u6 _ _ _ aA,u6 _ _ _ aA];by_cases h1:j=off+k
  .subst h1;rw [if_neg ag,if_pos aq];rw [Bb ag];simp
  .by_cases h2:off+(k+1)<=j/\j<off+(k+1)+vs.length
   .rw [if_pos h2,if_pos aA,show j-(off+k)=(j-(off+(k+1)))+1 from by omega];simp
   .rw [if_neg h2,if_neg aA,nI ag]
theorem FY{G:Nat->Option (Nat×Nat)}:∀{xs:List (Nat×SV)} {vs:List (Nat×Value)} {l l':List SV} {cs:Array Value},AB ρ xs vs->aD ρ l cs.toList->cw l=ab->nB G l xs=aa l'->
  ∃I,Instr.fill G cs vs=aa I/\aD ρ l' I.toList/\cw l'=ab
 | [],vs,l,l',cs,hp,hr,ha,h=>by
  simp only [AB]at hp;subst hp;simp only [nB,Option.some.injEq]at h;subst h;exact⟨cs,rfl,hr,ha⟩
 |(i,x)::xs,vs,l,l',cs,hp,hr,ha,h=>by
  simp only [AB]at hp;obtain⟨v,h9,rfl,hx,h8⟩:=hp;simp only [nB]at h;cases O:G i with
  |none=>rw [O]at h;cases h
  |some q=>
   obtain⟨off,sz⟩:=q;rw [O]at h;simp only at h;split at h
   .rename_i hc;obtain⟨h1,h2,h3⟩:=hc;obtain⟨V,U⟩:=hx.cells_rel (SV.not_tup h1);have cx:=V.length;have h6:=hr.length;simp only [qN]at cx h6;have gS:v.cells.zipIdx.foldl (fun(cs:Array Value) (p:Value×Nat)=>cs.setIfInBounds (off+p.2) p.1) cs=jU cs off v.cells.toList:=by have:=Qp off v.cells.toList 0 cs aA;rw [qT]at this;rw [<-this,<-Array.foldl_toList,Array.toList_zipIdx]
    have h7:aD ρ (bN l off x) (jU cs off v.cells.toList).toList:=by
     rw [AL l off x ag];have e:(jU cs off v.cells.toList).toList=cs.toList.take off++v.cells.toList++cs.toList.drop (off+x.cells.length):=by simp only [jU,qN,cx]
     rw [e];exact((hr.take _).append V).append (hr.drop _)
    have Z:cw (bN l off x)=ab:=by
     rw [AL l off x ag];simp only [cw,jg,mu]at ha U|-;rintro y ((hy|hy)|hy)
     .exact ha y (qS hy)
     .exact U y hy
     .exact ha y (List.mem_of_mem_drop hy)
    obtain⟨I,g1,g2,g3⟩:=FY (cs:=jU cs off v.cells.toList) h8 h7 Z h;refine⟨I,?_,g2,g3⟩;simp only [Instr.fill,O];rw [if_neg aA];rw [<-gS]at g1;exact g1
   .cases h
theorem Hc{e:Operand->Value}{R:eM}:∀{parts:List (Nat×Operand)} {xs:List (Nat×SV)},(∀p∈parts,∀v,aZ R p.2=aa v->av ρ v (e p.2))->
  parts.map (λp=>(p.1,aZ R p.2))=xs.map (λp=>(p.1,aa p.2))->AB ρ xs (parts.map λp=>(p.1,e p.2))
 | [],xs,_,h=>by cases xs<;>simp at h;simp [AB]
 |p::ps,xs,hp,h=>by
  cases xs with
  |nil=>simp at h
  |cons x xs=>
   obtain⟨i,x⟩:=x;simp at h;obtain⟨⟨h1,h2⟩,h3⟩:=h;simp only [AB,iT];exact⟨e p.2,ps.map (λp=>(p.1,e p.2)),by rw [h1],hp p aq x h2,Hc (λq hq=>hp q (by simp [hq])) (by simpa using h3)⟩
theorem A9(h:jm P t=aa z):∃i v,P.info? t=aa i/\i.zero=aa v/\(∀ρ,av ρ z v)/\∀l,z≠ .tup l:=by unfold jm at h;obtain⟨i,hi,h2⟩:=j0.1 h;obtain⟨v,hv,h3⟩:=j0.1 h2;exact⟨i,v,hi,hv,λρ=>(qo h3).1,(qo (ρ:=λ_=>ah) h3).2⟩
theorem Lq(G:∀x,(∃p∈parts.toList,p.2=x)->x∈o.op.operands)(h1:∀x∈o.op.operands,∀v,aZ R x=aa v->av ρ v (e x)):∀p∈parts.toList,∀v,aZ R p.2=aa v->av ρ v (e p.2):=λp hp v hv=>h1 p.2 (G _ ⟨p,hp,rfl⟩) v hv
theorem KZ(parts:Array (Nat×Operand))(e:Operand->Value):(parts.map fun(i,x)=>(i,e x)).toList=parts.toList.map λp=>(p.1,e p.2):=by rw [Array.toList_map]
theorem ad4{xs:List (Nat×SV)}{G:List (Nat×Nat)}(ho:o.op= .build t parts)(hx:parts.toList.map (λp=>(p.1,aZ R p.2))=xs.map (λp=>(p.1,aa p.2)))(hz:jm P t=aa z)(hp:GV P t=aa G)(hf:nB (λi=>G[i]?) z.cells xs=aa l):LT P o R H [] [] (aa (.agg l)):=by
 refine LT.pure cJ λe w ρ h1 _=>?_
 obtain⟨i,v,hi,hv,hr,ht⟩:=A9 hz;obtain⟨O,I⟩:=(hr ρ).cells_rel ht;obtain⟨cs,g1,g2,g3⟩:=FY (Hc (Lq (λx hx=>N9) h1) hx) O I hf;refine⟨.agg cs,?_,by simp only [av];exact⟨cs.toList,rfl,g3,g2⟩⟩;have hb:P.built t (parts.map fun(i,x)=>(i,e x)).toList=aa cs:=by
  rw [KZ];unfold GV at hp;unfold Program.built;split at hp
  .rename_i fs hu;simp only [hi,hu,hv,hp];simpa using g1
  .cases hp
 simp only [execOp,ho,bM,run_build w t _ cs hb,bQ,bZ]
theorem ad3{t n el:Nat}{xs:List (Nat×SV)}(ho:o.op= .build t parts)(hx:parts.toList.map (λp=>(p.1,aZ R p.2))=xs.map (λp=>(p.1,aa p.2)))(hu:P.underlying t=aa (.array n el))(hz:jm P t=aa z)(hs:dq P el=aa sz)(hf:nB (λi=>aa (i*sz,sz)) z.cells xs=aa l):LT P o R H [] [] (aa (.agg l)):=by
 refine LT.pure cJ λe w ρ h1 _=>?_
 obtain⟨i,v,hi,hv,hr,ht⟩:=A9 hz;obtain⟨O,I⟩:=(hr ρ).cells_rel ht;obtain⟨cs,g1,g2,g3⟩:=FY (Hc (Lq (λx hx=>N9) h1) hx) O I hf;refine⟨.agg cs,?_,by simp only [av];exact⟨cs.toList,rfl,g3,g2⟩⟩;have hb:P.built t (parts.map fun(i,x)=>(i,e x)).toList=aa cs:=by rw [KZ];unfold dq at hs;obtain⟨U,G,rfl⟩:=so.1 hs;unfold Program.built;simp only [hi,hu,hv,G];exact g1
 simp only [execOp,ho,bM,run_build w t _ cs hb,bQ,bZ]
theorem ae8(zero:Array Value)(n:Nat):(madeCells zero ((n+1)*zero.size)).toList=(madeCells zero (n*zero.size)).toList++zero.toList:=by
 by_cases hz:zero.size=0
 .have:zero= #[]:=Array.eq_empty_of_size_eq_zero hz;subst this;simp [madeCells]
 .simp only [madeCells,Array.toList_map,Array.toList_range];rw [nh,Nat.one_mul,List.range_add,dU];congr 1;apply ku;intro j;by_cases hj:j<zero.size
  .simp [hj,Nat.mul_add_mod_self_right,gq hj]
  .rw [dI aA,dI aA]
theorem BU{zs:List SV}{zero:Array Value}(h:aD ρ zs zero.toList)(G:cw zs=ab):∀n,aD ρ (dK n zs) (madeCells zero (n*zero.size)).toList/\cw (dK n zs)=ab
 |0=>by simp [Hj,madeCells,aD,cw]
 |n+1=>by
  obtain⟨h1,h2⟩:=BU h G n;rw [Hj]at h1 h2|-;rw [List.replicate_succ',List.flatten_append,ae8];refine⟨h1.append kV,?_⟩;simp [cw]at h2 G|-;exact⟨h2,G⟩
theorem we(n:Nat)(zs:List SV):(dK n zs).length=n*zs.length:=by rw [Hj];simp
theorem cI.row{vs:Array Value}(d:Nat)(hn:ρ nid=ah)(G:cw l=ab)(hr:aD ρ l (vs.toList.take l.length))(hl:l.length<=vs.size)(hz:l8 t vs fz):cI ρ H w [(nid,aa (.row t l))] (setR ρ nid ⟨w.heap.size,0,vs.size,af⟩) {(w.alloc (.cells vs t fz))with drawn:=d}:=
 cI.new (b:= .row t l) (rb:=⟨w.heap.size,0,vs.size,af⟩) d hn rfl
  (.inr ⟨rfl,vs,fz,alloc_heap_new w _,hz,aq,G,by simpa using hr,hl⟩)
theorem aia{t n el:Nat}{parts:Array (Nat×Value)}{cs:Array Value}(hu:P.underlying t=aa (.slice el))(hs:dq P el=aa sz)(hi:P.info? el=aa i)(hv:i.zero=aa v)(hn:n*sz<=16777216)(hf:Instr.fill (λi=>aa (i*sz,sz)) (madeCells v.cells (n*sz)) parts.toList=aa cs):(Instr.buildSlice t n parts).run P w= .ok (.slice (aa ⟨w.heap.size,0,ah⟩) n n) (w.alloc (.cells cs el)):=by
 have I:¬(16777216<n*sz):=ag;have G:(2:Nat)^24=16777216:=aw;have hz0:(zeroValue el).run P w= .ok v w:=by simp [zeroValue,typeInfo,hi,hv]
 unfold madeCells at hf;unfold Instr.buildSlice;simp only [bM,eS hu,ml hs,bQ,G,gt_iff_lt,I,if_false];by_cases h0:n*sz=0
 .rw [h0,Array.range_zero']at hf;simp only [h0,if_true,bZ,bM,bQ,Array.range_zero'];rw [show Array.map (λx=>(#[]:Array Value)[x%(#[]:Array Value).size]!) #[]=Array.map (λx=>v.cells[x%v.cells.size]!) #[]from by simp,hf];rfl
 .simp only [h0,if_false,bZ,bM,bQ,hz0,hf];rfl
theorem ad2{t n el:Nat}{xs:List (Nat×SV)}(ho:o.op= .buildSlice t n parts)(hx:parts.toList.map (λp=>(p.1,aZ R p.2))=xs.map (λp=>(p.1,aa p.2)))(hu:P.underlying t=aa (.slice el))(hz:jm P el=aa z)(hs:dq P el=aa sz)(O:z.cells.length=sz)(hn:n*sz<=16777216)(hf:nB (λi=>aa (i*sz,sz)) (dK n z.cells) xs=aa l):LT P o R H [] [(nid,aa (.row el l))] (aa (.sl nid 0 n sz ab)):=by
 refine LT.of_run cJ λe w ρ h1 _ _ G=>?_
 obtain⟨i,v,hi,hv,hr,ht⟩:=A9 hz;obtain⟨zr,za⟩:=(hr ρ).cells_rel ht;have I:=zr.length;simp only [qN]at I;obtain⟨mr,ma⟩:=BU zr za n;rw [I,O]at mr;obtain⟨cs,g1,g2,g3⟩:=FY (Hc (Lq (λx hx=>N9) h1) hx) mr ma hf;have V:=g2.length;simp only [qN]at V;have cx:l.length=n*sz:=by
  have:∀(ys:List (Nat×SV)) (l U:List SV),nB (λi=>aa (i*sz,sz)) l ys=aa U->U.length=l.length:=by
   intro ys
   induction ys with
   |nil=>intro l U h;simp only [nB,Option.some.injEq]at h;rw [h]
   |cons y ys ih=>
    intro l U h;obtain⟨i,y⟩:=y;simp only [nB]at h;split at h
    .rename_i hc;rw [ih _ _ h,AL _ _ _ ag];simp;omega
    .cases h
  rw [this _ _ _ hf,we,O]
 refine⟨.value (.slice (aa ⟨w.heap.size,0,ah⟩) n n),w.alloc (.cells cs el),_,?_,cI.row w.drawn (G nid (aa (.row el l)) aq aq) g3 (by rw [bW (by simp;omega)];exact g2) ag (.inl rfl),.inl ⟨_,rfl,?_⟩⟩
 .rw [<-KZ]at g1;simp only [execOp,ho,bM,aia hu hs hi hv hn g1,bQ,bZ]
 .intro u Z;cases Z;simp only [av];exact⟨_,_,n,gN _ _ _,rfl,bH _,λ_=>rfl,.inr ⟨rfl,rfl,dt⟩⟩
def oO(P:Program)(t:TypeId):Option Nat:=(P.info? t).map (·.bytes)
theorem aez{t el:Nat}{x:Operand}{n m:Int}(ho:o.op= .makeSlice t x y)(hx:aZ R x=aa (.i n))(hy:aZ R y=aa (.i m))(hu:P.underlying t=aa (.slice el))(hz:jm P el=aa z)(hs:dq P el=aa sz)(U:z.cells.length=sz)(hb:oO P el=aa by_)(h0:0<=n)(hnm:n<=m)(hm:(by_:Int)*m<=281474976710656)(Z:m<=9223372036854775807):LT P o R H [] [(nid,aa (.row el (dK n.toNat z.cells)))] (aa (.sl nid 0 n.toNat sz (decide (n=m)))):=by
 refine LT.of_run cJ λe w ρ h1 _ _ G=>?_
 have hx2:=h1 x dj _ hx;have O:=h1 y dj _ hy;simp only [av]at hx2 O;obtain⟨i,v,hi,hv,hr,ht⟩:=A9 hz;obtain⟨zr,za⟩:=(hr ρ).cells_rel ht;have h8:=zr.length;simp only [qN]at h8;obtain⟨mr,ma⟩:=BU zr za n.toNat;obtain⟨V,_⟩:=BU zr za m.toNat;unfold oO at hb;unfold dq at hs;rw [hi]at hb hs;simp only [nq,Option.some.injEq]at hb hs;have hrun:=run_make (P:=P) w t el i v hu hi hv .i64 .i64 n m h0 hnm (by rw [hb];exact hm) Z;have h6:v.cells.size=i.size:=ag;rw [h6]at mr V;have l1:=mr.length;have l2:=V.length;rw [we]at l1 l2;simp only [qN]at l1 l2;have h9:n.toNat*z.cells.length<=m.toNat*z.cells.length:=iV _ ag;have I:(madeCells v.cells (m.toNat*i.size)).toList.take (n.toNat*z.cells.length)=(madeCells v.cells (n.toNat*i.size)).toList:=by rw [U,<-hs];simp only [madeCells,Array.toList_map,Array.toList_range,<-iU,List.take_range];congr 2;have:n.toNat*i.size<=m.toNat*i.size:=iV _ ag;omega
 refine⟨.value (.slice (aa ⟨w.heap.size,0,ah⟩) n.toNat m.toNat),w.alloc (.cells (madeCells v.cells (m.toNat*i.size)) el),_,?_,
  cI.row w.drawn (G nid (aa (.row el (dK n.toNat z.cells))) aq aq) ma (by rw [we,I];exact mr) (by rw [we];omega) (.inl rfl),.inl ⟨_,rfl,?_⟩⟩
 .simp only [execOp,ho,hx2,O,bM,hrun,bQ,bZ]
 .intro u h7;cases h7;simp only [av];refine⟨_,_,m.toNat,gN _ _ _,rfl,ag,λhd=>by simp at hd;omega,.inr ⟨rfl,rfl,?_⟩⟩;simp only [ig];rw [l2,U];exact bH _
def lC(R:eM)(d:Nat):Option Operand->Option Nat
 |none=>aa d
 |some x=>(aZ R x).bind idxOf
theorem w9{x:Operand}(h:lC R d (aa x)=aa k)(h1:∀v,aZ R x=aa v->av ρ v (e x)):∃kk,e x= .int kk (k:Int):=by simp only [lC]at h;obtain⟨v,hv,h2⟩:=j0.1 h;exact Gg h2 (h1 v hv)
theorem vd{x:Value}{k:IntKind}{n y:Nat}{c:BoundsCode}(h:x= .int k (n:Int))(hn:n<=y):(Instr.sliceBound x y c).run P w= .ok n w:=by subst h;have h0:(0:Int)<=(n:Int):=Int.natCast_nonneg _;have h1:(n:Int)<=(y:Int):=ag;simp only [Instr.sliceBound,asIntOf,bM,bZ,bQ,h0,h1,and_self,if_true,mq]
theorem DR{s:Bool}{cap l h:Nat}{lo hi mx:Option Value}(hm:m<=cap)(O:h<=m)(hl:l<=h)(e1:(lo=ah/\l=0)\/∃v k,lo=aa v/\v= .int k (l:Int))(e2:(hi=ah/\h=len/\mx=ah)\/∃v k,hi=aa v/\v= .int k (h:Int))(e3:(mx=ah/\m=cap)\/∃v k,mx=aa v/\v= .int k (m:Int)):(Instr.sliceBounds s len cap lo hi mx).run P w= .ok (l,h,m) w:=by
 unfold Instr.sliceBounds;rcases e3 with⟨rfl,rfl⟩|⟨vm,km,rfl,U⟩
 .rcases e2 with⟨rfl,rfl,_⟩|⟨vh,kh,rfl,G⟩
  .rcases e1 with⟨rfl,rfl⟩|⟨Z,V,rfl,el⟩
   .simp only [bM,bZ,bQ]
   .simp only [bM,bZ,bQ,vd el hl]
  .rcases e1 with⟨rfl,rfl⟩|⟨Z,V,rfl,el⟩
   .simp only [bM,bZ,bQ,vd G O]
   .simp only [bM,bZ,bQ,vd G O,vd el hl]
 .rcases e2 with⟨rfl,rfl,I⟩|⟨vh,kh,rfl,G⟩
  .cases I
  .rcases e1 with⟨rfl,rfl⟩|⟨Z,V,rfl,el⟩
   .simp only [bM,bZ,bQ,vd G O,vd U hm]
   .simp only [bM,bZ,bQ,vd G O,vd el hl,vd U hm]
theorem CX{l:Nat}(h:lC R 0 lo=aa l)(h1:∀x,lo=aa x->∀v,aZ R x=aa v->av ρ v (e x)):(lo.map e=ah/\l=0)\/∃v k,lo.map e=aa v/\v= .int k (l:Int):=by
 cases lo with
 |none=>simp only [lC,Option.some.injEq]at h;exact .inl ⟨rfl,h.symm⟩
 |some x=>obtain⟨k,hk⟩:=w9 h (h1 x rfl);exact .inr ⟨_,k,rfl,hk⟩
theorem aeO{t el n l h:Nat}{x:Operand}(ho:o.op= .slice t x lo hi ah)(hx:aZ R x=aa (.sl id k n sz full))(hu:P.underlying t=aa (.slice el))(hs:dq P el=aa sz)(V:lC R 0 lo=aa l)(I:lC R n hi=aa h)(U:l<=h)(hn:h<=n):LT P o R H [] [] (aa (.sl id (k+l*sz) (h-l) sz (full&&decide (h=n)))):=by
 refine LT.pure cJ λe w ρ h1 _=>?_
 have hx2:=h1 x dj _ hx;simp only [av]at hx2;obtain⟨rb,a,c,hr,he,hnc,G,O⟩:=hx2;have b1:=CX V (λy hy=>h1 y EI);have b2:(hi.map e=ah/\h=n/\(ah:Option Value)=ah)\/∃v k,hi.map e=aa v/\v= .int k (h:Int):=by
  cases hi with
  |none=>simp only [lC,Option.some.injEq]at I;exact .inl ⟨rfl,I.symm,rfl⟩
  |some y=>obtain⟨kk,hk⟩:=w9 I (h1 y dj);exact .inr ⟨_,kk,rfl,hk⟩
 have hb:=DR (P:=P) (w:=w) (s:=ab) (len:=n) (cap:=c) (l:=l) (h:=h) (m:=c) (mx:=ah) (bH _) ag U b1 b2 (.inl ⟨rfl,rfl⟩);refine⟨.slice (if c=l then a else a.map (·.add (l*sz))) (h-l) (c-l),?_,?_⟩
 .exact Xh
 .simp only [av];refine⟨rb,_,c-l,hr,rfl,ag,λhf=>?_,?_⟩
  .simp at hf;have:=G hf.1;omega
  .rcases O with h0|⟨hv,ha,Z⟩
   .left;omega
   .by_cases hc:c=l
    .left;omega
    .right;refine⟨hv,?_,?_⟩
     .rw [if_neg hc,ha,nq,qY,sn]
     .rw [Nat.sub_mul];have:l*sz<=c*sz:=iV _ ag;omega
theorem aeQ{t el n c l h:Nat}{x:Operand}(ho:o.op= .slice t x lo hi ah)(hx:aZ R x=aa (.slc id k n c sz))(hu:P.underlying t=aa (.slice el))(hs:dq P el=aa sz)(V:lC R 0 lo=aa l)(I:lC R n hi=aa h)(U:l<=h)(hn:h<=c):LT P o R H [] [] (aa (.slc id (k+l*sz) (h-l) (c-l) sz)):=by
 refine LT.pure cJ λe w ρ h1 _=>?_
 have hx2:=h1 x dj _ hx;simp only [av]at hx2;obtain⟨rb,a,G,hr,he,hnc,h6,O⟩:=hx2;have b1:=CX V (λy hy=>h1 y EI);have b2:(hi.map e=ah/\h=n/\(ah:Option Value)=ah)\/∃v k,hi.map e=aa v/\v= .int k (h:Int):=by
  cases hi with
  |none=>simp only [lC,Option.some.injEq]at I;exact .inl ⟨rfl,I.symm,rfl⟩
  |some y=>obtain⟨kk,hk⟩:=w9 I (h1 y dj);exact .inr ⟨_,kk,rfl,hk⟩
 have hb:=DR (P:=P) (w:=w) (s:=ab) (len:=n) (cap:=G) (l:=l) (h:=h) (m:=G) (mx:=ah) (bH _) ag U b1 b2 (.inl ⟨rfl,rfl⟩);refine⟨.slice (if G=l then a else a.map (·.add (l*sz))) (h-l) (G-l),?_,?_⟩
 .exact Xh
 .simp only [av];refine⟨rb,_,G-l,hr,rfl,ag,ag,?_⟩;rcases O with h0|⟨hv,ha,Z⟩
  .left;omega
  .by_cases hc:G=l
   .left;omega
   .right;refine⟨hv,?_,?_⟩
    .rw [if_neg hc,ha,nq,qY,sn]
    .rw [Nat.sub_mul];have:l*sz<=G*sz:=iV _ ag;omega
theorem aeP{t el n l h:Nat}{x z:Operand}(ho:o.op= .slice t x lo (aa y) (aa z))(hx:aZ R x=aa (.sl id k n sz full))(hu:P.underlying t=aa (.slice el))(hs:dq P el=aa sz)(h6:lC R 0 lo=aa l)(O:lC R n (aa y)=aa h)(h7:lC R n (aa z)=aa m)(Z:l<=h)(U:h<=m)(hn:m<=n):LT P o R H [] [] (aa (.sl id (k+l*sz) (h-l) sz (decide (h=m)))):=by
 refine LT.pure cJ λe w ρ h1 _=>?_
 have hx2:=h1 x dj _ hx;simp only [av]at hx2;obtain⟨rb,a,c,hr,he,hnc,I,G⟩:=hx2;have b1:=CX h6 (λy hy=>h1 y EI);obtain⟨k2,hk2⟩:=w9 O (h1 y dj);obtain⟨k3,V⟩:=w9 h7 (h1 z dj);have hb:=DR (P:=P) (w:=w) (s:=ab) (len:=n) (cap:=c) (l:=l) (h:=h) (m:=m) (hi:=aa (e y)) (mx:=aa (e z)) ag U Z b1 (.inr ⟨_,k2,rfl,hk2⟩) (.inr ⟨_,k3,rfl,V⟩);refine⟨.slice (if m=l then a else a.map (·.add (l*sz))) (h-l) (m-l),?_,?_⟩
 .simp only [execOp,ho,he,Instr.sliceAt,Instr.slice,nq,bM,eS hu,bQ,hb,ml hs,bZ]
 .simp only [av];refine⟨rb,_,m-l,hr,rfl,ag,λhf=>by simp at hf;omega,?_⟩
  .rcases G with h0|⟨hv,ha,h8⟩
   .left;omega
   .by_cases hc:m=l
    .left;omega
    .right;refine⟨hv,?_,?_⟩
     .rw [if_neg hc,ha,nq,qY,sn]
     .rw [Nat.sub_mul];have h2:l*sz<=m*sz:=iV _ ag;have h3:m*sz<=c*sz:=iV _ ag;omega
theorem aeM{t el l h:Nat}{x:Operand}(ho:o.op= .slice t x lo hi ah)(hx:aZ R x=aa (.p id k))(hb:H id=aa b)(hu:P.underlying t=aa (.array len el))(hs:dq P el=aa sz)(Z:lC R 0 lo=aa l)(I:lC R len hi=aa h)(V:l<=h)(hn:h<=len)(h6:0<len*sz)(hin:k+len*sz<=b.cells.length):LT P o R H [id] [] (aa (.sl id (k+l*sz) (h-l) sz (decide (h=len)))):=by
 refine LT.pure cJ λe w ρ h1 h2=>?_
 have hx2:=h1 x dj _ hx;simp only [av]at hx2;obtain⟨rb,hr,he⟩:=hx2;obtain⟨h7,O,G⟩:=h2 id aq b hb;rw [hr]at O;cases O;have hv:=(G.cellsAt ag).2;have U:b.cells.length<=rb.cap:=by
  cases b with
  |obj y=>simp [SB.cells]
  |ext y=>simp [SB.cells]
  |ro l=>rcases G with rfl|G;(simp [SB.cells]);exact G.2.1
  |box l=>exact G.2.1
  |row t l=>rcases G with⟨_,rfl⟩|⟨_,c,fz,_,_,_,_,_,hl⟩;(simp [SB.cells]);exact hl
 have b1:=CX Z (λy hy=>h1 y EI);have b2:(hi.map e=ah/\h=len/\(ah:Option Value)=ah)\/∃v k,hi.map e=aa v/\v= .int k (h:Int):=by
  cases hi with
  |none=>simp only [lC,Option.some.injEq]at I;exact .inl ⟨rfl,I.symm,rfl⟩
  |some y=>obtain⟨kk,hk⟩:=w9 I (h1 y dj);exact .inr ⟨_,kk,rfl,hk⟩
 have hb2:=DR (P:=P) (w:=w) (s:=af) (len:=len) (cap:=len) (l:=l) (h:=h) (m:=len) (mx:=ah) (bH _) ag V b1 b2 (.inl ⟨rfl,rfl⟩);refine⟨.slice (aa (if len=l then⟨rb.blk,rb.off+k,ah⟩else(⟨rb.blk,rb.off+k,ah⟩:Addr).add (l*sz))) (h-l) (len-l),?_,?_⟩
 .simp only [execOp,ho,he,Instr.sliceAt,Instr.sureAddr,Option.map_none,bM,eS hu,bQ,hb2,ml hs,bZ]
 .simp only [av];refine⟨rb,_,len-l,hr,rfl,ag,λhf=>by simp at hf;omega,?_⟩;by_cases hc:len=l
  .left;omega
  .right;refine⟨hv,?_,?_⟩
   .rw [if_neg hc,qY,sn]
   .rw [Nat.sub_mul];have:l*sz<=len*sz:=iV _ ag;omega
theorem aeN{t el:Nat}{x:Operand}(ho:o.op= .slice t x lo hi ah)(hx:aZ R x=aa .slnil)(hu:P.underlying t=aa (.slice el))(hs:dq P el=aa sz)(I:lC R 0 lo=aa 0)(G:lC R 0 hi=aa 0):LT P o R H [] [] (aa .slnil):=by
 refine LT.pure cJ λe w ρ h1 _=>?_
 have hx2:=h1 x dj _ hx;simp only [av]at hx2;have O:=CX I (λy hy=>h1 y EI);have U:(hi.map e=ah/\0=0/\(ah:Option Value)=ah)\/∃v k,hi.map e=aa v/\v= .int k ((0:Nat):Int):=by
  cases hi with
  |none=>exact .inl ⟨rfl,rfl,rfl⟩
  |some y=>obtain⟨kk,hk⟩:=w9 G (h1 y dj);exact .inr ⟨_,kk,rfl,hk⟩
 have hb:=DR (P:=P) (w:=w) (s:=ab) (len:=0) (cap:=0) (l:=0) (h:=0) (m:=0) (mx:=ah) (bH _) ag (bH _) O U (.inl ⟨rfl,rfl⟩);refine⟨.slice ah 0 0,?_,gO⟩;simp only [execOp,ho,hx2,Instr.sliceAt,Instr.slice,Option.map_none,bM,eS hu,bQ,hb,ml hs,bZ,if_true,pR]
end
section
variable {P:Program} {ρ ρ':bw} {H:cG} {w w':World}
theorem cI.virtual(hn:ρ nid=ah):cI ρ H w [(nid,aa (.row t []))] (setR ρ nid ⟨0,0,0,ab⟩) w:=by
 have he:fK ρ (setR ρ nid ⟨0,0,0,ab⟩):=fK.setR _ hn;refine⟨he,?_,?_,Fr.refl _ _,?_,?_⟩
 .intro id r hr;by_cases e:id=nid
  .subst e;exact .inr ⟨_,lx.2 rfl⟩
  .rw [lO ρ _ e]at hr;exact .inl hr
 .intro id x hx;simp at hx;obtain⟨rfl,rfl⟩:=hx;exact⟨_,gN _ _ _,.inl ⟨rfl,rfl⟩⟩
 .intro id x r k o hx hr hf;simp at hx;obtain⟨rfl,rfl⟩:=hx;rw [gN]at hr;cases hr;simp [foot]at hf
 .intro i j bi G ri I hne hi hj;simp at hi hj;exact EB
theorem Bl{t ty el n c:Nat}{x:Value}(hT:P.underlying t=aa (.slice el))(hX:P.underlying xT=aa dx)(I:∀k,dx≠ .int k)(hs:dq P el=aa sz)(hl:(Builtin.lenOf x).run P w= .ok m w)(hf:(Builtin.firstCells sz m x).run P w= .ok ⟨news⟩ w)(G:n+m<=c):(Builtin.append_ #[t,xT] ty #[.slice a n c,x]).run P w=(match a with|some a=>(storeCells (a.add (n*sz)) news).run P w|none=> .ok () w).andThen λ_ w'=> .ok (.slice a (n+m) c) w':=by
  have hm:(dx matches .int _)=af:=by cases dx<;>first|rfl|exact absurd rfl (I _)
  have e1:(underlying xT).run P w= .ok dx w:=eS hX;unfold Builtin.append_;simp only [sY,uh,pP,bM,eS hT,bQ,ml hs,e1,bZ];cases dx<;>first
    |exact absurd rfl (I _)
    | (simp only [gE, if_false, wP, if_true, hl, bQ, G, bM, hf]
       cases a<;>simp [bZ,pd])
theorem Je{t ty el n c:Nat}{x z:Value}{olds:List Value}(hT:P.underlying t=aa (.slice el))(hX:P.underlying xT=aa dx)(V:∀k,dx≠ .int k)(hi:P.info? el=aa i)(hz:i.zero=aa z)(Z:i.size=sz)(hl:(Builtin.lenOf x).run P w= .ok m w)(hf:(Builtin.firstCells sz m x).run P w.drew= .ok ⟨news⟩ w.drew)(ho:(Builtin.firstCells sz n (.slice a n c)).run P w.drew= .ok ⟨olds⟩ w.drew)(hg:c<n+m)(h6:0<i.bytes)(h48:Builtin.nextslicecap (n+m) c*i.bytes<=281474976710656):(Builtin.append_ #[t,xT] ty #[.slice a n c,x]).run P w= .ok (.slice (aa ⟨w.heap.size,0,ah⟩) (n+m) (grownCap w (n+m) c el)) (w.drew.alloc (.cells ((⟨olds⟩:Array Value)++⟨news⟩++Builtin.zeroCells z.cells (grownCap w (n+m) c el-(n+m))) el)):=by
  have hn:¬(n+m<=c):=ag;have G:¬(281474976710656<Builtin.nextslicecap (n+m) c*i.bytes):=ag;have O:¬(i.bytes=0):=ag;have e1:(underlying xT).run P w= .ok dx w:=eS hX;have e2:∀w:World,(typeInfo el).run P w= .ok i w:=λw=>by simp [typeInfo,hi]
  have e3:∀w:World,(zeroValue el).run P w= .ok z w:=λw=>by simp [zeroValue,typeInfo,hi,hz]
  have e4:(sizeOf el).run P w= .ok sz w:=by simp [sizeOf,typeInfo,hi,Z]
  have U:(choose (.appendCap (n+m) c el)).run P w= .ok (grownCap w (n+m) c el) w.drew:=by rw [run_choose];rfl
  have I:(2:Nat)^48=281474976710656:=aw;unfold Builtin.append_;simp only [sY,uh,pP,bM,eS hT,bQ,e4,e1,bZ];cases dx<;>first
    |exact absurd rfl (V _)
    | (simp only [gE, if_false, wP, if_true, hl, bQ, hn, bM, e2, O, false_or, or_false, and_false, gt_iff_lt, I, G, U, run_askRoom, ho, hf, e3, newRow, run_newObj, bZ]
       rfl)
def tj(P:Program)(ρ:bw)(w:World)(x:Value)(sz m:Nat)(ys:List SV):Prop:=
 ∃vs,(∀d,(Builtin.lenOf x).run P {w with drawn:=d}= .ok m {w with drawn:=d})/\(∀d,(Builtin.firstCells sz m x).run P {w with drawn:=d}= .ok ⟨vs⟩ {w with drawn:=d})/\aD ρ ys vs/\cw ys=ab/\ys.length=m*sz/\
  ∀k,k<=m->∀d,(Builtin.firstCells sz k x).run P {w with drawn:=d}= .ok ⟨vs.take (k*sz)⟩ {w with drawn:=d}
theorem qD{o:Nat}(hx:av ρ (.sl id o m sz full) v)(hr:ρ id=aa rb)(hb:cd ρ w rb b)(hin:o+m*sz<=b.cells.length):tj P ρ w v sz m ((b.cells.drop o).take (m*sz)):=by
 by_cases hm:m*sz=0
 .simp only [av]at hx;obtain⟨V,a,c,G,rfl,U,_,_⟩:=hx;refine⟨[],λ_=>rfl,λd=>?_,by rw [hm];simp [aD],by rw [hm];simp [cw],by simp [hm],λk hk d=>?_⟩
  .cases a<;>simp [Builtin.firstCells,loadCells,loadCellsFrom,hm]
  .have:k*sz=0:=by have h2:k*sz<=m*sz:=iV _ hk;omega
   cases a<;>simp [Builtin.firstCells,loadCells,loadCellsFrom,this]
 .have O:0<m:=Nat.pos_of_ne_zero (λe=>hm (by rw [e];simp));obtain⟨V,c,G,rfl,U,_,_,_⟩:=Md hx O;rw [hr]at G;cases G;obtain⟨⟨Z,t,fz,hca,ha,hrl,_,h6⟩,_⟩:=hb.cellsAt ag;have I:=hrl.length;simp only [eZ,fQ,qN]at I;have key:∀k,k<=m->∀d:Nat,(Builtin.firstCells sz k (.slice (aa ⟨rb.blk,rb.off+o,ah⟩) m c)).run P {w with drawn:=d}= .ok ⟨(Z.toList.drop (rb.off+o)).take (k*sz)⟩ {w with drawn:=d}:=λk hk d=>by have h2:k*sz<=m*sz:=iV _ hk;simp only [Builtin.firstCells];exact Tc (w:={w with drawn:=d}) hca ag
  refine⟨(Z.toList.drop (rb.off+o)).take (m*sz),λ_=>rfl,λd=>key m (bH _) d,?_,?_,aA,λk hk d=>?_⟩
  .have:=(hrl.drop o).take (m*sz);rw [sX,ng,nK,jt ag]at this;exact this
  .simp only [cw,jg]at ha|-;exact λy hy=>ha y (List.mem_of_mem_drop (qS hy))
  .rw [key k hk d,nK,jt (iV _ hk)]
theorem BH{el n c:Nat}{olds:List Value}{z:Value}(O:aD ρ xs olds)(I:cw xs=ab)(V:aD ρ ys news)(U:cw ys=ab)(Z:xs.length=n*sz)(h6:ys.length=m*sz)(h7:z.cells.size=sz)(hnc:n+m<=c):cd ρ (w.drew.alloc (.cells ((⟨olds⟩:Array Value)++⟨news⟩++Builtin.zeroCells z.cells (c-(n+m))) el)) ⟨w.heap.size,0,c*sz,af⟩ (.row el (xs++ys))/\av (setR ρ nid ⟨w.heap.size,0,c*sz,af⟩) (.sl nid 0 (n+m) sz af) (.slice (aa ⟨w.heap.size,0,ah⟩) (n+m) c):=by
 have h1:=O.length;have h2:=V.length;have G:((⟨olds⟩:Array Value)++⟨news⟩++Builtin.zeroCells z.cells (c-(n+m))).size=c*sz:=by simp only [Array.size_append,List.size_toArray,size_zeroCells,h7];rw [h1,h2,Z,h6,<-nh,<-nh];congr 1;omega
 have hle:(n+m)*sz<=c*sz:=iV _ hnc;rw [nh]at hle;refine⟨.inr ⟨rfl,_,(0,0),alloc_heap_new w.drew _,.inl rfl,by rw [G];simp,?_,?_,CC⟩,?_⟩
 .simp [cw]at I U|-;exact⟨I,U⟩
 .rw [cq,Array.toList_append,Array.toList_append];have:(olds++news).length=(xs++ys).length:=by simp [h1,h2]
  rw [<-this,sZ];exact O.append V
 .simp only [av];exact⟨_,_,c,gN _ _ _,rfl,hnc,λh=>(by cases h),.inr ⟨rfl,aq,aq⟩⟩
structure pe(P:Program)(t xT el sz by_:Nat)(z:SV):Prop where
 hT:P.underlying t=aa (.slice el)
 hX:(∃e,P.underlying xT=aa (.slice e))\/P.underlying xT=aa .string
 hz:jm P el=aa z
 hs:dq P el=aa sz
 hzs:z.cells.length=sz
 hb:oO P el=aa by_
 hb0:0<by_
theorem pe.facts{t el:Nat}(h:pe P t xT el sz by_ z):∃i v dx,P.info? el=aa i/\i.zero=aa v/\v.cells.size=sz/\i.size=sz/\i.bytes=by_/\P.underlying xT=aa dx/\∀k,dx≠ .int k:=by
 obtain⟨hT,hX,hz,hs,I,hb,G⟩:=h;obtain⟨i,v,hi,hv,hr,ht⟩:=A9 hz;have hl:=((hr (λ_=>ah)).cells_rel ht).1.length;simp only [qN]at hl;unfold dq at hs;unfold oO at hb;rw [hi]at hs hb;simp only [nq,Option.some.injEq]at hs hb;rcases hX with⟨e,he⟩|he
 .exact⟨i,v,_,hi,hv,ag,hs,hb,he,λk=>aq⟩
 .exact⟨i,v,_,hi,hv,ag,hs,hb,he,λk=>aq⟩
theorem ph{x:Operand}{t:Nat}(ho:o.op= .call {callee:= .builtin .append,args:= #[x,y],argTypes:= #[t,xT]})(h:(Builtin.append_ #[t,xT] o.type #[e x,e y]).run P w= .ok v w'):(execOp e o).run P w= .ok (.value v) w':=by simp only [execOp,ho,resolve,invoke,builtin,bM,bZ,bQ,List.map_toArray,iT,qR,h]
theorem Yb{x:Operand}{t el:Nat}(ho:o.op= .call {callee:= .builtin .append,args:= #[x,y],argTypes:= #[t,xT]})(G:pe P t xT el sz by_ z)(hx:e x= .slice ah 0 0)(Z:tj P ρ w (e y) sz m ys)(hm:m*by_<=140737488355328)(hn:ρ nid=ah):∃v w' ρ',(execOp e o).run P w= .ok (.value v) w'/\cI ρ H w [(nid,aa (.row el ys))] ρ' w'/\av ρ' (.sl nid 0 m sz af) v:=by
 obtain⟨i,v,dx,hi,hv,x0,h8,U,O,I⟩:=G.facts;obtain⟨news,hl,hf,hr,ha,cx,_⟩:=Z;have V:=hl w.drawn;have h6:=hf w.drawn;have h7:=hf (w.drawn+1);by_cases h9:m=0
 .subst h9;have:ys= []:=ug (by rw [cx];simp);subst this;rw [aD.nil_iff]at hr;subst hr;refine⟨.slice ah 0 0,w,_,ph ho ?_,cI.virtual hn,?_⟩
  .rw [hx,Bl G.hT O I G.hs V h6 (bH _)];rfl
  .simp only [av];exact⟨_,ah,0,gN _ _ _,rfl,bH _,λh=>(by cases h),.inl rfl⟩
 .have hg:=Je (ty:=o.type) (a:=ah) (n:=0) (c:=0) (olds:= []) G.hT O I hi hv h8 V h7 az ag (by rw [U];exact G.hb0) (by
   rw [ig,nextslicecap_zero ag,U];omega)
  have hge:=grownCap_ge w (0+m) 0 el;obtain⟨g1,g2⟩:=BH (ρ:=ρ) (w:=w) (nid:=nid) (el:=el) (n:=0) (xs:= []) (olds:= []) (aD.nil_iff.2 rfl) rfl hr ha aq cx x0 hge;simp only [ig,jA]at g1 g2 hg;refine⟨_,_,_,ph ho (by rw [hx];exact hg),cI.new (w.drawn+1) hn rfl g1,g2⟩
theorem adT{x:Operand}{t el I:Nat}(ho:o.op= .call {callee:= .builtin .append,args:= #[x,y],argTypes:= #[t,xT]})(U:pe P t xT el sz by_ z)(hx:aZ R x=aa .slnil)(hy:aZ R y=aa (.sl id I m sz full))(hb:H id=aa b)(hin:I+m*sz<=b.cells.length)(hm:m*by_<=140737488355328)(hne:nid≠id):LT P o R H [id] [(nid,aa (.row el ((b.cells.drop I).take (m*sz))))] (aa (.sl nid 0 m sz af)):=by
 refine LT.of_run cJ λe w ρ h1 h2 _ G=>?_
 have hx2:=h1 x fG _ hx;have V:=h1 y fG _ hy;simp only [av]at hx2;obtain⟨rb,hr,O⟩:=h2 id aq b hb;obtain⟨v,w',ρ',a1,a2,Z⟩:=Yb (w:=w) (H:=H) (nid:=nid) ho U hx2 (qD V hr O hin) hm (G nid (aa (.row el ((b.cells.drop I).take (m*sz)))) aq AZ);exact⟨_,w',ρ',a1,a2,.inl ⟨v,rfl,λu hu=>by cases hu;exact Z⟩⟩
theorem Q4{x:Operand}{t el:Nat}{s:SV}(ho:o.op= .call {callee:= .builtin .append,args:= #[x,y],argTypes:= #[t,xT]})(G:pe P t xT el sz by_ z)(hx:aZ R x=aa s)(hs:s= .slnil\/∃id k n sz full,s= .sl id k n sz full)(hy:aZ R y=aa .slnil):LT P o R H [] [] (aa s):=by
 refine LT.pure cJ λe w ρ h1 _=>?_
 have hx2:=h1 x fG _ hx;have O:=h1 y fG _ hy;obtain⟨i,v,dx,hi,hv,h6,Z,V,U,I⟩:=G.facts;simp only [av]at O;have key:∀a n c,e x= .slice a n c->n<=c->(execOp e o).run P w= .ok (.value (e x)) w:=λa n c he hnc=>by refine ph ho ?_;rw [he,O,Bl (w:=w) (m:=0) (news:= []) G.hT U I G.hs rfl rfl hnc];cases a<;>rfl
 rcases hs with rfl|⟨id,k,n,h7,full,rfl⟩
 .have hx3:=hx2;simp only [av]at hx3;exact⟨_,key _ _ _ hx3 (bH _),hx2⟩
 .have hx3:=hx2;simp only [av]at hx3;obtain⟨rb,a,c,hr,he,hnc,_⟩:=hx3;exact⟨_,key _ _ _ he hnc,hx2⟩
theorem Ot{x:Operand}{t el n:Nat}(ho:o.op= .call {callee:= .builtin .append,args:= #[x,y],argTypes:= #[t,xT]})(O:pe P t xT el sz by_ z)(hx:av ρ (.sl id k n sz full) (e x))(hid:H id=aa (.row el l))(hr:ρ id=aa rb)(hb:cd ρ w rb (.row el l))(hin:k+n*sz<=l.length)(hsrc:tj P ρ w (e y) sz m ys)(hm:(n+m)*by_<=140737488355328)(hne:id≠nid)(hn:ρ nid=ah):∃v w' ρ',(execOp e o).run P w= .ok (.value v) w'/\cI ρ H w [(id,ah),(nid,aa (.row el ((l.drop k).take (n*sz)++ys)))] ρ' w'/\av ρ' (.sl nid 0 (n+m) sz af) v:=by
 obtain⟨i,v,dx,hi,hv,hvs,his,hib,h8,Z⟩:=O.facts;have x0:tj P ρ w (e x) sz n ((l.drop k).take (n*sz)):=qD hx hr hb hin;obtain⟨news,hl,hf,V,ha,cx,_⟩:=hsrc;obtain⟨olds,_,hfo,hro,h7,I,_⟩:=x0;have h9:=hl w.drawn;have hf0:=hf w.drawn;have hf1:=hf (w.drawn+1);have h6:=hfo (w.drawn+1);have hnl:=V.length;have hx0:=hx;simp only [av]at hx;obtain⟨rb',a,c,hr',he,hnc,hfull,x7⟩:=hx;rw [hr]at hr';cases hr';by_cases G:n+m<=c
 .by_cases x6:c=0
  .subst x6;obtain rfl:n=0:=ag;obtain rfl:m=0:=ag;have hy0:ys= []:=ug (by rw [cx];simp);subst hy0;rw [aD.nil_iff]at V;subst V;refine⟨.slice a 0 0,w,setR ρ nid ⟨0,0,0,ab⟩,ph ho ?_,?_,?_⟩
   .rw [he,Bl O.hT h8 Z O.hs h9 hf0 G];cases a<;>rfl
   .exact cI.move hne hid hr rfl hn (λi o hh=>by simp [foot]at hh) (.inl ⟨rfl,aq⟩) (Fr.refl _ _)
   .simp only [av];exact⟨_,a,0,gN _ _ _,rfl,ag,λh=>(by cases h),.inl rfl⟩
  .obtain⟨U,x5,hcap⟩:=x7.resolve_left x6;rcases hb with⟨hv1,_⟩|⟨_,ca,fz,hca,hz,hcs,hla,hlr,hll⟩
   .rw [U]at hv1;cases hv1
   have hcm:(n+m)*sz<=c*sz:=iV _ G;rw [nh]at hcm;have hst:=wg (P:=P) (o:=rb.off+k+n*sz) news 0 hca hz ag (V.oneCell ha);have hps:(jU ca (rb.off+k+n*sz) news).size=ca.size:=tQ _ _ _ ag;refine⟨.slice a (n+m) c,World.putCells w rb.blk (rb.off+k+n*sz) news,setR ρ nid ⟨rb.blk,rb.off+k,rb.cap-k,af⟩,ph ho ?_,?_,?_⟩
   .rw [he,Bl O.hT h8 Z O.hs h9 hf0 G,x5];simp only [qY,hst,qT];rfl
   .refine cI.move hne hid hr rfl hn ?_ (.inr ⟨rfl,_,fz,World.putCells_heap w rb.blk _ news hca,hz.put _ _ ag,?_,?_,?_,?_⟩) ?_
    .rintro i o2 ⟨h1,h2,h3⟩;exact .inl ⟨U,h2,by simp only at h3;omega⟩
    .rw [hps];simp only;omega
    .simp [cw]at h7 ha|-;exact⟨h7,ha⟩
    .have e1:((jU ca (rb.off+k+n*sz) news).toList.drop (rb.off+k)).take (((l.drop k).take (n*sz)++ys)).length=aB (n*sz) (aG k ((ca.toList.drop rb.off).take l.length))++news:=by
      have h1:((l.drop k).take (n*sz)++ys).length=n*sz+news.length:=by rw [aW,I,hnl]
      rw [h1];apply ku;intro j;by_cases hj:j<n*sz+news.length
      .refine Ir ?_;by_cases h2:j<n*sz
       .rw [if_neg ag];rw [gP aA,ic h2,iS,vK ag,lU,sn]
       .rw [if_pos ag];refine Cz ?_;congr 1;simp;omega
      .rw [dI aA];rw [dI aA]
     rw [e1];exact((hlr.drop k).take (n*sz)).append V
    .simp only [aW,I,cx];omega
    .exact Fr.putCells _ _ _ _ _ hca ag (λo2 h1 h2=>⟨U,rfl,ag⟩)
   .simp only [av];refine⟨_,a,c,gN _ _ _,rfl,G,λh=>(by cases h),.inr ⟨rfl,by rw [x5];simp,dt⟩⟩
 .rw [he]at h6;have hg:=Je (ty:=o.type) (a:=a) (n:=n) (c:=c) O.hT h8 Z hi hv his h9 hf1 h6 ag (by rw [hib];exact O.hb0) (by rw [hib];exact growslice_fits (by omega) hm);have hge:=grownCap_ge w (n+m) c el;obtain⟨g1,g2⟩:=BH (ρ:=ρ) (w:=w) (nid:=nid) (el:=el) hro h7 V ha I cx hvs hge;refine⟨_,_,_,ph ho (by rw [he];exact hg),cI.move hne hid hr rfl hn (λi o2 hh=> .inr (by rw [hh.2.1];exact bH _)) g1 ?_,g2⟩;exact(Fr.refl _ w).drew.trans (Fr.alloc (λi o2=>foot rb (.row el l) i o2) w.drew _) (λ_ _ _ h=>h)
theorem adW{x:Operand}{t el n G V:Nat}(ho:o.op= .call {callee:= .builtin .append,args:= #[x,y],argTypes:= #[t,xT]})(h7:pe P t xT el sz by_ z)(hx:aZ R x=aa (.sl id k n sz full))(hid:H id=aa (.row el l))(U:k+n*sz<=l.length)(hy:aZ R y=aa (.sl G V m sz full2))(hb:H G=aa b)(hin:V+m*sz<=b.cells.length)(hm:(n+m)*by_<=140737488355328)(hne:nid≠id/\nid≠G):LT P o R H [id,G] [(id,ah),(nid,aa (.row el ((l.drop k).take (n*sz)++(b.cells.drop V).take (m*sz))))] (aa (.sl nid 0 (n+m) sz af)):=by
 refine LT.of_run cJ λe w ρ h1 h2 _ I=>?_
 have hx2:=h1 x fG _ hx;have h8:=h1 y fG _ hy;obtain⟨rb,hr,Z⟩:=h2 id aq _ hid;obtain⟨h9,h6,O⟩:=h2 G aq b hb;obtain⟨v,w',ρ',a1,a2,a3⟩:=Ot (w:=w) (H:=H) (nid:=nid) ho h7 hx2 hid hr Z U (qD h8 h6 O hin) hm (λe=>hne.1 e.symm) (I nid (aa (.row el ((l.drop k).take (n*sz)++(b.cells.drop V).take (m*sz)))) aq AZ);exact⟨_,w',ρ',a1,a2,.inl ⟨v,rfl,λu hu=>by cases hu;exact a3⟩⟩
theorem adX{o:Oper}{R:eM}{x y:Operand}{t xT el sz by_ n m c c2 id V k o2:Nat}{z:SV}{b b2:SB}(ho:o.op= .call {callee:= .builtin .append,args:= #[x,y],argTypes:= #[t,xT]})(O:pe P t xT el sz by_ z)(hx:aZ R x=aa (.slc id k n c sz))(hid:H id=aa b)(G:b.own=ab)(hin1:k+(n+m)*sz<=b.cells.length)(hy:aZ R y=aa (.slc V o2 m c2 sz))(hb2:H V=aa b2)(hin:o2+m*sz<=b2.cells.length)(h8:n+m<=c)(h0:0<b.cells.length):LT P o R H [id,V] [(id,aa (b.with (bN b.cells (k+n*sz) (.agg ((b2.cells.drop o2).take (m*sz))))))] (aa (.slc id k (n+m) c sz)):=by
 refine LT.of_run cJ λe w ρ h1 h2 _ hfresh=>?_
 have hx2:=h1 x fG _ hx;have hy2:=h1 y fG _ hy;obtain⟨rb,hr,hb⟩:=h2 id aq _ hid;obtain⟨rb2,hr2,x5⟩:=h2 V aq b2 hb2;obtain⟨i,v,dx,hi,hv,hvs,his,hib,hdx,h6⟩:=O.facts;obtain⟨news,hl,hf,h7,ha,cx,_⟩:=qD hy2.slc_sl hr2 x5 hin;have hl0:=hl w.drawn;have hf0:=hf w.drawn;have hnl:=h7.length;rw [nh]at hin1;have hrel:av ρ (.agg ((b2.cells.drop o2).take (m*sz))) (.agg ⟨news⟩):=by simp only [av];exact⟨_,rfl,ha,h7⟩
 obtain⟨p1,p2,p3⟩:=hb.put (k:=k+n*sz) G hrel aq (by simp only [SV.cells];rw [cx];omega) h0;simp only [av]at hx2;obtain⟨rb',a,cap,hr',he,hnc,x7,Z⟩:=hx2;rw [hr]at hr';cases hr';have I:n+m<=cap:=ag;have U:(Value.cells (.agg ⟨news⟩)).toList=news:=rfl;rw [U]at p1 p2;by_cases hc0:cap=0
 .obtain rfl:n=0:=ag;obtain rfl:m=0:=ag;obtain rfl:news= []:=ug (by rw [hnl,cx];simp);have:World.putCells w rb.blk (rb.off+(k+0*sz)) []=w:=GW w _ _;rw [this]at p1 p2;refine⟨_,w,ρ,ph ho ?_,cI.put hid hr G p3 p1 p2,.inl ⟨.slice a (0+0) cap,rfl,λu hu=>?_⟩⟩
  .rw [he,Bl O.hT hdx h6 O.hs hl0 hf0 I];cases a<;>rfl
  .cases hu;simp only [av];exact⟨rb,a,cap,hr,rfl,ag,x7,Z⟩
 .obtain⟨h9,x0,x6⟩:=Z.resolve_left hc0;obtain⟨⟨ca,ty,fz,hca,_,hrl,hzz,hsz⟩,_⟩:=hb.cellsAt h0;rw [G]at hzz;have hst:=wg (P:=P) (o:=rb.off+(k+n*sz)) news 0 hca (hzz rfl) (by rw [hnl,cx];omega) (h7.oneCell ha);refine⟨_,World.putCells w rb.blk (rb.off+(k+n*sz)) news,ρ,ph ho ?_,cI.put hid hr G p3 p1 p2,.inl ⟨.slice a (n+m) cap,rfl,λu hu=>?_⟩⟩
  .rw [he,Bl O.hT hdx h6 O.hs hl0 hf0 I,x0];simp only [qY,qT,sn]at hst|-;simp only [hst];rfl
  .cases hu;simp only [av];exact⟨rb,a,cap,hr,rfl,h8,x7,.inr ⟨h9,x0,x6⟩⟩
end
def kd:SV->Option Nat
 | .i _=>aa 0
 | .u8 _=>aa 1
 | .u16 _=>aa 2
 | .u32 _=>aa 3
 | .u64 _=>aa 4
 | .b _=>aa 5
 | .s _=>aa 6
 |_=>ah
def rG:TypeDesc->Option Nat
 | .int .i64=>aa 0
 | .int .u8=>aa 1
 | .int .u16=>aa 2
 | .int .u32=>aa 3
 | .int .u64=>aa 4
 | .bool=>aa 5
 | .string=>aa 6
 |_=>ah
def JK:SV->SV->Bool
 | .i a,.i c=>a==c
 | .u8 a,.u8 c=>a==c
 | .u16 a,.u16 c=>a==c
 | .u32 a,.u32 c=>a==c
 | .u64 a,.u64 c=>a==c
 | .b a,.b c=>a==c
 | .s a,.s c=>a==c
 |_,_=>af
def ju:List SV->List SV->Bool
 | [],[]=>ab
 |x::xs,y::ys=>JK x y&&ju xs ys
 |_,_=>af
mutual
def ir(P:Program):Nat->TypeId->Option (List Nat)
 |0,_=>ah
 |d+1,t=>
  match P.underlying t with
  |some (.struct fs)=>if P.stoodInHeld t then ah else(sG P d 0 fs.toList).bind λks=>if dq P t=aa ks.length then aa ks else ah
  |some (.array n e)=>(ir P d e).bind λks=>if dq P t=aa (n*ks.length)then aa (aK n ks).flatten else ah
  |some ds=>(rG ds).bind λk=>if dq P t=aa 1 then aa [k]else ah
  |none=>ah
def sG(P:Program):Nat->Nat->List Field->Option (List Nat)
 |_,_,[]=>aa []
 |0,_,_::_=>ah
 |d+1,off,f::fs=>
  if f.name≠ "_" ∧f.offset=off then(ir P d f.type).bind fun ks=>(sG P d (off+ks.length) fs).map (ks++·)else none
end
def mf(P:Program)(t:TypeId):Bool:=match P.underlying t with|some (.struct _)=>ab|some (.array _ _)=>ab|_=>af
def wC(P:Program)(t:TypeId)(vs:List Value):Value:=if mf P t then .agg ⟨vs⟩else vs.headD undef
section
variable {P:Program} {ρ ρ':bw} {H:cG} {w w':World}
theorem uR(h:ir P d t=aa ks):dq P t=aa ks.length:=by
 cases d with
 |zero=>simp [ir]at h
 |succ d=>
  simp only [ir]at h;split at h
  .split at h
   .cases h
   .obtain⟨G,_,h2⟩:=j0.1 h;split at h2
    .cases h2;assumption
    .cases h2
  .obtain⟨G,_,h2⟩:=j0.1 h;split at h2
   .cases h2;simpa using ‹_›
   .cases h2
  .obtain⟨k,_,h2⟩:=j0.1 h;split at h2
   .cases h2;simpa using ‹_›
   .cases h2
  .cases h
theorem adk(h:ir P d t=aa ks):tO P t=aa (mf P t):=by
 cases d with
 |zero=>simp [ir]at h
 |succ d=>
  simp only [ir]at h;unfold tO mf;cases hu:P.underlying t with
  |none=>rw [hu]at h;cases h
  |some ds=>cases ds<;>rfl
theorem Ht(h:ir P d t=aa ks)(hk:0<ks.length\/mf P t=ab)(hin:off+ks.length<=vs.length):(part t ⟨vs⟩ off).run P w= .ok (wC P t ((vs.drop off).take ks.length)) w:=by
 unfold part wC;rw [bM,Hs (adk h),bQ];by_cases hr:mf P t=ab
 .simp only [hr,if_true,bM,ml (uR h),bQ,bZ];congr 2;apply Array.toList_inj.1;simp [List.extract_eq_take_drop]
 .have h0:0<ks.length:=hk.resolve_right hr;simp only [hr,gE,if_false];have hl:off<vs.length:=ag;have:(⟨vs⟩:Array Value)[off]?=aa vs[off]:=by simp [hl]
  rw [this];have e:((vs.drop off).take ks.length).headD undef=vs[off]:=by rw [List.headD_eq_head?_getD,List.head?_take,if_neg ag,List.head?_drop,dy hl];rfl
  rw [e];rfl
theorem adh{x:SV}(h:kd x=aa k):x.atom=ab:=by cases x<;>first|rfl|(simp [kd]at h)
theorem aid{ds:TypeDesc}{x y:SV}(hu:P.underlying t=aa ds)(hk:rG ds=aa k)(hx:kd x=aa k)(hy:kd y=aa k)(hv:av ρ x v)(G:av ρ y u):(Op.equalIn (d+1) t v u).run P w= .ok (JK x y) w:=by
 cases ds<;>simp only [rG]at hk<;>(try(cases hk;done))
 .cases hk;cases x<;>simp only [kd]at hx<;>(try(cases hx;done));cases y<;>simp only [kd]at hy<;>(try(cases hy;done));simp only [av]at hv G;subst hv;subst G;rw [run_equalIn_bool' w d t _ _ hu];rfl
 .rename_i I;cases I<;>simp only at hk<;>(try(cases hk;done))<;>cases hk<;>
   (cases x<;>simp only [kd]at hx<;>(try(cases hx;done)))<;>(cases y<;>simp only [kd]at hy<;>(try(cases hy;done)))<;>
   simp only [av]at hv G<;>subst hv<;>subst G<;>rw [run_equalIn_int w d t _ _ _ _ hu]<;>congr 1<;>simp only [JK]
  .rename_i a c;rw [jq];simp [<-my];omega
  .rename_i a c;rw [jq];simp [<-UInt16.toNat_inj];omega
  .rename_i a c;rw [jq];simp [<-UInt32.toNat_inj];omega
  .rename_i a c;rw [jq];simp [<-dJ];omega
 .cases hk;cases x<;>simp only [kd]at hx<;>(try(cases hx;done));cases y<;>simp only [kd]at hy<;>(try(cases hy;done));simp only [av]at hv G;subst hv;subst G;rw [run_equalIn_string w d t _ _ hu,Fk,Fk];rfl
theorem JL:∀{a b c d:List SV},a.length=c.length->ju (a++b) (c++d)=(ju a c&&ju b d)
 | [],b,[],d,_=>by simp [ju]
 |x::a,b,y::c,d,h=>by
  simp only [oz,ju];rw [JL kV,Bool.and_assoc]
 | [],_,_::_,_,h=>pM
 |_::_,_,[],_,h=>pM
def I7(P:Program)(ρ:bw)(d:Nat)(t:TypeId):Prop:=
 ∀(w:World) (ks:List Nat) (xs ys:List SV) (vs us:List Value),ir P d t=aa ks->xs.map kd=ks.map aa->ys.map kd=ks.map aa->aD ρ xs vs->aD ρ ys us->∀m,d<=m->
  (Op.equalIn m t (wC P t vs) (wC P t us)).run P w= .ok (ju xs ys) w
theorem BV(h:xs.map kd=ks.map aa):xs.length=ks.length:=by have:=congrArg List.length h;simpa using this
theorem HD{a b:List Nat}(h:xs.map kd=(a++b).map aa):(xs.take a.length).map kd=a.map aa/\(xs.drop a.length).map kd=b.map aa:=by
 rw [dU]at h;constructor
 .rw [iU,h];exact vz aq
 .rw [o0,h];exact List.drop_left' aq
theorem Ps(m:Nat)(vs V:List Value):∀(fs:List Field) (d off:Nat) (ks:List Nat) (xs ys:List SV),(∀e<d,∀t,I7 P ρ e t)->d<=m->sG P d off fs=aa ks->xs.map kd=ks.map aa->ys.map kd=ks.map aa->
  off+ks.length<=vs.length->off+ks.length<=V.length->aD ρ xs ((vs.drop off).take ks.length)->aD ρ ys ((V.drop off).take ks.length)->
  (Op.eqFields m ⟨vs⟩ ⟨V⟩ fs).run P w= .ok (ju xs ys) w
 | [],d,off,ks,xs,ys,_,_,h,hx,hy,_,_,_,_=>by
  cases d<;>simp only [sG,Option.some.injEq]at h<;>subst h<;>simp at hx hy<;>subst hx<;>subst hy<;>rfl
 |f::fs,0,off,ks,xs,ys,_,_,h,hx,hy,_,_,_,_=>by simp [sG]at h
 |f::fs,d+1,off,ks,xs,ys,ih,hd,h,hx,hy,hv,hu,hrx,hry=>by
  simp only [sG]at h;split at h
  .rename_i hf;obtain⟨k1,G,h2⟩:=j0.1 h;obtain⟨k2,hk2,rfl⟩:=so.1 h2;obtain⟨h7,hx2⟩:=HD hx;obtain⟨h8,h9⟩:=HD hy;simp only [aW]at hv hu hrx hry;have Z:=BV hx;have h6:=BV hy;simp only [aW]at Z h6;have r1:=hrx.take k1.length;have r2:=hrx.drop k1.length;have r3:=hry.take k1.length;have r4:=hry.drop k1.length;rw [nK,jt ag]at r1 r3;rw [sX,ng,Nat.add_sub_cancel_left]at r2 r4;have O:0<k1.length\/mf P f.type=ab:=by
    by_cases h0:0<k1.length
    .exact .inl h0
    .right;cases d with
     |zero=>simp [ir]at G
     |succ d=>
      simp only [ir]at G;unfold mf;split at G<;>rename_i U
      .rw [U]
      .rw [U]
      .obtain⟨k,_,h3⟩:=j0.1 G;split at h3
       .cases h3;simp at h0
       .cases h3
      .cases G
   have e1:=Ht (P:=P) (w:=w) (off:=off) (vs:=vs) G O ag;have e2:=Ht (P:=P) (w:=w) (off:=off) (vs:=V) G O ag;have e3:=ih d ag f.type w k1 (xs.take k1.length) (ys.take k1.length) _ _ G h7 h8 r1 r3 m ag;have e4:=Ps m vs V fs d (off+k1.length) k2 (xs.drop k1.length) (ys.drop k1.length) (λe he=>ih e ag) ag hk2 hx2 h9 ag ag r2 r4;simp only [Op.eqFields,hf.1,ne_eq,not_false_eq_true,if_true,hf.2,bM,e1,e2,e3,bQ];have I:ju xs ys=(ju (xs.take k1.length) (ys.take k1.length)&&ju (xs.drop k1.length) (ys.drop k1.length)):=by rw [<-JL aA,nJ,nJ]
   rw [I];cases hb:ju (xs.take k1.length) (ys.take k1.length)
   .simp
   .simp only [Bool.not_true,gE,if_false,Bool.true_and,e4]
  .cases h
theorem Pu(m:Nat)(e:TypeId)(vs U:List Value)(d:Nat)(ks:List Nat)(ih:I7 P ρ d e)(hd:d<=m)(hk:ir P d e=aa ks)(G:0<ks.length\/mf P e=ab):
  ∀(n s:Nat) (xs ys:List SV),xs.map kd=((aK n ks).flatten).map aa->ys.map kd=((aK n ks).flatten).map aa->
   (s+n)*ks.length<=vs.length->(s+n)*ks.length<=U.length->aD ρ xs ((vs.drop (s*ks.length)).take (n*ks.length))->aD ρ ys ((U.drop (s*ks.length)).take (n*ks.length))->
   ((forIn (List.range' s n) (ah,()) λi (_:Option Bool×Unit)=>do
     if(!(<-Op.equalIn m e (<-part e ⟨vs⟩ (i*ks.length)) (<-part e ⟨U⟩ (i*ks.length))))=ab then pure (ForInStep.done (aa af,()))else pure (ForInStep.yield (ah,())):Sem (Option Bool×Unit)).run P w
    = .ok (if ju xs ys then(ah,())else(aa af,())) w)
 |0,s,xs,ys,hx,hy,_,_,_,_=>by
  simp at hx hy;subst hx;subst hy;rfl
 |n+1,s,xs,ys,hx,hy,hv,hu,hrx,hry=>by
  rw [List.replicate_succ,List.flatten_cons]at hx hy;obtain⟨h7,hx2⟩:=HD hx;obtain⟨h8,h9⟩:=HD hy;have V:=BV hx;have Z:=BV hy;simp only [aW]at V Z;have h6:(s+(n+1))*ks.length=s*ks.length+ks.length+n*ks.length:=by rw [nh,nh];omega
  have hm2:(n+1)*ks.length=ks.length+n*ks.length:=by rw [nh];omega
  have I:(s+1)*ks.length=s*ks.length+ks.length:=by rw [nh];omega
  rw [h6]at hv hu;rw [hm2]at hrx hry;have r1:=hrx.take ks.length;have r2:=hrx.drop ks.length;have r3:=hry.take ks.length;have r4:=hry.drop ks.length;rw [nK,jt ag]at r1 r3;rw [sX,ng,Nat.add_sub_cancel_left]at r2 r4;have e1:=Ht (P:=P) (w:=w) (off:=s*ks.length) (vs:=vs) hk G ag;have e2:=Ht (P:=P) (w:=w) (off:=s*ks.length) (vs:=U) hk G ag;have e3:=ih w ks (xs.take ks.length) (ys.take ks.length) _ _ hk h7 h8 r1 r3 m hd;have e4:=Pu m e vs U d ks ih hd hk G n (s+1) (xs.drop ks.length) (ys.drop ks.length) hx2 h9 (by rw [nh,I];omega) (by rw [nh,I];omega) (by rw [I];exact r2) (by rw [I];exact r4);have O:ju xs ys=(ju (xs.take ks.length) (ys.take ks.length)&&ju (xs.drop ks.length) (ys.drop ks.length)):=by rw [<-JL aA,nJ,nJ]
  simp only [List.range'_succ,List.forIn_cons,bM,e1,e2,e3,bQ];rw [O];cases hb:ju (xs.take ks.length) (ys.take ks.length)
  .simp
  .simp only [Bool.not_true,gE,if_false,Bool.true_and,bZ,bQ];exact e4
theorem ZA:∀(d:Nat) (t:TypeId),I7 P ρ d t:=by
 intro d
 induction d using Nat.strongRecOn with
 |_ d ih=>
  intro t w ks xs ys vs us hk hx hy O U m hm;cases d with
  |zero=>simp [ir]at hk
  |succ d=>
   obtain⟨m,rfl⟩:∃m',m=m'+1:=⟨m-1,ag⟩;have x7:=uR hk;have Z:=BV hx;have h6:=BV hy;have h9:=O.length;have hul:=U.length;simp only [ir]at hk;split at hk
   .rename_i fs hu;split at hk
    .cases hk
    .rename_i hst;obtain⟨I,G,h2⟩:=j0.1 hk;split at h2
     .cases h2;have hrow:mf P t=ab:=by unfold mf;rw [hu]
      have V:P.fieldsOf t=fs:=by unfold Program.fieldsOf;rw [hu]
      simp only [wC,hrow,if_true];rw [run_equalIn_struct w m t _ _ (by rw [V];exact hu) (by simpa using hst),V];exact Ps m vs us fs.toList d 0 ks xs ys (λe he t=>ih e ag t) ag G hx hy ag ag (by simpa [<-Z,<-h9]using O) (by simpa [<-h6,<-hul]using U)
     .cases h2
   .rename_i n e hu;obtain⟨I,G,h2⟩:=j0.1 hk;split at h2
    .cases h2;have hrow:mf P t=ab:=by unfold mf;rw [hu]
     simp only [wC,hrow,if_true];have x6:((aK n I).flatten).length=n*I.length:=aq;have h7:0<I.length\/mf P e=ab:=by
      by_cases h0:0<I.length
      .exact .inl h0
      .right;cases d with
       |zero=>simp [ir]at G
       |succ d=>
        simp only [ir]at G;unfold mf;split at G<;>rename_i h8
        .rw [h8]
        .rw [h8]
        .obtain⟨k,_,h3⟩:=j0.1 G;split at h3
         .cases h3;simp at h0
         .cases h3
        .cases G
     have key:=Pu (P:=P) (ρ:=ρ) (w:=w) m e vs us d I (ih d ag e) ag G h7 n 0 xs ys hx hy (by rw [ig];omega) (by rw [ig];omega)
      (by rw [uq,cq,bW (by omega)];exact O) (by rw [uq,cq,bW (by omega)];exact U)
     unfold Op.equalIn;simp only [bM,eS hu,bQ,ml (uR G),Std.Legacy.Range.forIn_eq_forIn_range',Std.Legacy.Range.size,Nat.sub_zero,Nat.add_sub_cancel,Nat.div_one];rw [key];cases ju xs ys<;>simp
    .cases h2
   .rename_i ds x5 x0 hu;obtain⟨k,ha,h2⟩:=j0.1 hk;split at h2
    .cases h2;have hrow:mf P t=af:=by unfold mf;rw [hu];cases ds<;>first|rfl|exact(x5 _ rfl).elim|exact(x0 _ _ rfl).elim
     match xs,ys,vs,us,Z,h6,h9,hul with
     | [x],[y],[v],[u],_,_,_,_=>
      simp only [wC,hrow,gE,if_false,List.headD_cons];rw [aid hu ha wN (by simpa using hy) (aD.cons_iff.1 O).1 (aD.cons_iff.1 U).1];simp [ju]
    .cases h2
   .cases hk
theorem aee{t2:TypeId}{x:Operand}(d:Nat)(ho:o.op= .binOp (if ne then .neq else .eql) t x y t2)(hx:aZ R x=aa (.agg xs))(hy:aZ R y=aa (.agg ys))(hk:ir P d t=aa ks)(hd:d<=10000)(hr:mf P t=ab)(hg:P.eqGuardType P.depth t=af)(h1:xs.map kd=ks.map aa)(h2:ys.map kd=ks.map aa):LT P o R H [] [] (aa (.b (ne^^ju xs ys))):=by
 refine LT.pure cJ λe w ρ Z _=>?_
 have hx2:=Z x dj _ hx;have I:=Z y dj _ hy;simp only [av]at hx2 I;obtain⟨vs,ev,_,U⟩:=hx2;obtain⟨us,V,_,O⟩:=I;have key:=ZA (P:=P) (ρ:=ρ) d t w ks xs ys vs us hk h1 h2 U O 10000 hd;simp only [wC,hr,if_true]at key;refine⟨.bool (ne^^ju xs ys),?_,gO⟩;have G:=λop=>run_eqGuard_agg (P:=P) w op t x y ⟨vs⟩ ⟨us⟩ hg
 cases ne
 .simp only [gE,if_false]at ho;simp only [execOp,ho,ev,V,bM,G,bQ,run_eql_struct,key,bZ,Bool.false_xor]
 .simp only [if_true]at ho;simp only [execOp,ho,ev,V,bM,G,bQ,run_neq_struct,key,bZ,Bool.true_xor]
def seq:SV->SV->Option Bool
 | .b a,.b c=>aa (a==c)
 | .p _ _,.pnil=>aa af
 | .pnil,.p _ _=>aa af
 | .pnil,.pnil=>aa ab
 | .fn _ _,.fnil=>aa af
 | .fnil,.fnil=>aa ab
 | .slnil,.slnil=>aa ab
 | .ifc _ _ _,.inil=>aa af
 | .lp _ _,.pnil=>aa af
 |_,_=>ah
def DW:SV->Option Nat
 | .b _=>aa 0
 | .p _ _=>aa 1
 | .pnil=>aa 1
 | .fn _ _=>aa 2
 | .fnil=>aa 2
 | .slnil=>aa 3
 | .ifc _ _ _=>aa 4
 | .lp _ _=>aa 1
 |_=>ah
def wj:TypeDesc->Option Nat
 | .bool=>aa 0
 | .pointer _=>aa 1
 | .func _ _ _=>aa 2
 | .slice _=>aa 3
 | .interface _=>aa 4
 |_=>ah
theorem aij{ds:TypeDesc}{x y:SV}(hu:P.underlying t=aa ds)(hd:wj ds=DW x)(h:seq x y=aa r)(hx:av ρ x v)(hy:av ρ y u):(Op.equal t v u).run P w= .ok r w:=by
 unfold Op.equal;have e:Op.maxDepth=9999+1:=rfl;rw [e];unfold Op.equalIn;rw [bM,eS hu,bQ];cases x<;>cases y<;>simp only [seq]at h<;>(try(cases h;done))<;>simp only [av]at hx hy<;>simp only [DW]at hd<;>cases ds<;>simp only [wj]at hd<;>(try(cases hd;done))<;>cases h
 .subst hx;subst hy;rfl
 .obtain⟨rb,_,rfl⟩:=hx;subst hy;rfl
 .obtain⟨rb,_,rfl⟩:=hy;subst hx;rfl
 .subst hx;subst hy;rfl
 .subst hx;subst hy;rfl
 .subst hx;subst hy;rfl
 .obtain⟨cs,rfl,_⟩:=hx;subst hy;rfl
 .subst hx;subst hy;rfl
 .obtain⟨rb,_,rfl⟩:=hx;subst hy;rfl
theorem aie{x y:SV}(h:seq x y=aa r)(hx:av ρ x v)(hy:av ρ y u)(he:(Op.equal t v u).run P w= .ok r w):(binOp (if ne then .neq else .eql) t v u).run P w= .ok (.bool (ne^^r)) w:=by
 cases x<;>cases y<;>simp only [seq]at h<;>(try(cases h;done))<;>simp only [av]at hx hy<;>
  first
   |(subst hx;subst hy)
   |(obtain⟨rb,_,rfl⟩:=hx;subst hy)
   |(obtain⟨rb,_,rfl⟩:=hy;subst hx)
   |(obtain⟨cs,rfl,_⟩:=hx;subst hy)
 all_goals(cases ne<;>simp only [binOp,gE,if_false,if_true,bM,he,bQ,bZ,Bool.false_xor,Bool.true_xor])
theorem Q6{t2:TypeId}{x:Operand}{a b:SV}{ds:TypeDesc}(ho:o.op= .binOp (if ne then .neq else .eql) t x y t2)(hx:aZ R x=aa a)(hy:aZ R y=aa b)(hu:P.underlying t=aa ds)(hd:wj ds=DW a)(h:seq a b=aa r):LT P o R H [] [] (aa (.b (ne^^r))):=by
 refine LT.pure cJ λe w ρ I _=>?_
 have hx2:=I x dj _ hx;have G:=I y dj _ hy;obtain⟨g1,g2⟩:=av.plain (by intro l el;subst el;simp [seq]at h) (by intro el;subst el;simp [seq]at h) hx2;exact⟨.bool (ne^^r),by simp only [execOp,ho,bM,LW g1 g2,bQ,aie h hx2 G (aij hu hd h hx2 G),bZ],gO⟩
theorem aef{t2:TypeId}{x:Operand}{n:Nat}{ds:TypeDesc}(ho:o.op= .binOp (if ne then .neq else .eql) t x y t2)(hx:aZ R x=aa (.sl id k n sz full))(hy:aZ R y=aa .slnil)(hu:P.underlying t=aa ds)(hd:wj ds=aa 3)(hn:0<n):LT P o R H [] [] (aa (.b ne)):=by
 refine LT.pure cJ λe w ρ O _=>?_
 have hx2:=O x dj _ hx;have G:=O y dj _ hy;obtain⟨g1,g2⟩:=av.plain (by intro l el;cases el) (by intro el;cases el) hx2;simp only [av]at hx2 G;obtain⟨rb,a,c,hr,he,hnc,_,I⟩:=hx2;obtain⟨hv,U,_⟩:=I.resolve_left ag;have hq:(Op.equal t (e x) (e y)).run P w= .ok af w:=by rw [he,G,U];unfold Op.equal;have e:Op.maxDepth=9999+1:=rfl;rw [e];unfold Op.equalIn;rw [bM,eS hu,bQ];cases ds<;>simp only [wj]at hd<;>first|(cases hd;done)|rfl
 refine⟨.bool ne,?_,gO⟩;simp only [execOp,ho,bM,LW g1 g2,bQ];rw [he,G]at hq|-;cases ne<;>simp only [binOp,gE,if_false,if_true,bM,hq,bQ,bZ,wP]
theorem Ya{x:Operand}{t el n:Nat}(ho:o.op= .call {callee:= .builtin .append,args:= #[x,y],argTypes:= #[t,xT]})(V:pe P t xT el sz by_ z)(hx:av ρ (.sl id k n sz ab) (e x))(hr:ρ id=aa rb)(hb:cd ρ w rb b)(hin:k+n*sz<=b.cells.length)(h7:tj P ρ w (e y) sz m ys)(hm:(n+m)*by_<=140737488355328)(hm0:0<m)(hn:ρ nid=ah):∃v w' ρ',(execOp e o).run P w= .ok (.value v) w'/\cI ρ H w [(nid,aa (.row el ((b.cells.drop k).take (n*sz)++ys)))] ρ' w'/\av ρ' (.sl nid 0 (n+m) sz af) v:=by obtain⟨i,v,dx,hi,hv,hvs,x6,h6,h9,Z⟩:=V.facts;have U:tj P ρ w (e x) sz n ((b.cells.drop k).take (n*sz)):=qD hx hr hb hin;obtain⟨news,hl,hf,hrn,ha,cx,_⟩:=h7;obtain⟨olds,_,x5,hro,h8,O,_⟩:=U;have x7:=hl w.drawn;have x0:=hf (w.drawn+1);have G:=x5 (w.drawn+1);simp only [av]at hx;obtain⟨rb',a,c,hr',he,hnc,I,hdis⟩:=hx;have hc:=I trivial;subst hc;rw [he]at G;have hg:=Je (ty:=o.type) (a:=a) (n:=c) (c:=c) V.hT h9 Z hi hv x6 x7 x0 G ag (by rw [h6];exact V.hb0) (by rw [h6];exact growslice_fits (by omega) hm);have hge:=grownCap_ge w (c+m) c el;obtain⟨g1,g2⟩:=BH (ρ:=ρ) (w:=w) (nid:=nid) (el:=el) hro h8 hrn ha O cx hvs hge;exact⟨_,_,_,ph ho (by rw [he];exact hg),cI.new (w.drawn+1) hn rfl g1,g2⟩
theorem adR{x:Operand}{t el n G Z:Nat}{O:SB}(ho:o.op= .call {callee:= .builtin .append,args:= #[x,y],argTypes:= #[t,xT]})(h9:pe P t xT el sz by_ z)(hx:aZ R x=aa (.sl id k n sz ab))(hid:H id=aa b)(V:k+n*sz<=b.cells.length)(hy:aZ R y=aa (.sl G Z m sz full2))(hb:H G=aa O)(hin:Z+m*sz<=O.cells.length)(hm:(n+m)*by_<=140737488355328)(h7:0<m)(hne:nid≠id/\nid≠G):LT P o R H [id,G] [(nid,aa (.row el ((b.cells.drop k).take (n*sz)++(O.cells.drop Z).take (m*sz))))] (aa (.sl nid 0 (n+m) sz af)):=by
 refine LT.of_run cJ λe w ρ h1 h2 _ I=>?_
 have hx2:=h1 x fG _ hx;have ha:=h1 y fG _ hy;obtain⟨rb,hr,h6⟩:=h2 id aq _ hid;obtain⟨x0,h8,U⟩:=h2 G aq O hb;obtain⟨v,w',ρ',a1,a2,a3⟩:=Ya (w:=w) (H:=H) (nid:=nid) ho h9 hx2 hr h6 V (qD ha h8 U hin) hm h7 (I nid (aa (.row el ((b.cells.drop k).take (n*sz)++(O.cells.drop Z).take (m*sz)))) aq AZ);exact⟨_,w',ρ',a1,a2,.inl ⟨v,rfl,λu hu=>by cases hu;exact a3⟩⟩
theorem Rh(a b:Nat):Nat.min a b=min a b:=rfl
theorem O1{x:Operand}{t el n c:Nat}(ho:o.op= .call {callee:= .builtin .copy,args:= #[x,y],argTypes:= #[t,xT]})(hT:P.underlying t=aa (.slice el))(hs:dq P el=aa sz)(hx:av ρ (.sl id k n sz full) (e x))(hid:H id=aa b)(hr:ρ id=aa rb)(hb:cd ρ w rb b)(G:b.own=ab)(hin:k+n*sz<=b.cells.length)(h8:tj P ρ w (e y) sz m ys)(hc:c=min m n)(h0:0<b.cells.length):∃w',(execOp e o).run P w= .ok (.value (.int .i64 (c:Int))) w'/\cI ρ H w [(id,aa (b.with (bN b.cells k (.agg (ys.take (c*sz))))))] ρ w':=by
 obtain⟨vs,hl,_,U,ha,cx,hf⟩:=h8;have x7:=hf c ag w.drawn;have hl0:=hl w.drawn;have hcm:c*sz<=m*sz:=iV _ ag;have hcn:c*sz<=n*sz:=iV _ ag;have h7:av ρ (.agg (ys.take (c*sz))) (.agg ⟨vs.take (c*sz)⟩):=by simp only [av];refine⟨_,rfl,?_,U.take _⟩;simp only [cw,jg]at ha|-;exact λy hy=>ha y (qS hy)
 have x6:(SV.agg (ys.take (c*sz))).cells.length=c*sz:=by simp [SV.cells];omega
 obtain⟨p1,p2,p3⟩:=hb.put (k:=k) G h7 aq (by rw [x6];omega) h0;have hvl:=(U.take (c*sz)).length;simp only [av]at hx;obtain⟨rb',a,cap,h6,he,hnc,hfull,Z⟩:=hx;rw [hr]at h6;cases h6;have I:∀w',(match a with|some a=>(storeCells a (vs.take (c*sz))).run P w|none=>Result.ok () w)= .ok () w'->(execOp e o).run P w= .ok (.value (.int .i64 (c:Int))) w':=λw' hst=>by
  simp only [execOp,ho,resolve,invoke,builtin,bM,bZ,bQ,List.map_toArray,iT,qR,Builtin.copy_,sY,uh,pP,eS hT,he,hl0,Rh,<-hc,ml hs,x7];cases a with
  |none=>simp only at hst;cases hst;rfl
  |some a=>simp only at hst;simp only [hst,bQ,bM,bZ];rfl
 by_cases hz:c*sz=0
 .have O:vs.take (c*sz)= []:=by rw [hz];rfl
  refine⟨w,I w ?_,?_⟩
  .rw [O];cases a<;>rfl
  .have:World.putCells w rb.blk (rb.off+k) (Value.cells (.agg ⟨vs.take (c*sz)⟩)).toList=w:=by
    show World.putCells w rb.blk (rb.off+k) (vs.take (c*sz))=w
    rw [O,GW]
   rw [this]at p1 p2;exact cI.put hid hr G p3 p1 p2
 .have V:cap≠0:=by intro e0;have:c=0:=ag;exact hz (by rw [this];simp)
  obtain⟨hv,x0,x5⟩:=Z.resolve_left V;obtain⟨⟨ca,ty,fz,hca,_,hrl,h9,hsz⟩,_⟩:=hb.cellsAt h0;rw [G]at h9;have hst:=wg (P:=P) (o:=rb.off+k) (vs.take (c*sz)) 0 hca (h9 rfl) (by have:=hrl.length;simp at this hvl|-;omega) ((U.take _).oneCell (by
   simp only [cw,jg]at ha|-;exact λy hy=>ha y (qS hy)))
  exact⟨_,I _ (by rw [x0];exact hst),cI.put hid hr G p3 p1 p2⟩
theorem aec{x:Operand}{t el n G o2 c:Nat}{V:SB}(ho:o.op= .call {callee:= .builtin .copy,args:= #[x,y],argTypes:= #[t,xT]})(hT:P.underlying t=aa (.slice el))(hs:dq P el=aa sz)(hx:aZ R x=aa (.sl id k n sz full))(hid:H id=aa b)(U:b.own=ab)(O:k+n*sz<=b.cells.length)(hy:aZ R y=aa (.sl G o2 m sz full2))(hb:H G=aa V)(hin:o2+m*sz<=V.cells.length)(hc:c=min m n)(h0:0<b.cells.length):LT P o R H [id,G] [(id,aa (b.with (bN b.cells k (.agg (((V.cells.drop o2).take (m*sz)).take (c*sz))))))] (aa (.i (c:Int))):=by
 refine LT.of_run cJ λe w ρ h1 h2 _ Z=>?_
 have hx2:=h1 x fG _ hx;have h8:=h1 y fG _ hy;obtain⟨rb,hr,h6⟩:=h2 id aq _ hid;obtain⟨h9,h7,I⟩:=h2 G aq V hb;obtain⟨w',a1,a2⟩:=O1 (w:=w) (H:=H) ho hT hs hx2 hid hr h6 U O (qD h8 h7 I hin) hc h0;exact⟨_,w',ρ,a1,a2,.inl ⟨_,rfl,λu hu=>by cases hu;simp only [av]⟩⟩
def tq:List SV->Option (List UInt8)
 | []=>aa []
 | .u8 x::xs=>(tq xs).map (x::·)
 |_::_=>ah
theorem OM(l:List UInt8):tq (l.map .u8)=aa l:=by
 induction l with
 |nil=>rfl
 |cons x l ih=>simp [tq,ih]
theorem YC{l:List UInt8}(h:tq xs=aa l):xs=l.map .u8:=by
 induction xs generalizing l with
 |nil=>simp [tq]at h;subst h;rfl
 |cons x xs ih=>
  cases x<;>simp only [tq]at h<;>(try(cases h;done));obtain⟨G,hl,rfl⟩:=so.1 h;rw [ih hl];rfl
theorem SM{l:List UInt8}(h:aD ρ (l.map .u8) vs):vs=(l.map λb=>(b.toNat:Int)).map (su .u8):=by
 induction l generalizing vs with
 |nil=>rw [qR,aD.nil_iff]at h;subst h;rfl
 |cons x l ih=>
  simp only [iT,aD]at h;obtain⟨y,ys,rfl,hy,G⟩:=h;simp only [av]at hy;subst hy;rw [ih G];rfl
theorem ahm(l:List UInt8):aD ρ (l.map .u8) ((l.map λb=>(b.toNat:Int)).map (su .u8)):=by
 induction l with
 |nil=>exact aD.nil_iff.2 rfl
 |cons b l ih=>exact aD.cons gO ih
theorem Qo(l:List UInt8):∀s:ByteArray,(l.map λb=>(b.toNat:Int)).foldl (λr n=>r.push (cX n.toNat)) s=⟨s.data++⟨l⟩⟩:=by
 induction l with
 |nil=>intro s;apply WideShapes.bytes_inj;simp
 |cons x l ih=>
  intro s;simp only [iT,List.foldl_cons];rw [ih];apply WideShapes.bytes_inj;simp [ByteArray.push]
theorem aic{el:TypeId}{b n c:Nat}{cs:Array Value}{e:TypeId}(hu:P.underlying t=aa (.slice el))(he:P.underlying el=aa (.int .u8))(w:World)(hb:w.heap[b]?=aa (.cells cs e fz)):(convert t t (.slice (aa ⟨b,off,ah⟩) n c)).run P w= .ok (.slice (aa ⟨b,off,ah⟩) n c) (w.freeze ⟨b,cs.size,ah⟩ 1):=by
 have hsh:w.shape? b=aa (e,cs.size):=by simp only [World.shape?];rw [hb]
 have G:(markStringish ⟨b,off,ah⟩).run P w= .ok () (w.freeze ⟨b,cs.size,ah⟩ 1):=by simp only [markStringish,bM,run_shape,hsh,bQ,run_freeze]
 have I:(t==t)=ab:=aq;simp only [convert,bM,eS hu,eS he,bQ,I,G,bZ]
theorem aea{t el n e:Nat}{x:Operand}(ho:o.op= .convert t t x)(hu:P.underlying t=aa (.slice el))(he:P.underlying el=aa (.int .u8))(hx:aZ R x=aa (.sl id k n sz full))(hb:H id=aa (.row e l))(h6:e=5)(hn:0<n):LT P o R H [id] [(id,aa (.row e l))] (aa (.sl id k n sz full)):=by
 refine LT.of_run cJ λev w ρ h1 h2 _ _=>?_
 have h3:=h1 x dj _ hx;have I:=h3;simp only [av]at h3;obtain⟨rb,a,c,hr,hv,hnc,h9,hc⟩:=h3;obtain⟨x0,O,Z⟩:=h2 id aq _ hb;rw [hr]at O;cases O;rcases hc with hc|⟨G,rfl,h8⟩
 .omega
 .rcases Z with⟨U,_⟩|⟨_,cs,fz,hca,hz,hs,ha,hrl,hl⟩
  .rw [G]at U;cases U
  .obtain⟨V,m1,m2,m3⟩:=acg (l:=l) G hca h6 hz;refine⟨.value (.slice (aa ⟨rb.blk,rb.off+k,ah⟩) n c),_,ρ,?_,cI.put hb hr rfl (λ_ _ h=>h) (.inr ⟨G,cs,V,m1,m2,hs,ha,hrl,hl⟩) m3,.inl ⟨_,rfl,λv h7=>by cases h7;rw [hv]at I;exact I⟩⟩;simp only [execOp,ho,hv,bM,aic hu he w hca,bQ,bZ]
theorem adZ{s el n:Nat}{x:Operand}{l:List UInt8}(ho:o.op= .convert s d x)(hs:P.underlying s=aa (.slice el))(he:P.underlying el=aa (.int .u8))(hd:P.underlying d=aa .string)(hx:aZ R x=aa (.sl id k n 1 full))(hb:H id=aa b)(hin:k+n<=b.cells.length)(hl:tq ((b.cells.drop k).take n)=aa l):LT P o R H [id] [] (aa (.s l)):=by
 refine LT.pure cJ λe w ρ h1 h2=>?_
 have hx2:=h1 x dj _ hx;obtain⟨rb,hr,Z⟩:=h2 id aq b hb;have U:tj P ρ w (e x) 1 n ((b.cells.drop k).take (n*1)):=qD hx2 hr Z ag;obtain⟨vs,_,hf,I,_,cx,_⟩:=U;rw [fS,YC hl]at I;have V:=SM I;have G:=hf w.drawn;refine⟨.string ⟨⟨l⟩⟩,?_,gO⟩;simp only [av]at hx2;obtain⟨h7,a,c,h6,hv,_⟩:=hx2;rw [hv]at G;have O:(convert s d (.slice a n c)).run P w= .ok (.string ⟨⟨l⟩⟩) w:=by
  rw [run_convert_bytes_string w s d el a n c hs he hd];cases a with
  |none=>
   simp only [Builtin.firstCells,bZ]at G;injection G with h3 h4
   have:vs= []:=by have:=congrArg Array.toList h3;simpa using this.symm
   subst this;cases l with
   |nil=>rfl
   |cons x l=>simp at V
  |some a=>
   simp only [Builtin.firstCells,fS]at G;rw [run_bytesToString w a n c (l.map λb=>(b.toNat:Int)) (by rw [G,V]),Qo];congr 2;apply WideShapes.bytes_inj;simp
 simp only [execOp,ho,hv,bM,O,bQ,bZ]
theorem ad1{s el:Nat}{x:Operand}(ho:o.op= .convert s d x)(hs:P.underlying s=aa (.slice el))(he:P.underlying el=aa (.int .u8))(hd:P.underlying d=aa .string)(hx:aZ R x=aa .slnil):LT P o R H [] [] (aa (.s [])):=by
 refine LT.pure cJ λe w ρ h1 h2=>?_
 have hx2:=h1 x dj _ hx;simp only [av]at hx2;refine⟨.string ⟨⟨[]⟩⟩,?_,gO⟩;simp only [execOp,ho,hx2,bM,run_convert_bytes_string w s d el ah 0 0 hs he hd,bQ,bZ,Conv.bytesToString];rfl
theorem aeJ{s el:Nat}{x:Operand}{l:List UInt8}(h7:el=5)(ho:o.op= .convert s d x)(hs:P.underlying s=aa .string)(he:P.underlying el=aa (.int .u8))(hd:P.underlying d=aa (.slice el))(hx:aZ R x=aa (.s l)):LT P o R H [] [(nid,aa (.row el (l.map .u8)))] (aa (.sl nid 0 l.length 1 af)):=by
 refine LT.of_run cJ λe w ρ h1 _ _ O=>?_
 have hx2:=h1 x dj _ hx;simp only [av]at hx2;obtain⟨cap,U⟩:∃c,grownCap w l.length 0 el=c:=⟨_,rfl⟩;have hge:l.length<=cap:=by rw [<-U];exact grownCap_ge w l.length 0 el
 let G:Array Value:=(⟨l⟩:Array UInt8).map (λb=>su .u8 (b.toNat:Int))++sW (cap-l.length) (.int .u8 0)
 have ha:G.size=cap:=by simp only [G,Array.size_append,Array.size_map,List.size_toArray,Array.size_replicate];omega
 have h6:(choose (.appendCap l.length 0 el)).run P w= .ok cap w.drew:=by rw [run_choose,<-U];rfl
 have Z:(w.drew.alloc (.cells G el)).freeze ⟨w.heap.size,G.size,ah⟩ 1=w.drew.alloc (.cells G el (G.size,G.size+1)):=by
  have hh:((w.drew.alloc (.cells G el)).freeze ⟨w.heap.size,G.size,ah⟩ 1).heap=(w.drew.alloc (.cells G el (G.size,G.size+1))).heap:=by
   simp only [World.freeze,World.alloc,World.drew,Nat.one_ne_zero,if_false];apply vy;intro j;rw [Ba];by_cases hj:w.heap.size=j
   .subst hj;simp
   .rw [if_neg hj,Array.getElem?_push,Array.getElem?_push,if_neg (λe=>hj e.symm),if_neg (λe=>hj e.symm)]
  simp only [World.freeze,World.alloc,World.drew,Nat.one_ne_zero,if_false]at hh|-;rw [hh]
 refine⟨.value (.slice (aa ⟨w.heap.size,0,ah⟩) l.length cap),w.drew.alloc (.cells G el (G.size,G.size+1)),_,?_,
  cI.row (w.drawn+1) (O nid (aa (.row el (l.map .u8))) aq aq) (by simp [cw,SV.atom]) ?_ (by simp only [dm];omega) (.inr ⟨h7,bH _⟩),.inl ⟨_,rfl,?_⟩⟩
 .have hu:(convert s d (.string ⟨⟨l⟩⟩)).run P w=(Conv.stringToBytes el ⟨⟨l⟩⟩).run P w:=by simp only [convert,bM,eS hs,eS hd,eS he,bQ]
  simp only [execOp,ho,hx2,bM,hu];have h9:(⟨⟨l⟩⟩:ByteArray).size=l.length:=rfl;have hsh:(w.drew.alloc (.cells G el)).shape? w.heap.size=aa (el,G.size):=by have hh:=alloc_heap_new w.drew (.cells G el);simp only [World.shape?];rw [show(w.drew.alloc (.cells G el)).heap[w.heap.size]?=aa (.cells G el)from hh]
  have I:∀W:World,W.shape? w.heap.size=aa (el,G.size)->(markStringish ⟨w.heap.size,0,ah⟩).run P W= .ok () (W.freeze ⟨w.heap.size,G.size,ah⟩ 1):=λW hW=>by simp only [markStringish,bM,run_shape,hW,bQ,run_freeze]
  have V:(newRow el G).run P w.drew= .ok ⟨w.heap.size,0,ah⟩ (w.drew.alloc (.cells G el)):=rfl;have e1:(Conv.stringToBytes el ⟨⟨l⟩⟩).run P w= .ok (.slice (aa ⟨w.heap.size,0,ah⟩) l.length cap) ((w.drew.alloc (.cells G el)).freeze ⟨w.heap.size,G.size,ah⟩ 1):=by
   have e2:Conv.stringToBytes el ⟨⟨l⟩⟩=(do
    let cap<-choose (.appendCap l.length 0 el)
    let a<-newRow el ((⟨l⟩:Array UInt8).map (λb=>su .u8 (b.toNat:Int))++sW (cap-l.length) (.int .u8 0))
    markStringish a
    pure (.slice (aa a) l.length cap)):=rfl
   rw [e2];simp only [bM,h6,bQ];simp only [G]at V I hsh|-;simp only [V,bQ,I _ hsh,bZ]
  rw [e1,Z];rfl
 .rw [dm];have:G.toList.take l.length=(l.map λb=>(b.toNat:Int)).map (su .u8):=by simp only [G,Array.toList_append,Array.toList_map];rw [vz aq];simp
  rw [this];exact ahm l
 .intro u h8;cases h8;simp only [av];exact⟨_,_,cap,gN _ _ _,rfl,hge,λh=>(by cases h),.inr ⟨rfl,rfl,dt⟩⟩
end
abbrev RL:=List (Nat×SV)
abbrev HL:=List (Option SB)
def rg(R:RL):eM:=λt=>R.lookup t
def hg(H:HL):cG:=λi=>(H[i]?).join
def vb(R:RL):Option Nat->Option SV->RL
 |some d,aa v=>(d,v)::R
 |some d,ah=>R.filter λp=> !(p.1==d)
 |none,_=>R
def qj(H:HL)(id:Nat)(G:Option SB):HL:=if id<H.length then H.set id G else H++aK (id-H.length) ah++ [G]
def eX(H:HL):ix->HL
 | []=>H
 |(id,ob)::W=>qj (eX H W) id ob
def dZ{β:Type}(f:Nat->Option β)(w:List (Nat×Option β)):Nat->Option β:=λr=>match w.lookup r with|some v=>v|none=>f r
theorem wx(H:cG)(W:ix):jX H W=dZ H W:=by funext i;simp only [jX,dZ];cases W.lookup i<;>rfl
theorem Q0(d t:Nat):∀R:RL,(R.filter λp=> !(p.1==d)).lookup t=if t=d then ah else R.lookup t
 | []=>aq
 |(a,b)::R=>by
  have ih:=Q0 d t R;simp only [List.filter_cons];by_cases G:a=d
  .subst G;simp only [beq_self_eq_true,Bool.not_true,gE,if_false,ih,gJ];by_cases ht:t=a
   .simp [ht]
   .have:(t==a)=af:=by simpa using ht
    simp [this,ht]
  .have hb:(a==d)=af:=by simpa using G
   simp only [hb,wP,if_true,gJ,ih];by_cases ht:t=a
   .subst ht;simp [G]
   .have:(t==a)=af:=by simpa using ht
    simp [this]
theorem ahv(R:RL)(d:Nat)(G:Option SV):rg (vb R (aa d) G)=dZ (rg R) [(d,G)]:=by
 funext t
 cases G with
 |some v=>
  simp only [rg,vb,gJ,dZ];by_cases h:t=d
  .subst h;simp
  .have:(t==d)=af:=kV;simp [this]
 |none=>
  simp only [rg,vb,dZ,gJ,Q0];by_cases h:t=d
  .subst h;simp
  .have hd:(t==d)=af:=kV;simp [hd,h]
theorem acH(H:HL)(id:Nat)(G:Option SB):hg (qj H id G)=λi=>if i=id then G else hg H i:=by
 funext i
 unfold qj hg;split
 .rename_i h;rw [pQ];by_cases e:id=i
  .subst e;simp [h]
  .rw [if_neg e,if_neg (λx=>e x.symm)]
 .rename_i h;by_cases e:i=id
  .subst e;rw [if_pos rfl,iR aA];simp;have:i-(H.length+(i-H.length))=0:=ag;rw [this];rfl
  .rw [if_neg e];by_cases h2:i<H.length
   .rw [iw,gP h2]
   .have hn:H[i]?=ah:=dI ag;rw [hn];by_cases h3:i<id
    .rw [gP aA,iR ag,List.getElem?_replicate,if_pos ag];rfl
    .rw [dI aA]
theorem mK(H:HL):∀W:ix,hg (eX H W)=jX (hg H) W
 | []=>by funext i;simp [eX,jX]
 |(id,ob)::W=>by
  rw [eX,acH,mK H W]
  funext i
  simp only [jX,gJ];by_cases e:i=id
  .subst e;simp
  .have:(i==id)=af:=lS;rw [if_neg e];simp [this]
section fold
variable {β:Type}
def jC(S:Nat->Bool):Nat->List (List (Nat×Option β))->(Nat->Option β)->(Nat->Option β)
 |_,[],f=>f
 |k,w::ws,f=>jC S (k+1) ws (if S k then dZ f w else f)
theorem Ak{S I:Nat->Bool}(r:Nat):∀(G:List (List (Nat×Option β))) (k:Nat) (f f':Nat->Option β),f r=f' r->
  (∀j w,G[j]?=aa w->(∃x,w.lookup r=aa x)->S (k+j)=I (k+j))->jC S k G f r=jC I k G f' r
 | [],k,f,f',h,_=>h
 |w::G,k,f,f',h,hw=>by
  simp only [jC];refine Ak r G (k+1) _ _ ?_ (λj u hu hx=>by have:=hw (j+1) u (by simpa using hu) hx;rw [show k+1+j=k+(j+1)from by omega];exact this);cases hl:w.lookup r with
  |none=>
   have e1:dZ f w r=f r:=by simp [dZ,hl]
   have e2:dZ f' w r=f' r:=by simp [dZ,hl]
   split<;>split<;>simp_all
  |some x=>
   have:=hw 0 w aq ⟨x,hl⟩;simp only [qT]at this;rw [this];split
   .simp [dZ,hl]
   .exact h
theorem Dj(G:List (List (Nat×Option β))):∀(k i:Nat) (f:Nat->Option β),jC (λj=>decide (j<k+i)) k G f=(G.take i).foldl dZ f:=by
 induction G with
 |nil=>intro k i f;simp [jC]
 |cons w G ih=>
  intro k i f;cases i with
  |zero=>
   simp only [jC,qT,Nat.lt_irrefl,decide_false,gE,if_false,wT,List.foldl_nil];have e:(λj=>decide (j<k))=(λj=>decide (j<k)):=rfl;have key:∀(G:List (List (Nat×Option β))) (m:Nat) (f:Nat->Option β),k<=m->jC (λj=>decide (j<k)) m G f=f:=by
    intro G
    induction G with
    |nil=>intro m f _;rfl
    |cons w G ih2=>
     intro m f hm;simp only [jC];rw [if_neg aA,ih2 _ _ ag]
   exact key G (k+1) f ag
  |succ i=>
   simp only [jC,List.take_succ_cons,List.foldl_cons];rw [if_pos aq,<-ih (k+1) i];rw [show k+1+i=k+(i+1)from by omega]
end fold
theorem Fh(ops:Array Oper):∀j i,((Region.before ops).getD j 0).testBit i=ab->∀S:Nat->Bool,(∀k o,ops[k]?=aa o->S k=ab->∀e∈o.after,Region.binds .any e=ab->S e.on=ab)->S j=ab->S i=ab:=by
 have I:∀(G:Array Nat) (S:Nat->Bool),(∀j i,(G.getD j 0).testBit i=ab->S j=ab->S i=ab)->∀(es:List Edge) (s:Nat),
   (∀i,s.testBit i=ab->S i=ab)->(∀e∈es,Region.binds .any e=ab->S e.on=ab)->
   ∀i,(es.foldl (λs e=>if Region.binds .any e then s|||2^e.on|||G.getD e.on 0 else s) s).testBit i=ab->S i=ab:=by
  intro G S U es
  induction es with
  |nil=>intro s hs _ i hi;exact hs i hi
  |cons e es ih=>
   intro s hs he i hi;simp only [List.foldl_cons]at hi;refine ih _ ?_ (λe' Z=>he e' (by simp [Z])) i hi;intro i hi;split at hi
   .rename_i hb;have V:=he e aq hb;rw [Nat.testBit_or,Nat.testBit_or,oy,oy]at hi;rcases hi with(hi|hi)|hi
    .exact hs i hi
    .rw [Nat.testBit_two_pow]at hi;simp at hi;subst hi;exact V
    .exact U _ _ hi V
   .exact hs i hi
 have O:∀(l:List Oper) (G:Array Nat) (S:Nat->Bool),(∀j i,(G.getD j 0).testBit i=ab->S j=ab->S i=ab)->
   (∀k o,l[k]?=aa o->S (G.size+k)=ab->∀e∈o.after,Region.binds .any e=ab->S e.on=ab)->
   ∀j i,((l.foldl (λG o=>G.push (o.after.foldl (λs e=>if Region.binds .any e then s|||2^e.on|||G.getD e.on 0 else s) 0)) G).getD j 0).testBit i=ab->S j=ab->S i=ab:=by
  intro l
  induction l with
  |nil=>intro G S h1 _ j i hi hj;exact h1 j i hi hj
  |cons o l ih=>
   intro G S h1 h2 j i hi hj;simp only [List.foldl_cons]at hi;refine ih _ S ?_ (λk o' h7=>by
    intro hk;refine h2 (k+1) o' (by simpa using h7) ?_;rw [Array.size_push]at hk;rw [show G.size+(k+1)=G.size+1+k from by omega];exact hk) j i hi hj
   intro j i hi hj;by_cases hs:j<G.size
   .rw [ib,Array.getElem?_push_lt hs,<-pO hs,<-ib]at hi;exact h1 j i hi hj
   .by_cases he:j=G.size
    .subst he;rw [ib,Array.getElem?_push_size,Option.getD_some,<-Array.foldl_toList]at hi;exact I G S h1 o.after.toList 0 aq (λe h6 hb=>h2 0 o aq ua e (by simpa using h6) hb) i hi
    .rw [ib,Array.getElem?_eq_none aA]at hi;simp at hi
 intro j i hi S hS hj;refine O ops.toList #[] S aq (λk o ho hk=>hS k o A2 (by simpa using hk)) j i ?_ hj;rw [Region.before,<-Array.foldl_toList]at hi;exact hi
structure Lg where
 dst:Option Nat
 rd:List Nat
 F:List Nat
 Wi:List Nat
 deriving DecidableEq
def uC(e f:Lg):Bool:=
 (match e.dst with|some d=>f.rd.contains d||f.dst==aa d|none=>af)||(match f.dst with|some d=>e.rd.contains d|none=>af)||
 e.Wi.any (λi=>f.F.contains i||f.Wi.contains i)||f.Wi.any (λi=>e.F.contains i)
def Fs(ops:Array Oper)(G:List Lg):Bool:=
 let b:=Region.before ops
 (cQ G.length).all λj=>(cQ j).all λi=>
  match G[i]?,G[j]? with
  |some e,aa f=> !uC e f||(b.getD j 0).testBit i
  |_,_=>af
def qi(ops:Array Oper)(o:Oper):List Nat:=
 match o.guard with
 |none=> []
 |some (j,_)=>((ops[j]?).bind (·.dst)).toList
def nU(ops:Array Oper)(o:Oper)(R:eM):Option Bool:=
 match o.guard with
 |none=>aa ab
 |some (j,want)=>match((ops[j]?).bind (·.dst)).bind R with
  |some (.b t)=>aa (t==want)
  |some (.tup [])=>aa af
  |_=>ah
structure En where
 lg:Lg
 out:Option SV
 W:ix
def wr(e:En):List (Nat×Option SV):=match e.lg.dst with|some d=> [(d,e.out)]|none=> []
def I8(P:Program)(ops:Array Oper)(o:Oper)(R:eM)(H:cG)(e:En):Prop:=
  e.lg.dst=o.dst/\e.lg.Wi=e.W.map (·.1)/\
    ((nU ops o R=aa ab/\e.lg.rd=qi ops o++oQ o/\LT P o R H e.lg.F e.W e.out)\/
     (nU ops o R=aa af/\e.lg.rd=qi ops o/\e.lg.F= []/\e.W= []/\e.out=aa (.tup [])))
def tg(P:Program)(ops:Array Oper):List Oper->eM->cG->Nat->List En->eM->cG->Nat->Prop
 | [],R,H,L,es,R',H',Lf=>es= []/\R=R'/\H=H'/\L=Lf
 | o::os,R,H,L,es,R',H',Lf=>∃e G L',es=e::G/\I8 P ops o R H e/\L<=L'/\(∀id I,(id,I)∈e.W->id<L'/\(id∉e.lg.F->L<=id))/\
   tg P ops os (dZ R (wr e)) (dZ H e.W) L' G R' H' Lf
theorem tg.at{P:Program}{ops:Array Oper}:∀{O:List Oper} {R:eM} {H:cG} {L:Nat} {es:List En} {R':eM} {H':cG} {Lf:Nat},tg P ops O R H L es R' H' Lf->
  es.length=O.length/\R'=(es.map wr).foldl dZ R/\H'=(es.map (·.W)).foldl dZ H/\L<=Lf/\(∀e∈es,∀id G,(id,G)∈e.W->id<Lf)/\
  ∀i o,O[i]?=aa o->∃e I,es[i]?=aa e/\L<=I/\I8 P ops o (((es.take i).map wr).foldl dZ R) (((es.take i).map (·.W)).foldl dZ H) e/\
   (∀id G,(id,G)∈e.W->id∉e.lg.F->I<=id)/\(∀j f,j<i->es[j]?=aa f->∀id G,(id,G)∈f.W->id<I)
 | [],R,H,L,es,R',H',Lf,h=>by
  obtain⟨rfl,rfl,rfl,rfl⟩:=h;exact⟨rfl,rfl,rfl,bH _,aq,λi o ho=>by simp at ho⟩
 |o::O,R,H,L,es,R',H',Lf,h=>by
  obtain⟨e,h7,L',rfl,hg,hL,hW,hr⟩:=h;obtain⟨h1,h2,h3,h5,h6,h4⟩:=tg.at hr;refine⟨by simp [h1],mY,by simpa using h3,ag,λx hx id G hm=>?_,λi o' ho=>?_⟩
  .rcases gy.1 hx with rfl|hx
   .have:=(hW id G hm).1;omega
   .exact h6 x hx id G hm
  cases i with
  |zero=>
   simp at ho;subst ho;exact⟨e,L,rfl,bH _,by simpa using hg,λid G hm hF=>(hW id G hm).2 hF,λj f hj=>ag⟩
  |succ i=>
   obtain⟨e',I,a1,a2,U,V,Z⟩:=h4 i o' A2;refine⟨e',I,by simpa using a1,ag,by simpa using U,V,λj f hj hf id G hm=>?_⟩;cases j with
   |zero=>simp at hf;subst hf;have:=(hW id G hm).1;omega
   |succ j=>exact Z j f ag (by simpa using hf) id G hm
def Bh(B:Nat)(ds:List Deferred)(w:World):Prop:=
 (ds.map (·.target)).Pairwise (λa b=>∀r,a= .collected r->b≠ .collected r)/\(∀d∈ds,(∃r,d={target:= .collected r,args:= #[]}/\B<=r/\w.heap[r]?=aa (.deferred (aa []))))/\B<=w.heap.size
structure dO(N B L:Nat)(ρ:bw)(R:eM)(H:cG)(a:Act)(w:World):Prop where
 size:a.tmps.size=N
 regs:∀t v,R t=aa v->av ρ v (a.tmps.getD t undef)
 heap:iX ρ H w
 sep:l7 ρ H
 fresh:∀id,L<=id->ρ id=ah
 dfr:Bh B a.defers w
structure Ev(ρ:bw)(H:cG)(w:World)(ρ':bw)(H':cG)(w':World):Prop where
 ext:fK ρ ρ'
 fr:Fr (dV ρ H) w w'
 own:∀k o,dV ρ' H' k o->dV ρ H k o\/w.heap.size<=k
theorem Ev.refl(ρ:bw)(H:cG)(w:World):Ev ρ H w ρ H w:=⟨fK.refl _,Fr.refl _ _,λ_ _ h=> .inl h⟩
theorem Ev.trans{ρ1 ρ2 ρ3:bw}{H1 G I:cG}{O U V:World}(h:Ev ρ1 H1 O ρ2 G U)(k:Ev ρ2 G U ρ3 I V):Ev ρ1 H1 O ρ3 I V:=
  ⟨h.ext.trans k.ext,h.fr.trans k.fr (λx o hx ho=>(h.own x o ho).resolve_right ag),
   λx o ho=>(k.own x o ho).elim (λh2=>h.own x o h2) (λh2=> .inr (jP h.fr.size h2))⟩
theorem uw.ev{ρ':bw}{H G:cG}{w':World}(h:uw ρ H w ρ' G w'):Ev ρ H w ρ' G w':=⟨h.ext,h.fr,h.own⟩
theorem Bh.fr{B:Nat}{ds:List Deferred}{w':World}(h:Bh B ds w)(hf:Fr S w w'):Bh B ds w':=
 ⟨h.1,λd hd=>by
  obtain⟨r,e,hb,hr⟩:=h.2.1 d hd;exact⟨r,e,hb,(hf.blk _ _ hr).fixed rfl (λ_ _ _ h=>by cases h)⟩,jP h.2.2 hf.size⟩
section
variable {P:Program} {ops:Array Oper} {N B:Nat}
theorem Ga{o:Oper}{i:Nat}{Ri:eM}{H Hi:cG}{e:En}{L L' n:Nat}{r:Option Nat}{a:Act}{K:Act->World->Prop}(hi:ops[i]?=aa o)(hg:I8 P ops o Ri Hi e)(hN:∀d,o.dst=aa d->d<N)(hR:∀t,t∈e.lg.rd->R t=Ri t)(hH:∀id,(id∈e.lg.F\/id∈e.lg.Wi)->H id=Hi id)(hs:dO N B L ρ R H a w)(h6:∀id ob,(id,ob)∈e.W->id∉e.lg.F->ρ id=ah)(hL:L<=L')(hW:∀id ob,(id,ob)∈e.W->id<L')(hk:∀a' w' ρ',dO N B L' ρ' (dZ R (wr e)) (dZ H e.W) a' w'->Ev ρ H w ρ' (dZ H e.W) w'->(∀id rb,ρ' id=aa rb->ρ id=aa rb\/∃ob,(id,ob)∈e.W)->K a' w'):wpOpIn (Fw r) n P ops Q i K a w:=by
 obtain⟨hd,hWi,h9⟩:=hg;have put:∀(rv:Value) (w':World) (ρ':bw),cI ρ Hi w e.W ρ' w'->(∀v,e.out=aa v->av ρ' v rv)->K (a.put o.dst rv) w':=by
  intro rv w' ρ' hc hv;have U:=hc.evo (H:=H) (λid ob hm=>(hH id (.inr (by rw [hWi];exact mw.2 ⟨_,hm,rfl⟩))).symm) hs.heap hs.sep;rw [wx]at U;refine hk _ _ ρ' ⟨?_,?_,U.heap,U.sep,?_,?_⟩ U.ev hc.dom
  .cases I:o.dst<;>simp [Act.put,I,hs.size]
  .intro t v ht;cases I:o.dst with
   |none=>
    rw [I]at hd;simp only [wr,hd,dZ,vB]at ht;simp only [Act.put];exact(hs.regs t v ht).ext U.ext
   |some d=>
    rw [I]at hd;have hdN:d<a.tmps.size:=by rw [hs.size];exact hN d I
    simp only [wr,hd,dZ,gJ,vB]at ht;simp only [Act.put];by_cases x0:t=d
    .subst x0;simp at ht;exact Np
    .have:(t==d)=af:=by simpa using x0
     simp only [this]at ht;rw [ib,nI (λe=>x0 e.symm),<-ib];exact(hs.regs t v ht).ext U.ext
  .intro id hid;cases hr:ρ' id with
   |none=>rfl
   |some rb=>
    rcases hc.dom id rb hr with h|⟨ob,hm⟩
    .rw [hs.fresh id ag]at h;cases h
    .have:=hW id ob hm;omega
  .have:(a.put o.dst rv).defers=a.defers:=by cases I:o.dst<;>simp [Act.put]
   rw [this];exact hs.dfr.fr U.fr
 have V:∀t,nU ops o Ri=aa t->e.lg.rd=(qi ops o++e.lg.rd.drop (qi ops o).length)->Region.wanted o (yielded ops a.tmps)=t:=by
  intro t ht O;unfold nU at ht;unfold Region.wanted;unfold qi at O;split at ht
  .rename_i ha;simp only [ha];cases ht;rfl
  .rename_i j h8 ha;simp only [ha]at O|-;cases h7:(ops[j]?).bind (·.dst)with
   |none=>rw [h7]at ht;cases ht
   |some s=>
    rw [h7]at ht O;have hmem:s∈e.lg.rd:=by rw [O];simp
    simp only [ur]at ht;cases Z:Ri s with
    |none=>rw [Z]at ht;cases ht
    |some v=>
     rw [Z]at ht;cases v with
     |b b=>
      have G:=hs.regs s _ ((hR s hmem).trans Z);simp only [av]at G;have x5:yielded ops a.tmps j=aa b:=by
       unfold yielded;rw [h7,ur];have x7:s<a.tmps.size:=by
        refine Nat.lt_of_not_le λhlt=>?_
        rw [ib,Array.getElem?_eq_none hlt]at G;cases G
       have:a.tmps[s]?=aa (.bool b):=by rw [ib,pO x7]at G;rw [pO x7];exact congrArg aa G
       rw [this]
      rw [x5];cases ht;cases b<;>cases h8<;>rfl
     |tup l=>
      cases l with
      |cons _ _=>cases ht
      |nil=>
       cases ht;have G:=hs.regs s _ ((hR s hmem).trans Z);simp only [av,aD]at G;obtain⟨cs,e,rfl⟩:=G;have x5:yielded ops a.tmps j=ah:=by
        unfold yielded;rw [h7,ur];cases hg:a.tmps[s]? with
        |none=>rfl
        |some x=>rw [ib,hg]at e;simp only [Option.getD_some]at e;subst e;rfl
       rw [x5];cases h8<;>rfl
     |_=>cases ht
 unfold wpOpIn;simp only [hi];rcases h9 with⟨hp,O,hlt⟩|⟨hp,O,hF,hW0,x6⟩
 .have hw:=V ab hp (by rw [O];simp);simp only [hw,if_true];refine hlt r n a w ρ K Q (λt ht v hv=>hs.regs t v ((hR t (by rw [O];simp [ht])).trans hv)) (λid hid b hb=>?_) (λi hi j hj bi bj ri rj hne hbi hbj=>?_) h6 put
  .exact hs.heap id b ((hH id (.inl hid)).trans hb)
  .exact hs.sep i j bi bj ri rj hne ((hH i (.inl hi)).trans hbi) ((hH j (.inl hj)).trans hbj)
 .have hw:=V af hp (by rw [O];simp);simp only [hw,gE,if_false];refine⟨λ_ _=>trivial,put undef w ρ ?_ (λv hv=>by rw [x6]at hv;cases hv;exact⟨[],rfl,by simp only [aD]⟩)⟩;rw [hW0];exact cI.zero _ _ _
theorem Ha{r:Option Nat}{n:Nat}{Q:Exit->Act->World->Prop}{R':eM}{U:cG}{Lf:Nat}(hN:∀(i:Nat) (o:Oper) (d:Nat),ops[i]?=aa o->o.dst=aa d->d<N):
  ∀(I:List Oper) (k:Nat) (R:eM) (H:cG) (L:Nat) (es:List En) (ρ:bw) (a:Act) (w:World),(∀j,I[j]?=ops[k+j]?)->tg P ops I R H L es R' U Lf->dO N B L ρ R H a w->
   (∀O w' ρ',dO N B Lf ρ' R' U O w'->Ev ρ H w ρ' U w'->Q .normal O w')->wpOpsIn (Fw r) n P ops Q (List.range' k I.length) a w
 | [],k,R,H,L,es,ρ,a,w,_,hr,hs,hk=>by
  obtain⟨rfl,rfl,rfl,rfl⟩:=hr;exact hk a w ρ hs (Ev.refl _ _ _)
 |o::I,k,R,H,L,es,ρ,a,w,hos,hr,hs,hk=>by
  obtain⟨e,V,L',rfl,hg,hL,hW,h6⟩:=hr;have h0:ops[k]?=aa o:=by have:=hos 0;simpa using this.symm
  rw [jM,List.range'_succ,wpOpsIn_cons];refine Ga (L':=L') h0 hg (λd hd=>hN k o d h0 hd) (λ_ _=>rfl) (λ_ _=>rfl) hs (λid ob hm hF=>hs.fresh id ((hW id ob hm).2 hF)) hL (λid ob hm=>(hW id ob hm).1) ?_;intro O w' ρ' h7 Z _;refine Ha hN I (k+1) _ _ L' V ρ' O w' (λj=>by have:=hos (j+1);simp only [pP]at this;rw [this];congr 1;omega) h6 h7 ?_;intro a2 w2 ρ2 h8 G;exact hk a2 w2 ρ2 h8 (Z.trans G)
def JD(ops:Array Oper):Bool:=(cQ ops.size).all λi=>match ops[i]? with|some o=>o.after.all λe=> !Region.binds .any e||decide (e.on<i)|none=>ab
theorem KT{e:En}{t:Nat}(h:∃x,(wr e).lookup t=aa x):e.lg.dst=aa t:=by
 unfold wr at h;cases hd:e.lg.dst with
 |none=>rw [hd]at h;simp at h
 |some d=>
  rw [hd]at h;obtain⟨x,hx⟩:=h;simp only [gJ,vB]at hx;split at hx
  .rename_i e1;simp at e1;rw [e1]
  .cases hx
theorem KS{e:En}(G:e.lg.Wi=e.W.map (·.1)){id:Nat}(h:∃x,e.W.lookup id=aa x):id∈e.lg.Wi:=by obtain⟨x,hx⟩:=h;rw [G];exact mw.2 ⟨_,Ar hx,rfl⟩
theorem ahj{r:Option Nat}{n:Nat}{R':eM}{H H':cG}{L L':Nat}{es:List En}{a:Act}{id0:Nat}(hm:P.follows .mixedOrders=ab)(hN:∀(i:Nat) (o:Oper) (d:Nat),ops[i]?=aa o->o.dst=aa d->d<N)(hr:tg P ops ops.toList R H L es R' H' L')(hchk:Fs ops (es.map (·.lg))=ab)(x0:JD ops=ab)(hs:dO N B L ρ R H a w)(hk:∀a' w' ρ',dO N B L' ρ' R' H' a' w'->Ev ρ H w ρ' H' w'->Q .normal a' w'):(Code.region id0 ops ab).wpIn (Fw r) n P Q a w:=by
 obtain⟨cx,hR',hH',hLL,hLW,hat⟩:=hr.at;have hlen':es.length=ops.size:=by rw [cx];simp
 let RS:=λS:Nat->Bool=>jC S 0 (es.map wr) R
 let HS:=λS:Nat->Bool=>jC S 0 (es.map (·.W)) H
 let DC:=λS:Nat->Bool=>∀k o,ops[k]?=aa o->S k=ab->∀e∈o.after,Region.binds .any e=ab->S e.on=ab
 have h7:∀i j e f,i<j->es[i]?=aa e->es[j]?=aa f->uC e.lg f.lg=ab->((Region.before ops).getD j 0).testBit i=ab:=by intro i j e f hij he hf hc;unfold Fs at hchk;simp only [jg,List.mem_range,dm]at hchk;have hj:j<es.length:=(dA.1 hf).1;have h1:=hchk j hj i hij;rw [ky,ky,he,hf]at h1;simp only [nq]at h1;rw [hc]at h1;simpa using h1
 have agreeR:∀(S:Nat->Bool) i o e,DC S->S i=af->ops[i]?=aa o->(∀ed∈o.after,Region.binds .any ed=ab->S ed.on=ab)->es[i]?=aa e->
   ∀t,(t∈e.lg.rd\/e.lg.dst=aa t)->∀j f,es[j]?=aa f->f.lg.dst=aa t->S j=decide (j<i):=by
  intro S i o e hS hi ho ha he t ht j f hf x7;by_cases h6:j<i
  .rw [decide_eq_true h6];have hc:uC f.lg e.lg=ab:=by
    unfold uC;rw [x7];rcases ht with ht|ht
    .simp [ht]
    .simp [ht]
   have hb:=h7 j i f e h6 hf he hc;have h2:=Fh ops i j hb (λk=>S k||k==i) (λk o' hk I ed Z hbd=>by
    simp only [oy,beq_iff_eq]at I|-;rcases I with I|I
    .exact .inl (hS k o' hk I ed Z hbd)
    .subst I;rw [ho]at hk;cases hk;exact .inl (ha ed Z hbd)) aq
   simp only [oy,beq_iff_eq]at h2;exact h2.resolve_right ag
  .rw [decide_eq_false h6];by_cases hj:j=i
   .subst hj;exact hi
   .have hij:i<j:=ag;have hc:uC e.lg f.lg=ab:=by
     unfold uC;rw [x7];rcases ht with ht|ht
     .simp [ht]
     .simp [ht]
    have hb:=h7 i j e f hij he hf hc;cases hSj:S j with
    |false=>rfl
    |true=>have:=Fh ops j i hb S hS hSj;rw [hi]at this;cases this
 have agreeH:∀(S:Nat->Bool) i o e,DC S->S i=af->ops[i]?=aa o->(∀ed∈o.after,Region.binds .any ed=ab->S ed.on=ab)->es[i]?=aa e->
   ∀t,(t∈e.lg.F\/t∈e.lg.Wi)->∀j f,es[j]?=aa f->t∈f.lg.Wi->S j=decide (j<i):=by
  intro S i o e hS hi ho ha he t ht j f hf x7;by_cases h6:j<i
  .rw [decide_eq_true h6];have hc:uC f.lg e.lg=ab:=by unfold uC;rw [oy];left;rw [oy];right;rw [List.any_eq_true];exact⟨t,x7,by rcases ht with ht|ht<;>simp [ht]⟩
   have hb:=h7 j i f e h6 hf he hc;have h2:=Fh ops i j hb (λk=>S k||k==i) (λk o' hk I ed Z hbd=>by
    simp only [oy,beq_iff_eq]at I|-;rcases I with I|I
    .exact .inl (hS k o' hk I ed Z hbd)
    .subst I;rw [ho]at hk;cases hk;exact .inl (ha ed Z hbd)) aq
   simp only [oy,beq_iff_eq]at h2;exact h2.resolve_right ag
  .rw [decide_eq_false h6];by_cases hj:j=i
   .subst hj;exact hi
   .have hij:i<j:=ag;have hc:uC e.lg f.lg=ab:=by
     unfold uC;rcases ht with ht|ht
     .rw [oy];right;rw [List.any_eq_true];exact⟨t,x7,by simp [ht]⟩
     .rw [oy];left;rw [oy];right;rw [List.any_eq_true];exact⟨t,ht,by simp [x7]⟩
    have hb:=h7 i j e f hij he hf hc;cases hSj:S j with
    |false=>rfl
    |true=>have:=Fh ops j i hb S hS hSj;rw [hi]at this;cases this
 have O:∀(j:Nat) (f:En),es[j]?=aa f->f.lg.Wi=f.W.map (·.1):=by intro j f hf;have hj:j<es.length:=(dA.1 hf).1;obtain⟨o,ho⟩:∃o,ops.toList[j]?=aa o:=⟨_,dy (by rw [<-cx];exact hj)⟩;obtain⟨e,Li,h1,_,h3,_⟩:=hat j o ho;rw [hf]at h1;cases h1;exact h3.2.1
 have pre:∀i,(es.map wr).take i=(es.take i).map wr:=λi=>by rw [iU]
 have preH:∀i,(es.map (·.W)).take i=(es.take i).map (·.W):=λi=>by rw [iU]
 have main:∀(h8:Nat) (G:Array Bool) (ρ1:bw) (a1:Act) (w1:World),G.size=ops.size->((cQ ops.size).filter λi=> !G.getD i ab).length<=h8->DC (λi=>G.getD i af)->
   dO N B L' ρ1 (RS λi=>G.getD i af) (HS λi=>G.getD i af) a1 w1->Ev ρ H w ρ1 (HS λi=>G.getD i af) w1->
   (∀id rb,ρ1 id=aa rb->ρ id=aa rb\/∃j f ob,G.getD j af=ab/\es[j]?=aa f/\(id,ob)∈f.W)->
   wpAnyIn (Fw r) n P .any ops Q h8 G a1 w1:=by
  intro h8;have hready:∀G:Array Bool,G.size=ops.size->Region.ready .any ops G= []->∀i,i<ops.size->G.getD i af=ab:=by
   intro G hsz hnil i
   induction i using Nat.strongRecOn with
   |_ i ih=>
    intro hi;cases hl:G.getD i af with
    |true=>rfl
    |false=>
     exfalso;have hmem:i∈Region.ready .any ops G:=by
      rw [mem_ready];refine⟨?_,ops[i],pO hi,?_⟩
      .rw [ib,pO ag]at hl|-;simpa using hl
      .intro e he;unfold JD at x0;simp only [jg,List.mem_range]at x0;have h1:=x0 i hi;rw [pO hi]at h1;simp only at h1;rw [Array.all_eq_true_iff_forall_mem]at h1;have h2:=h1 e he;cases hb:Region.binds .any e with
       |false=>simp
       |true=>
        rw [hb]at h2;simp at h2;simp [ih e.on h2 ag]
     rw [hnil]at hmem;cases hmem
  have hfin:∀(G:Array Bool) (ρ1:bw) (a1:Act) (w1:World),(∀i,i<ops.size->G.getD i af=ab)->dO N B L' ρ1 (RS λi=>G.getD i af) (HS λi=>G.getD i af) a1 w1->
    Ev ρ H w ρ1 (HS λi=>G.getD i af) w1->Q .normal a1 w1:=by
   intro G ρ1 a1 w1 h9 x6 U;have e1:(RS λi=>G.getD i af)=R':=by
    rw [hR']
    funext t
    have:(es.map wr).foldl dZ R=jC (λj=>decide (j<0+(es.map wr).length)) 0 (es.map wr) R:=by rw [Dj,ly]
    rw [this];refine Ak t _ 0 R R rfl (λj u hu _=>?_);have hj:j<(es.map wr).length:=(dA.1 hu).1;rw [ig,h9 j (by simp at hj;omega)];simp at hj|-;exact hj
   have e2:(HS λi=>G.getD i af)=H':=by
    rw [hH']
    funext t
    have:(es.map (·.W)).foldl dZ H=jC (λj=>decide (j<0+(es.map (·.W)).length)) 0 (es.map (·.W)) H:=by rw [Dj,ly]
    rw [this];refine Ak t _ 0 H H rfl (λj u hu _=>?_);have hj:j<(es.map (·.W)).length:=(dA.1 hu).1;rw [ig,h9 j (by simp at hj;omega)];simp at hj|-;exact hj
   rw [e1,e2]at x6;rw [e2]at U;exact hk a1 w1 ρ1 x6 U
  induction h8 with
  |zero=>
   intro G ρ1 a1 w1 hsz hcnt hdc x6 U _;have h9:∀i,i<ops.size->G.getD i af=ab:=by
    intro i hi;cases hl:G.getD i af with
    |true=>rfl
    |false=>
     exfalso;have:i∈(cQ ops.size).filter λi=> !G.getD i ab:=by rw [List.mem_filter];refine⟨List.mem_range.2 hi,?_⟩;rw [ib,pO ag]at hl|-;simpa using hl
     have:=List.length_pos_of_mem this;omega
   refine⟨?_,hfin G ρ1 a1 w1 h9 x6 U⟩;rw [List.eq_nil_iff_forall_not_mem];intro i hi;obtain⟨h1,o,ho,_⟩:=mem_ready.1 hi;have hio:i<ops.size:=(jL.1 ho).1;have h2:=h9 i hio;rw [ib,pO ag]at h1 h2;simp only [Option.getD_some]at h1 h2;rw [h1]at h2;cases h2
  |succ h8 ih=>
   intro G ρ1 a1 w1 hsz hcnt hdc x6 U hdom;refine⟨λhnil=>hfin G ρ1 a1 w1 (hready G hsz hnil) x6 U,λi hi=>?_⟩;obtain⟨hun,o,ho,ha⟩:=mem_ready.1 hi;have hio:i<ops.size:=(jL.1 ho).1;have hSi:G.getD i af=af:=by rw [ib,pO ag]at hun|-;exact hun
   have x5:∀ed∈o.after,Region.binds .any ed=ab->G.getD ed.on af=ab:=by intro ed Z hb;have:=ha ed Z;rw [hb]at this;exact pK
   obtain⟨e,Li,he,hLi,hgood,hfr1,hfr2⟩:=hat i o A2;have aR:=agreeR (λi=>G.getD i af) i o e hdc hSi ho x5 he;have aH:=agreeH (λi=>G.getD i af) i o e hdc hSi ho x5 he;have prefR:∀t,(t∈e.lg.rd\/e.lg.dst=aa t)->RS (λi=>G.getD i af) t=(((es.take i).map wr).foldl dZ R) t:=by intro t ht;have h1:=Dj (es.map wr) 0 i R;rw [pre]at h1;rw [<-h1];refine Ak t _ 0 R R rfl (λj u hu hx=>?_);rw [ky]at hu;obtain⟨f,hf,rfl⟩:=so.1 hu;simpa using aR t ht j f hf (KT hx)
   have prefH:∀t,(t∈e.lg.F\/t∈e.lg.Wi)->HS (λi=>G.getD i af) t=(((es.take i).map (·.W)).foldl dZ H) t:=by intro t ht;have h1:=Dj (es.map (·.W)) 0 i H;rw [preH]at h1;rw [<-h1];refine Ak t _ 0 H H rfl (λj u hu hx=>?_);rw [ky]at hu;obtain⟨f,hf,rfl⟩:=so.1 hu;simpa using aH t ht j f hf (KS (O j f hf) hx)
   have hSn:∀j,(G.setIfInBounds i ab).getD j af=(G.getD j af||j==i):=by
    intro j;rw [ib,ib];by_cases hj:j=i
    .subst hj;rw [Bb ag];simp
    .rw [nI (λe=>hj e.symm)];have:(j==i)=af:=ua;simp [this]
   have hstep:∀{β:Type} (V:List (List (Nat×Option β))) (f:Nat->Option β) (wi:List (Nat×Option β)),V[i]?=aa wi->
     (∀t,(∃x,wi.lookup t=aa x)->∀j u,V[j]?=aa u->(∃x,u.lookup t=aa x)->G.getD j af=decide (j<i))->
     jC (λj=>(G.setIfInBounds i ab).getD j af) 0 V f=dZ (jC (λj=>G.getD j af) 0 V f) wi:=by
    intro β V f wi hwi hag
    funext t
    cases hl:wi.lookup t with
    |none=>
     have e1:dZ (jC (λj=>G.getD j af) 0 V f) wi t=jC (λj=>G.getD j af) 0 V f t:=by simp [dZ,hl]
     rw [e1];refine Ak t _ 0 f f rfl (λj u hu hx=>?_);rw [ig,hSn];by_cases hj:j=i
     .subst hj;rw [hwi]at hu;cases hu;obtain⟨x,hx⟩:=hx;rw [hl]at hx;cases hx
     .have:(j==i)=af:=ua;simp [this]
    |some x=>
     have e1:dZ (jC (λj=>G.getD j af) 0 V f) wi t=x:=by simp [dZ,hl]
     rw [e1];have e2:jC (λj=>(G.setIfInBounds i ab).getD j af) 0 V f t=jC (λj=>decide (j<0+(i+1))) 0 V f t:=by
      refine Ak t _ 0 f f rfl (λj u hu hx=>?_);rw [ig,hSn,hag t ⟨x,hl⟩ j u hu hx];by_cases hj:j=i
      .subst hj;simp
      .have:(j==i)=af:=ua;rw [this,Bool.or_false];congr 1;apply propext;omega
     rw [e2,Dj];have hil:i<V.length:=(dA.1 hwi).1;rw [Bc hil,List.foldl_append];have:V[i]=wi:=by rw [dy hil]at hwi;exact Option.some.inj hwi
     simp only [List.foldl_cons,List.foldl_nil,this,dZ,hl]
   have eR:RS (λj=>(G.setIfInBounds i ab).getD j af)=dZ (RS λj=>G.getD j af) (wr e):=
    hstep (es.map wr) R (wr e) (by rw [ky,he];rfl) (λt ht j u hu hx=>by
     rw [ky]at hu;obtain⟨f,hf,rfl⟩:=so.1 hu;exact aR t (.inr (KT ht)) j f hf (KT hx))
   have eH:HS (λj=>(G.setIfInBounds i ab).getD j af)=dZ (HS λj=>G.getD j af) e.W:=
    hstep (es.map (·.W)) H e.W (by rw [ky,he];rfl) (λt ht j u hu hx=>by
     rw [ky]at hu;obtain⟨f,hf,rfl⟩:=so.1 hu;exact aH t (.inr (KS (O i e he) ht)) j f hf (KS (O j f hf) hx))
   refine Ga (L:=L') (L':=L') ho hgood (λd hd=>hN i o d ho hd) (λt ht=>prefR t (.inl ht)) (λt ht=>prefH t ht) x6 ?_ (bH _) (λid ob hm=>hLW e (jO he) id ob hm) ?_
   .intro id ob hmem hF;cases hρ:ρ1 id with
    |none=>rfl
    |some rb=>
     exfalso;have hidLi:=hfr1 id ob hmem hF;have hidWi:id∈e.lg.Wi:=by rw [hgood.2.1];exact mw.2 ⟨_,hmem,rfl⟩
     rcases hdom id rb hρ with h|⟨j,f,ob',hj,hf,hm2⟩
     .rw [hs.fresh id ag]at h;cases h
     .have hfWi:id∈f.lg.Wi:=by rw [O j f hf];exact mw.2 ⟨_,hm2,rfl⟩
      have h3:=aH id (.inr hidWi) j f hf hfWi;rw [hj]at h3;have h6:j<i:=by simpa using h3.symm
      have:=hfr2 j f h6 hf id ob' hm2;omega
   .intro a2 w2 ρ2 hs2 hev2 hdom2;refine ih (G.setIfInBounds i ab) ρ2 a2 w2 (by simp [hsz]) ?_ ?_ (by rw [eR,eH];exact hs2) (by rw [eH];exact U.trans hev2) ?_
    .have hsub:∀l:List Nat,l.Nodup->i∈l->(l.filter λk=> !(G.setIfInBounds i ab).getD k ab).length+1<=(l.filter λk=> !G.getD k ab).length:=by
      intro l;have hne:∀k,k≠i->(G.setIfInBounds i ab).getD k ab=G.getD k ab:=λk hk=>by rw [ib,ib,nI (λe=>hk e.symm)]
      have hii:(G.setIfInBounds i ab).getD i ab=ab:=by rw [ib,Bb ag];rfl
      induction l with
      |nil=>intro _ h;cases h
      |cons x l ihl=>
       intro hnd hmem;rw [List.nodup_cons]at hnd;simp only [List.filter_cons];by_cases hx:x=i
       .subst hx;have heq:(l.filter λk=> !(G.setIfInBounds x ab).getD k ab)=l.filter λk=> !G.getD k ab:=
         List.filter_congr (λk hk=>by rw [hne k (λe=>hnd.1 (e▸hk))])
        rw [hii,heq];simp [hun]
       .rw [hne x hx];have:=ihl hnd.2 ((gy.1 hmem).resolve_left (λe=>hx e.symm));split
        .simp only [jM];omega
        .omega
     have:=hsub (cQ ops.size) List.nodup_range (List.mem_range.2 hio);omega
    .intro k o' hk I ed Z hb;have I:(G.setIfInBounds i ab).getD k af=ab:=I;show(G.setIfInBounds i ab).getD ed.on af=ab
     rw [hSn]at I|-;simp only [oy,beq_iff_eq]at I|-;rcases I with I|I
     .exact .inl (hdc k o' hk I ed Z hb)
     .subst I;rw [ho]at hk;cases hk;exact .inl (x5 ed Z hb)
    .intro id rb hid;rcases hdom2 id rb hid with h|⟨ob,hm2⟩
     .rcases hdom id rb h with h|⟨j,f,ob',hj,hf,hm3⟩
      .exact .inl h
      .exact .inr ⟨j,f,ob',by rw [hSn,hj];rfl,hf,hm3⟩
     .exact .inr ⟨i,e,ob,by rw [hSn];simp,he,hm2⟩
 refine wpIn_region_any hm (main ops.size (sW ops.size af) ρ a {w with drawn:=w.drawn+1} aq ?_ ?_ ?_ ?_ (λid rb h=> .inl h))
 .refine jP (List.length_filter_le _ _) aq
 .intro k o hk I;have I:(sW ops.size af).getD k af=ab:=I;rw [ib,Array.getElem?_replicate]at I;split at I<;>cases I
 .have e0:(λi=>(sW ops.size af).getD i af)=λ_=>af:=by
   funext i
   rw [ib,Array.getElem?_replicate];split<;>rfl
  have nof:∀{β:Type} (V:List (List (Nat×Option β))) (k:Nat) (f:Nat->Option β),jC (λ_=>af) k V f=f:=by
   intro β V
   induction V with
   |nil=>intro k f;rfl
   |cons x V ihw=>intro k f;simp only [jC,gE,if_false];exact ihw _ _
  simp only [RS,HS,e0,nof];exact⟨hs.size,hs.regs,hs.heap,hs.sep,λid hid=>hs.fresh id ag,hs.dfr⟩
 .have e0:(λi=>(sW ops.size af).getD i af)=λ_=>af:=by
   funext i
   rw [ib,Array.getElem?_replicate];split<;>rfl
  have nof:∀{β:Type} (V:List (List (Nat×Option β))) (k:Nat) (f:Nat->Option β),jC (λ_=>af) k V f=f:=by
   intro β V
   induction V with
   |nil=>intro k f;rfl
   |cons x V ihw=>intro k f;simp only [jC,gE,if_false];exact ihw _ _
  simp only [HS,e0,nof];exact⟨fK.refl _,(Fr.refl _ _).drew,λ_ _ h=> .inl h⟩
end
def lk{β:Type}(t:Nat):List (Nat×β)->Option β
 | []=>ah
 |(d,v)::R=>match dD t d with|true=>aa v|false=>lk t R
theorem vV{β:Type}(t:Nat):∀R:List (Nat×β),lk t R=R.lookup t
 | []=>rfl
 |(d,v)::R=>by
  simp only [lk,gJ];have e:dD t d=(t==d):=jq.2 aq;rw [e];cases h:(t==d)<;>simp [vV t R]
def hk(H:HL)(id:Nat):Option SB:=match H[id]? with|some (aa b)=>aa b|_=>ah
theorem kJ(H:HL)(id:Nat):hk H id=hg H id:=by
 unfold hk hg;cases H[id]? with
 |none=>rfl
 |some x=>cases x<;>rfl
inductive UD where
 |int (k:IntKind)
 |str
 |slc (el:Nat)
 |arr (n el:Nat)
 |st (fs:List (Nat×Nat×Nat))
 |oth
structure TI where
 sz:Nat
 agg:Bool
 zero:Option SV
 byt:Nat
 und:UD
 ks:Option (List Nat)
 sq:Option Nat
variable{ti:TI}
abbrev TT:=List (Nat×TI)
def Oj(P:Program)(t:Nat):UD->Prop
 | .int k=>P.underlying t=aa (.int k)
 | .str=>P.underlying t=aa .string
 | .slc el=>P.underlying t=aa (.slice el)
 | .arr n el=>P.underlying t=aa (.array n el)
 | .st fs=>GV P t=aa (fs.map λf=>(f.1,f.2.2))/\(cQ fs.length).map (B7 P t)=fs.map (λf=>aa (f.1,f.2.1))/\fs.map (λf=>dq P f.2.1)=fs.map (λf=>aa f.2.2)
 | .oth=>True
structure sA(P:Program)(t:Nat)(ti:TI):Prop where
 sz:dq P t=aa ti.sz
 agg:tO P t=aa ti.agg
 zero:∀z,ti.zero=aa z->jm P t=aa z
 byt:oO P t=aa ti.byt
 und:Oj P t ti.und
 ks:∀ks,ti.ks=aa ks->ir P 12 t=aa ks/\mf P t=ab/\P.eqGuardType P.depth t=af
 sq0:(P.underlying t).map wj=aa ti.sq
theorem sA.sq{t:Nat}(h:sA P t ti):∃ds,P.underlying t=aa ds/\wj ds=ti.sq:=by
 have:=h.sq0;cases hu:P.underlying t with
 |none=>rw [hu]at this;simp at this
 |some ds=>rw [hu]at this;exact⟨ds,rfl,by simpa using this⟩
theorem sA.st{t:Nat}{fs:List (Nat×Nat×Nat)}(h:sA P t ti)(hu:ti.und= .st fs):GV P t=aa (fs.map λf=>(f.1,f.2.2))/\∀(i:Nat) f,fs[i]?=aa f->B7 P t i=aa (f.1,f.2.1)/\dq P f.2.1=aa f.2.2:=by
 have hq:=h.und;rw [hu]at hq;obtain⟨h1,h2,h3⟩:=hq;refine⟨h1,λi f hf=>⟨?_,?_⟩⟩
 .have e:=congrArg (λl=>l[i]?) h2;have hi:i<fs.length:=(dA.1 hf).1;simp only [ky,hf,nq,wR hi,Option.some.injEq]at e;exact e
 .have e:=congrArg (λl=>l[i]?) h3;simp only [ky,hf,nq,Option.some.injEq]at e;exact e
def fC(P:Program)(T:TT):Prop:=∀t ti,lk t T=aa ti->sA P t ti
theorem cg{t:Nat}(sz:dq P t=some ti.sz:=by kernel_rfl)(agg:tO P t=some ti.agg:=by kernel_rfl)(zero:∀z,ti.zero=some z->jm P t=some z:=by first|(intro z h;cases h;done)|(intro z h;cases h;kernel_rfl))(byt:oO P t=some ti.byt:=by kernel_rfl)(und:Oj P t ti.und:=by first|exact trivial|(show _=_;kernel_rfl)|exact⟨by kernel_rfl,by kernel_rfl,by kernel_rfl⟩)(ks:∀ks,ti.ks=some ks->ir P 12 t=some ks/\mf P t=true/\P.eqGuardType P.depth t=false:=by first|(intro ks h;cases h;done)|(intro ks h;cases h;exact⟨by kernel_rfl,by kernel_rfl,by kernel_rfl⟩))(sq0:(P.underlying t).map wj=some ti.sq:=by kernel_rfl):sA P t ti:=⟨sz,agg,zero,byt,und,ks,sq0⟩
def Oi(P:Program):TT->Prop
 | []=>True
 |(t,ti)::T=>sA P t ti/\Oi P T
theorem fC.of{P:Program}:∀{T:TT},Oi P T->fC P T
 | [],_=>λt ti h=>by cases h
 |(t1,MJ)::T,h=>λt ti ht=>by
  simp only [lk]at ht;split at ht
  .rename_i e;have:=Nat.eq_of_beq_eq_true e;subst this;cases ht;exact h.1
  .exact fC.of h.2 t ti ht
def ev(R:RL):Operand->Option SV
 | .tmp t=>lk t R
 | .const v=>DB v
 | .func f=>aa (.fn f [])
 | .global _=>ah
theorem Bv(R:RL)(x:Operand):ev R x=aZ (rg R) x:=by cases x<;>simp only [ev,aZ,vV,rg]
def uI(R:RL):List Operand->Option (List SV)
 | []=>aa []
 |x::xs=>match ev R x with
  |some z=>match uI R xs with|some zs=>aa (z::zs)|none=>ah
  |none=>ah
theorem C9{R:RL}:∀{xs:List Operand} {zs:List SV},uI R xs=aa zs->xs.map (aZ (rg R))=zs.map aa
 | [],zs,h=>by cases h;rfl
 |x::xs,zs,h=>by
  simp only [uI]at h;split at h
  .rename_i z hz;split at h
   .rename_i G hw;cases h;rw [Bv]at hz;simp [hz,C9 hw]
   .cases h
  .cases h
def C8(R:RL):List (Nat×Operand)->Option (List (Nat×SV))
 | []=>aa []
 |(i,x)::xs=>match ev R x with
  |some z=>match C8 R xs with|some zs=>aa ((i,z)::zs)|none=>ah
  |none=>ah
theorem FG{R:RL}:∀{xs:List (Nat×Operand)} {zs:List (Nat×SV)},C8 R xs=aa zs->xs.map (λp=>(p.1,aZ (rg R) p.2))=zs.map (λp=>(p.1,aa p.2))
 | [],zs,h=>by cases h;rfl
 |(i,x)::xs,zs,h=>by
  simp only [C8]at h;split at h
  .rename_i z hz;split at h
   .rename_i G hw;cases h;rw [Bv]at hz;simp [hz,FG hw]
   .cases h
  .cases h
def oF(R:RL)(d:Nat):Option Operand->Option Nat
 |none=>aa d
 |some x=>match ev R x with|some z=>idxOf z|none=>ah
theorem C7(R:RL)(d:Nat)(x:Option Operand):oF R d x=lC (rg R) d x:=by
 cases x with
 |none=>rfl
 |some x=>simp only [oF,lC,Bv];cases aZ (rg R) x<;>rfl
abbrev K1:=Option SV->ix->List Nat->Nat->Prop
structure cR(P:Program)(o:Oper)(R:RL)(H:HL)(L:Nat)(k:K1):Prop where
 ex:∃out W F L',LT P o (rg R) (hg H) F W out/\L<=L'/\(∀id ob,(id,ob)∈W->id<L'/\(id∉F->L<=id))/\k out W F L'
theorem gn{H:HL}{L:Nat}(hl:H.length<=L)(h:hk H id=aa b):id<L:=by
 unfold hk at h;split at h
 .rename_i x e;have:=(dA.1 e).1;omega
 .cases h
def Mv(T:TT)(R:RL)(H:HL)(L:Nat)(t:Nat)(x:Operand)(k:K1):Prop:=
 match ev R x with
 |some (.p id off)=>match lk t T with
  |some ti=>match hk H id with
   |some b=>match eU 1 ti.sz with
    |true=>∃z,dz ti.agg ti.sz b.cells off=aa z/\k (aa z) [] [id] L
    |false=>False
   |none=>False
  |none=>False
 |_=>False
def MB(T:TT)(R:RL)(H:HL)(L:Nat)(t:Nat)(x y:Operand)(k:K1):Prop:=
 match ev R x with
 |some (.p id off)=>match ev R y with
  |some z=>match lk t T with
   |some ti=>match z.isTup with
    |false=>match hk H id with
     |some (.box l)=>(z.cells.length=ti.sz/\off+ti.sz<=l.length)/\∃m,bN l off z=m/\k ah [(id,aa (.box m))] [id] L
     |some (.row e l)=>match eU 1 ti.sz with
      |true=>(z.cells.length=ti.sz/\off+ti.sz<=l.length)/\∃m,bN l off z=m/\k ah [(id,aa (.row e m))] [id] L
      |false=>False
     |_=>False
    |true=>False
   |none=>False
  |none=>False
 |_=>False
def Mj(R:RL)(L:Nat)(x:Operand)(k:K1):Prop:=
 match ev R x with
 |some (.tup _)=>False
 |some (.agg l)=>k (aa (.p L 0)) [(L,aa (.box l))] [] (L+1)
 |some z=>k (aa (.p L 0)) [(L,aa (.box [z]))] [] (L+1)
 |none=>False
def Mf(T:TT)(L:Nat)(t:Nat)(k:K1):Prop:=
 match lk t T with
 |some ti=>match ti.zero with
  |some (.agg l)=>k (aa (.p L 0)) [(L,aa (.box l))] [] (L+1)
  |some z=>k (aa (.p L 0)) [(L,aa (.box z.cells))] [] (L+1)
  |none=>False
 |none=>False
def HB(T:TT)(L:Nat)(ne:Bool)(t:Nat)(a b:SV)(k:K1):Prop:=
 match a,b with
 | .agg xs,.agg ys=>match lk t T with
  |some ti=>match ti.ks with
   |some ks=>(xs.map kd=ks.map aa/\ys.map kd=ks.map aa)/\match ne with
    |true=>k (aa (.b (!ju xs ys))) [] [] L
    |false=>k (aa (.b (ju xs ys))) [] [] L
   |none=>False
  |none=>False
 | .sl _ _ n _ _,.slnil=>match lk t T with
  |some ti=>(ti.sq=aa 3/\0<n)/\k (aa (.b ne)) [] [] L
  |none=>False
 |a,b=>match ne with
  |true=>match gG .neq a b with
   |some z=>k (aa z) [] [] L
   |none=>match lk t T with
    |some ti=>match seq a b with
     |some r=>(ti.sq=DW a)/\k (aa (.b (!r))) [] [] L
     |none=>False
    |none=>False
  |false=>match gG .eql a b with
   |some z=>k (aa z) [] [] L
   |none=>match lk t T with
    |some ti=>match seq a b with
     |some r=>(ti.sq=DW a)/\k (aa (.b r)) [] [] L
     |none=>False
    |none=>False
def Mi(T:TT)(R:RL)(L:Nat)(op:BinOp)(t:Nat)(x y:Operand)(k:K1):Prop:=
 match ev R x with
 |some a=>match ev R y with
  |some b=>
   match op with
   | .shl=>match b with
    | .i _=>∃z,iI .shl a b=aa z/\k (aa z) [] [] L
    |b=>match iI .shl a b with|some z=>k (aa z) [] [] L|none=>False
   | .shr=>match b with
    | .i _=>∃z,iI .shr a b=aa z/\k (aa z) [] [] L
    |b=>match iI .shr a b with|some z=>k (aa z) [] [] L|none=>False
   | .quo=>∃z,gG .quo a b=aa z/\k (aa z) [] [] L
   | .rem=>∃z,gG .rem a b=aa z/\k (aa z) [] [] L
   | .eql=>HB T L af t a b k
   | .neq=>HB T L ab t a b k
   |op=>match gG op a b with
    |some z=>k (aa z) [] [] L
    |none=>False
  |none=>False
 |none=>False
def MC(R:RL)(L:Nat)(op:UnOp)(x:Operand)(k:K1):Prop:=
 match ev R x with
 |some a=>match D9 op a with
  |some z=>k (aa z) [] [] L
  |none=>False
 |none=>False
def Mm(T:TT)(R:RL)(H:HL)(L:Nat)(s d:Nat)(x:Operand)(k:K1):Prop:=
 match lk s T with
 |some ts=>match lk d T with
  |some td=>match ev R x with
   |some a=>match td.und with
    | .int ik=>match DT ik a with
     |some z=>k (aa z) [] [] L
     |none=>False
    | .str=>match a with
     | .sl id off n sz _=>match ts.und with
      | .slc el=>match lk el T with
       |some te=>match te.und with
        | .int .u8=>match dD sz 1 with
         |true=>match hk H id with
          |some b=>(off+n<=b.cells.length)/\∃l,tq ((b.cells.drop off).take n)=aa l/\k (aa (.s l)) [] [id] L
          |none=>False
         |false=>False
        |_=>False
       |none=>False
      |_=>False
     | .slnil=>match ts.und with
      | .slc el=>match lk el T with
       |some te=>match te.und with
        | .int .u8=>k (aa (.s [])) [] [] L
        |_=>False
       |none=>False
      |_=>False
     |_=>False
    | .slc el=>match a with
     | .s l=>match ts.und with
      | .str=>match lk el T with
       |some te=>match te.und with
        | .int .u8=>match dD el 5 with
         |true=>k (aa (.sl L 0 l.length 1 af)) [(L,aa (.row el (l.map .u8)))] [] (L+1)
         |false=>False
        |_=>False
       |none=>False
      |_=>False
     | .sl id o n sz full=>match dD s d with
      |true=>match lk el T with
       |some te=>match te.und with
        | .int .u8=>match eU 1 n with
         |true=>match hk H id with
          |some (.row e l)=>match dD e 5 with
           |true=>k (aa (.sl id o n sz full)) [(id,aa (.row e l))] [id] L
           |false=>False
          |_=>False
         |false=>False
        |_=>False
       |none=>False
      |false=>False
     |_=>False
    |_=>False
   |none=>False
  |none=>False
 |none=>False
def Mp(T:TT)(R:RL)(L:Nat)(t:Nat)(x:Operand)(f:Nat)(k:K1):Prop:=
 match ev R x with
 |some (.p id off)=>match lk t T with
  |some ti=>match ti.und with
   | .st fs=>match fs[f]? with
    |some (o2,_,sz)=>match eU 1 sz with
     |true=>k (aa (.p id (off+o2))) [] [] L
     |false=>False
    |none=>False
   |_=>False
  |none=>False
 |_=>False
def Mq(T:TT)(R:RL)(L:Nat)(t:Nat)(x:Operand)(f:Nat)(k:K1):Prop:=
 match ev R x with
 |some (.agg l)=>match lk t T with
  |some ti=>match ti.und with
   | .st fs=>match fs[f]? with
    |some (o2,ft,_)=>match lk ft T with
     |some te=>∃r,dz te.agg te.sz l o2=aa r/\k (aa r) [] [] L
     |none=>False
    |none=>False
   |_=>False
  |none=>False
 |_=>False
def Mt(T:TT)(R:RL)(L:Nat)(t:Nat)(x y:Operand)(k:K1):Prop:=
 match lk t T with
 |some ti=>match ti.und with
  | .arr len el=>match lk el T with
   |some te=>match ev R x with
    |some (.p id off)=>match ev R y with
     |some z=>∃i,idxOf z=aa i/\(i<len)/\k (aa (.p id (off+i*te.sz))) [] [] L
     |none=>False
    |_=>False
   |none=>False
  | .slc el=>match lk el T with
   |some te=>match ev R x with
    |some (.sl id off n sz _)=>match dD sz te.sz with
     |true=>match ev R y with
      |some z=>∃i,idxOf z=aa i/\(i<n)/\k (aa (.p id (off+i*sz))) [] [] L
      |none=>False
     |false=>False
    |_=>False
   |none=>False
  |_=>False
 |none=>False
def Ms(T:TT)(R:RL)(L:Nat)(t:Nat)(x y:Operand)(k:K1):Prop:=
 match lk t T with
 |some ti=>match ti.und with
  | .arr len el=>match lk el T with
   |some te=>match ev R x with
    |some (.agg l)=>match ev R y with
     |some z=>∃i,idxOf z=aa i/\(i<len)/\∃r,dz te.agg te.sz l (i*te.sz)=aa r/\k (aa r) [] [] L
     |none=>False
    |_=>False
   |none=>False
  |_=>False
 |none=>False
def Mo(R:RL)(L:Nat)(x:Operand)(i:Nat)(k:K1):Prop:=
 match ev R x with
 |some (.tup l)=>match l[i]? with
  |some z=>k (aa z) [] [] L
  |none=>False
 |_=>False
def Mz(R:RL)(L:Nat)(x:Operand)(k:K1):Prop:=
 match ev R x with
 |some (.p id off)=>k (aa (.p id off)) [] [] L
 |_=>False
def Mr(R:RL)(L:Nat)(fn:Fn)(first cap:Array Operand)(k:K1):Prop:=
 match fn with
 | .func f=>match first.toList with
  | []=>match uI R cap.toList with
   |some zs=>k (aa (.fn f zs)) [] [] L
   |none=>False
  |_=>False
 |_=>False
def Mh(T:TT)(R:RL)(L:Nat)(t:Nat)(x:Operand)(k:K1):Prop:=
 match lk t T with
 |some ti=>match ti.und with
  | .arr len _=>match ev R x with
   |some (.sl id off n _ _)=>match eU 1 len with
    |true=>(len<=n)/\k (aa (.p id off)) [] [] L
    |false=>False
   |_=>False
  |_=>False
 |none=>False
def Mk(T:TT)(R:RL)(L:Nat)(t:Nat)(parts:Array (Nat×Operand))(k:K1):Prop:=
 match C8 R parts.toList with
 |some xs=>match lk t T with
  |some ti=>match ti.zero with
   |some z=>match ti.und with
    | .st fs=>∃l,nB (λi=>(fs.map λf=>(f.1,f.2.2))[i]?) z.cells xs=aa l/\k (aa (.agg l)) [] [] L
    | .arr _ el=>match lk el T with
     |some te=>∃l,nB (λi=>aa (i*te.sz,te.sz)) z.cells xs=aa l/\k (aa (.agg l)) [] [] L
     |none=>False
    |_=>False
   |none=>False
  |none=>False
 |none=>False
def Ml(T:TT)(R:RL)(L:Nat)(t n:Nat)(parts:Array (Nat×Operand))(k:K1):Prop:=
 match C8 R parts.toList with
 |some xs=>match lk t T with
  |some ti=>match ti.und with
   | .slc el=>match lk el T with
    |some te=>match te.zero with
     |some z=>match eU (n*te.sz) 16777216 with
      |true=>match dD z.cells.length te.sz with
       |true=>∃l,nB (λi=>aa (i*te.sz,te.sz)) (dK n z.cells) xs=aa l/\k (aa (.sl L 0 n te.sz (eU 1 n))) [(L,aa (.row el l))] [] (L+1)
       |false=>False
      |false=>False
     |none=>False
    |none=>False
   |_=>False
  |none=>False
 |none=>False
def Mw(T:TT)(R:RL)(L:Nat)(t:Nat)(x y:Operand)(k:K1):Prop:=
 match ev R x with
 |some (.i n)=>match ev R y with
  |some (.i m)=>match lk t T with
   |some ti=>match ti.und with
    | .slc el=>match lk el T with
     |some te=>match te.zero with
      |some z=>match dD z.cells.length te.sz with
       | true=>(0<=n/\n<=m/\(te.byt:Int)*m<=281474976710656/\m<=9223372036854775807)/\
         k (aa (.sl L 0 n.toNat te.sz (decide (n=m)))) [(L,aa (.row el (dK n.toNat z.cells)))] [] (L+1)
       |false=>False
      |none=>False
     |none=>False
    |_=>False
   |none=>False
  |_=>False
 |_=>False
def MA(T:TT)(R:RL)(H:HL)(L:Nat)(t:Nat)(x:Operand)(lo hi mx:Option Operand)(k:K1):Prop:=
 match lk t T with
 |some ti=>match ti.und with
  | .slc el=>match lk el T with
   |some te=>match ev R x with
    |some (.sl id off n sz full)=>match dD sz te.sz with
     |true=>match mx with
      |none=>∃l,oF R 0 lo=aa l/\∃h,oF R n hi=aa h/\(l<=h/\h<=n)/\k (aa (.sl id (off+l*sz) (h-l) sz (full&&decide (h=n)))) [] [] L
      |some zm=>match hi with
       | some yh=>∃l,oF R 0 lo=aa l/\∃h,oF R n (aa yh)=aa h/\∃m,oF R n (aa zm)=aa m/\(l<=h/\h<=m/\m<=n)/\
         k (aa (.sl id (off+l*sz) (h-l) sz (decide (h=m)))) [] [] L
       |none=>False
     |false=>False
    |some .slnil=>match mx with
     |none=>(oF R 0 lo=aa 0/\oF R 0 hi=aa 0)/\k (aa .slnil) [] [] L
     |some _=>False
    |some (.slc id off n c sz)=>match dD sz te.sz with
     |true=>match mx with
      |none=>∃l,oF R 0 lo=aa l/\∃h,oF R n hi=aa h/\(l<=h/\h<=c)/\k (aa (.slc id (off+l*sz) (h-l) (c-l) sz)) [] [] L
      |some _=>False
     |false=>False
    |_=>False
   |none=>False
  | .arr len el=>match lk el T with
   |some te=>match ev R x with
    |some (.p id off)=>match hk H id with
     |some b=>match mx with
      | none=>∃l,oF R 0 lo=aa l/\∃h,oF R len hi=aa h/\(l<=h/\h<=len/\0<len*te.sz/\off+len*te.sz<=b.cells.length)/\
        k (aa (.sl id (off+l*te.sz) (h-l) te.sz (decide (h=len)))) [] [id] L
      |some _=>False
     |none=>False
    |_=>False
   |none=>False
  |_=>False
 |none=>False
def Mu(T:TT)(R:RL)(L:Nat)(x:Operand)(t:Nat)(k:K1):Prop:=
 match lk t T with
 |some ti=>match ti.und with
  | .slc _=>match ev R x with
   |some (.sl _ _ n _ _)=>k (aa (.i (n:Int))) [] [] L
   |some .slnil=>k (aa (.i 0)) [] [] L
   |some (.slc _ _ n _ _)=>k (aa (.i (n:Int))) [] [] L
   |_=>False
  | .arr n _=>k (aa (.i (n:Int))) [] [] L
  |_=>False
 |none=>False
def My(R:RL)(L:Nat)(x y:Operand)(k:K1):Prop:=
 match ev R x with
 |some (.i a)=>match ev R y with
  |some (.i b)=>k (aa (.i (if b<a then b else a))) [] [] L
  |_=>False
 |some (.u64 a)=>match ev R y with
  |some (.u64 b)=>k (aa (.u64 (if b<a then b else a))) [] [] L
  |_=>False
 |_=>False
def Mx(R:RL)(L:Nat)(x y:Operand)(k:K1):Prop:=
 match ev R x with
 |some (.i a)=>match ev R y with
  |some (.i b)=>k (aa (.i (if b>a then b else a))) [] [] L
  |_=>False
 |some (.u64 a)=>match ev R y with
  |some (.u64 b)=>k (aa (.u64 (if b>a then b else a))) [] [] L
  |_=>False
 |_=>False
def EZ(T:TT)(t xT:Nat):Option (Nat×TI×Bool):=
 match lk t T with
 |some ti=>match ti.und with
  | .slc el=>match lk el T with
   |some te=>match te.zero with
    |some z=>match dD z.cells.length te.sz with
     |true=>match eU 1 te.byt with
      |true=>match lk xT T with
       |some tx=>match tx.und with
        | .slc _=>aa (el,te,af)
        |_=>ah
       |none=>ah
      |false=>ah
     |false=>ah
    |none=>ah
   |none=>ah
  |_=>ah
 |none=>ah
def Mg(T:TT)(R:RL)(H:HL)(L:Nat)(x y:Operand)(t xT:Nat)(k:K1):Prop:=
 match EZ T t xT with
 |some (el,te,_)=>match ev R x with
  |some .slnil=>match ev R y with
   |some (.sl id o2 m sz _)=>match dD sz te.sz with
    |true=>match hk H id with
     |some b=>(o2+m*sz<=b.cells.length/\m*te.byt<=140737488355328)/\k (aa (.sl L 0 m sz af)) [(L,aa (.row el ((b.cells.drop o2).take (m*sz))))] [id] (L+1)
     |none=>False
    |false=>False
   |some .slnil=>k (aa .slnil) [] [] L
   |_=>False
  |some (.sl id off n sz full)=>match dD sz te.sz with
   |true=>match ev R y with
    |some .slnil=>k (aa (.sl id off n sz full)) [] [] L
    |some (.sl id2 o2 m sz2 _)=>match dD sz2 te.sz with
     |true=>match hk H id with
      |some b=>match hk H id2 with
       |some b2=>match full with
        | true=>(off+n*sz<=b.cells.length/\o2+m*sz<=b2.cells.length/\(n+m)*te.byt<=140737488355328/\0<m)/\
          k (aa (.sl L 0 (n+m) sz af)) [(L,aa (.row el ((b.cells.drop off).take (n*sz)++(b2.cells.drop o2).take (m*sz))))] [id,id2] (L+1)
        |false=>match b with
         | .row e2 l=>match dD e2 el with
          | true=>(off+n*sz<=l.length/\o2+m*sz<=b2.cells.length/\(n+m)*te.byt<=140737488355328)/\
            k (aa (.sl L 0 (n+m) sz af)) [(id,ah),(L,aa (.row el ((l.drop off).take (n*sz)++(b2.cells.drop o2).take (m*sz))))] [id,id2] (L+1)
          |false=>False
         |_=>False
       |none=>False
      |none=>False
     |false=>False
    |_=>False
   |false=>False
  |some (.slc id off n c sz)=>match dD sz te.sz with
   |true=>match ev R y with
    |some (.slc id2 o2 m _ sz2)=>match dD sz2 te.sz with
     |true=>match hk H id with
      |some (.row e2 l)=>match hk H id2 with
       | some b2=>(n+m<=c/\off+(n+m)*sz<=l.length/\o2+m*sz<=b2.cells.length/\0<l.length)/\
         k (aa (.slc id off (n+m) c sz)) [(id,aa (.row e2 (bN l (off+n*sz) (.agg ((b2.cells.drop o2).take (m*sz))))))] [id,id2] L
       |none=>False
      |_=>False
     |false=>False
    |_=>False
   |false=>False
  |_=>False
 |none=>False
def Mn(T:TT)(R:RL)(H:HL)(L:Nat)(x y:Operand)(t:Nat)(k:K1):Prop:=
 match lk t T with
 |some ti=>match ti.und with
  | .slc el=>match lk el T with
   |some te=>match ev R x with
    |some (.sl id off n sz _)=>match ev R y with
     |some (.sl id2 o2 m sz2 _)=>match dD sz te.sz with
      |true=>match dD sz2 te.sz with
       |true=>match hk H id with
        |some (.row e l)=>match hk H id2 with
         | some b2=>(off+n*sz<=l.length/\o2+m*sz<=b2.cells.length/\0<l.length)/\
           k (aa (.i ((min m n:Nat):Int))) [(id,aa (.row e (bN l off (.agg (((b2.cells.drop o2).take (m*sz)).take (min m n*sz))))))] [id,id2] L
         |none=>False
        |some (.box l)=>match hk H id2 with
         | some b2=>(off+n*sz<=l.length/\o2+m*sz<=b2.cells.length/\0<l.length)/\
           k (aa (.i ((min m n:Nat):Int))) [(id,aa (.box (bN l off (.agg (((b2.cells.drop o2).take (m*sz)).take (min m n*sz))))))] [id,id2] L
         |none=>False
        |_=>False
       |false=>False
      |false=>False
     |_=>False
    |_=>False
   |none=>False
  |_=>False
 |none=>False
def Ro:Option SV->Bool
 |some (.slc _ _ _ _ _)=>af
 |_=>ab
def K4:Option SV->Bool
 |some (.lit _)=>af
 |some (.mp _)=>af
 |_=>ab
def D2(T:TT)(P:Program)(o:Oper)(R:RL)(H:HL)(L:Nat)(k:K1):Prop:=
 match o.op with
 | .move x=>match ev R x with|some z=>k (aa z) [] [] L|none=>False
 | .assign x=>match ev R x with|some z=>k (aa z) [] [] L|none=>False
 | .pick c x y=>match ev R c with
  |some (.b t)=>∃z,(if t then ev R x else ev R y)=aa z/\k (aa z) [] [] L
  |_=>False
 | .box _ x=>Mj R L x k
 | .alloc t=>Mf T L t k
 | .load t x=>Mv T R H L t x k
 | .store t x y=>MB T R H L t x y k
 | .binOp op t x y _=>Mi T R L op t x y k
 | .unOp op _ x=>MC R L op x k
 | .convert s d x=>match K4 (ev R x)with
  |true=>Mm T R H L s d x k
  |false=>cR P o R H L k
 | .fieldAddr t x f=>Mp T R L t x f k
 | .field t x f=>Mq T R L t x f k
 | .indexAddr t x y=>Mt T R L t x y k
 | .index t x y=>Ms T R L t x y k
 | .extract x i=>Mo R L x i k
 | .nilCheck x=>Mz R L x k
 | .makeFunc fn first cap=>Mr R L fn first cap k
 | .sliceToArrayPointer t x=>Mh T R L t x k
 | .build t parts=>Mk T R L t parts k
 | .buildSlice t n parts=>Ml T R L t n parts k
 | .makeSlice t x y=>Mw T R L t x y k
 | .slice t x lo hi mx=>MA T R H L t x lo hi mx k
 | .call ⟨.builtin b,⟨args⟩,⟨tys⟩⟩=>match b,args,tys with
  | .len,[x],[t]=>match K4 (ev R x)with
   |true=>Mu T R L x t k
   |false=>cR P o R H L k
  | .min,[x,y],[_,_]=>My R L x y k
  | .max,[x,y],[_,_]=>Mx R L x y k
  | .append,[x,y],[t,xT]=>match EZ T t xT with
   |some _=>match K4 (ev R y)with
    |true=>Mg T R H L x y t xT k
    |false=>cR P o R H L k
   |none=>cR P o R H L k
  | .copy,[x,y],[t,_]=>match Ro (ev R x)&&Ro (ev R y)with
   |true=>Mn T R H L x y t k
   |false=>cR P o R H L k
  |_,_,_=>cR P o R H L k
 |_=>cR P o R H L k
end Go.Sh
