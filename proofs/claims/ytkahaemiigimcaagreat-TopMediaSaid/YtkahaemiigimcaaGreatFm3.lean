/- Merged for a claim: Sh17, Sh21, Sh19, Sh22, Sh31, W1, Sh23, Sh24, Sh25, Sh26, Sh27, Sh28, W22, Sh32, Sh33, Sh34, Sh35, Sh18, Sh20, Sh36, Sh39, Sh38, Sh40, Sh45, Sh50, W23, W2, W6, Sh44, W8. -/
import Derived.Laws.Externs
import Derived.Lib.MakeNoZero
import Derived.MapKept
import Derived.Test.YtkahaemiigimcaaGreatRows
import Derived.ProofKit
import Derived.OpenShut
import Derived.JoinedCond
import Derived.Carry
import Derived.Lib.Overlaps
import Derived.Test.YtkahaemiigimcaaGreatFm2
set_option linter.unusedSimpArgs false
set_option linter.unusedVariables false
set_option maxHeartbeats 4000000
open Option renaming some->aa,none->ah,bind_eq_some_iff->j0,map_some->nq,map_eq_some_iff->so,bind_some->ur
open Bool renaming true->ab,false->af,and_eq_true->fI,false_eq_true->gE
open List renaming take->aB,drop->aG,replicate->aK,length_append->aW,take_of_length_le->bW,drop_zero->cq,range->cQ,getD_eq_getElem?_getD->dk,length_map->dm,getElem?_eq_getElem->dy,getElem?_eq_some_iff->dA,getElem?_eq_none->dI,map_append->dU,length_take->eZ,length_set->fJ,mem_cons->gy,lookup_cons->gJ,getElem?_append_left->gP,getElem?_take_of_lt->ic,append_assoc->iw,getElem?_append_right->iR,getElem?_drop->iS,map_cons->iT,map_take->iU,all_eq_true->jg,append_nil->jz,nil_append->jA,length_cons->jM,mem_cons_of_mem->jN,mem_of_getElem?->jO,ext_getElem?->ku,getElem?_map->ky,mem_cons_self->kX,mem_singleton->lx,take_length->ly,mem_append->mu,mem_map->mw,drop_drop->ng,take_append_drop->nJ,take_take->nK,cons_append->oz,map_drop->o0,getElem?_cons_succ->pP,getElem?_set->pQ,drop_left->qP,map_congr_left->qQ,map_nil->qR,mem_of_mem_take->qS,drop_take->sX,getElem?_toArray->sY,take_left->sZ,all_append->uf,eq_nil_of_length_eq_zero->ug,getElem?_cons_zero->uh,all_cons->vA,lookup_nil->vB,drop_append_of_le_length->wQ,getElem?_range->wR,take_append_of_le_length->wS,take_zero->wT
open UInt64 renaming ofNat->aF,toNat_inj->dJ,lt_iff_toNat_lt->gh,toNat_ofNat'->j5
open And renaming intro->aJ
open Int renaming toNat->aU,toNat_natCast->mq
open Nat renaming le_refl->bH,le_of_ble_eq_true->cr,beq->dD,ble->eU,mul_one->fS,zero_add->ig,mul_le_mul_right->iV,lt_or_ge->js,min_eq_left->jt,le_trans->jP,zero_le->kD,add_mul->nh,add_zero->qT,add_assoc->sn,min_eq_right->um,zero_mul->uq,add_comm->vC,lt_of_lt_of_le->wU
open Go.Sem renaming run_bind->bM,run_pure->bZ
open Go.Result renaming andThen_ok->bQ,andThen->pd
open UInt8 renaming ofNat->cX,toNat_ofNat'->nN
open Array renaming getD_eq_getD_getElem?->ib,getElem?_eq_some_iff->jL,getElem?_toList->lU,getElem?_setIfInBounds_ne->nI,getElem?_eq_getElem->pO,length_toList->qN,replicate->sW,getElem?_setIfInBounds_self_of_lt->Bb
open Iff renaming rfl->qO
open Go.Value renaming int->su
open UInt16 renaming ofNat->wV
open UInt32 renaming toNat_ofNat'->Bd
namespace Go.Sh
variable{args:Array Operand}{tys:Array TypeId}{Q:Exit->RL->HL->Nat->Prop}{fn:Func}{H H0 H1:HL}{ps:List Nat}{args0 l m:List SV}{r r':Loop}{L N f i id k:Nat}{o:Oper}{P:Program}{R:RL}{ρ:bw}{b:SB}{ret:SV}{α:Type}{t:TypeId}{w:World}
def iG:SV->Bool
 | .i _=>ab
 | .u8 _=>ab
 | .u16 _=>ab
 | .u32 _=>ab
 | .u64 _=>ab
 | .b _=>ab
 | .s _=>ab
 | .pnil=>ab
 | .slnil=>ab
 | .fnil=>ab
 | .mnil=>ab
 | .lit _=>ab
 | .lp _ _=>ab
 | .inil=>ab
 |_=>af
def bJ(l:List SV):Bool:=l.all iG
theorem wc(sel:List Nat){x:SV}(h:iG x=ab):bG sel x=aa x:=by cases x<;>first|rfl|cases h
theorem jc(sel:List Nat):∀{l:List SV},bJ l=ab->bu sel l=aa l
 | [],_=>rfl
 |x::l,h=>by
  simp only [bJ,vA,fI]at h;simp only [bu,wc sel h.1,jc sel (l:=l) h.2]
@[simp] theorem cY(l:List UInt8):bJ (l.map .u8)=ab:=by simp [bJ,iG]
@[simp] theorem Su(l:List UInt64):bJ (l.map .u64)=ab:=by simp [bJ,iG]
@[simp] theorem Ss(l:List UInt32):bJ (l.map .u32)=ab:=by simp [bJ,iG]
@[simp] theorem agT(l:List Int):bJ (l.map .i)=ab:=by simp [bJ,iG]
@[simp] theorem DH(a b:List SV):bJ (a++b)=(bJ a&&bJ b):=by simp [bJ]
@[simp] theorem Sr(a:SV)(b:List SV):bJ (a::b)=(iG a&&bJ b):=by simp [bJ]
@[simp] theorem alb:bJ []=ab:=rfl
@[simp] theorem alg(x:UInt8):iG (.u8 x)=ab:=rfl
@[simp] theorem ale(x:UInt32):iG (.u32 x)=ab:=rfl
@[simp] theorem alf(x:UInt64):iG (.u64 x)=ab:=rfl
@[simp] theorem ald(x:Int):iG (.i x)=ab:=rfl
@[simp] theorem alc(x:Bool):iG (.b x)=ab:=rfl
theorem aY{sel:List Nat}{u:List SV}(hp:bJ l=ab)(h:l=u):bu sel l=aa u:=by rw [jc sel hp,h]
theorem bg{n:Int}{m:Nat}(h:n=(m:Int)):idxOf (.i n)=aa m:=by subst h;simp [idxOf]
theorem MG{l:List α}{n:Nat}(h:n=l.length):l.take n=l:=by subst h;simp
@[simp] theorem ajJ(f:α->SV)(l:List α):(l.map f).take l.length=l.map f:=MG aq
@[simp] theorem akZ(t:Nat)(l:List SV):(SB.row t l).cells=l:=rfl
@[simp] theorem akV(l:List SV):(SB.box l).cells=l:=rfl
@[simp] theorem akY(l:List SV):(SB.ro l).cells=l:=rfl
@[simp] theorem ak5(x:UInt8):(SV.u8 x).cells= [.u8 x]:=rfl
@[simp] theorem ak3(x:UInt32):(SV.u32 x).cells= [.u32 x]:=rfl
@[simp] theorem ak4(x:UInt64):(SV.u64 x).cells= [.u64 x]:=rfl
@[simp] theorem akW(x:Int):(SV.i x).cells= [.i x]:=rfl
@[simp] theorem ak0(x:List UInt8):(SV.s x).cells= [.s x]:=rfl
@[simp] theorem akU(x:List SV):(SV.agg x).cells=x:=rfl
@[simp] theorem alh(n:Nat)(x:SV):dK n [x]=aK n x:=rfl
@[simp] theorem alm(l:List SV)(k:Nat)(x:UInt8):bN l k (.u8 x)=l.set k (.u8 x):=rfl
@[simp] theorem alj(l:List SV)(k:Nat)(x:UInt32):bN l k (.u32 x)=l.set k (.u32 x):=rfl
@[simp] theorem alk(l:List SV)(k:Nat)(x:UInt64):bN l k (.u64 x)=l.set k (.u64 x):=rfl
@[simp] theorem ali(l:List SV)(k:Nat)(x:Int):bN l k (.i x)=l.set k (.i x):=rfl
def qw:SB->Bool
 | .row _ l=>bJ l
 | .box l=>bJ l
 | .ro l=>bJ l
 | .obj _=>af
 | .ext _=>ab
@[simp] theorem ak9(t:Nat)(l:List SV):qw (.row t l)=bJ l:=rfl
@[simp] theorem ak7(l:List SV):qw (.box l)=bJ l:=rfl
@[simp] theorem ak8(l:List SV):qw (.ro l)=bJ l:=rfl
def u4:HL->Bool
 | []=>ab
 |none::H=>u4 H
 |some b::H=>qw b&&u4 H
def iZ:List Nat->HL->HL->Option ix
 |s::ss,aa b0::H0,ob::H1=>match iZ ss H0 H1 with
  |some W=>match b0.own with
   |false=>aa W
   |true=>match ob with
    |none=>aa ((s,ah)::W)
    |some b=>match b.own with
     |true=>aa ((s,aa b)::W)
     |false=>ah
  |none=>ah
 |s::ss,[],ob::H1=>match iZ ss [] H1 with
  |some W=>match ob with
   |none=>aa ((s,ah)::W)
   |some b=>match b.own with
    |true=>aa ((s,aa b)::W)
    |false=>ah
  |none=>ah
 | [],[],[]=>aa []
 |_,_,_=>ah
theorem kb(sel:List Nat)(h:qw b=ab):cZ sel b=aa b:=by cases b<;>simp only [qw,gE]at h<;>first|rfl|simp only [cZ,jc sel h]
theorem CZ(sel:List Nat):∀(ss:List Nat) (H0 H1:HL),u4 H1=ab->cW sel ss H0 H1=iZ ss H0 H1
 |s::ss,aa b0::H0,ah::H1,h=>by
  simp only [u4]at h;simp only [cW,iZ,CZ sel ss H0 H1 h];cases iZ ss H0 H1<;>first|rfl|(cases b0.own<;>rfl)
 |s::ss,aa b0::H0,aa b::H1,h=>by
  simp only [u4,fI]at h;simp only [cW,iZ,CZ sel ss H0 H1 h.2,kb sel h.1];cases iZ ss H0 H1<;>first|rfl|(cases b0.own<;>first|rfl|(cases b.own<;>rfl))
 |s::ss,[],ah::H1,h=>by
  simp only [u4]at h;simp only [cW,iZ,CZ sel ss [] H1 h];cases iZ ss [] H1<;>rfl
 |s::ss,[],aa b::H1,h=>by
  simp only [u4,fI]at h;simp only [cW,iZ,CZ sel ss [] H1 h.2,kb sel h.1];cases iZ ss [] H1<;>first|rfl|(cases b.own<;>rfl)
 | [],[],[],_=>rfl
 | [],[],_::_,_=>by simp [cW,iZ]
 | [],_::_,_,_=>by simp [cW,iZ]
 |_::_,[],[],_=>by simp [cW,iZ]
 |_::_,ah::_,_,_=>by simp [cW,iZ]
 |_::_,aa _::_,[],_=>by simp [cW,iZ]
def Tv(R:RL)(H:HL)(L:Nat)(x:Operand)(args:List Operand)(f:Nat)(sel:List Nat)(args0:List SV)(H0:HL)(ret:SV)(H1:HL)(k:K1):Prop:=
 (match ev R x with
  |some (.fn g caps)=>match uI R args with
   |some zs=>g=f/\bu sel args0=aa (zs++caps)
   |none=>False
  | _ => False) /\ iF sel H sel H0 /\ u4 H1 = ab /\
 match dD sel.length H0.length with
 |true=>match iA sel 0 sel H0 with
  |true=>match iZ (sel++dc L (H1.length-H0.length)) H0 H1 with
   |some W=>match bG (sel++dc L (H1.length-H0.length)) ret with
    |some z=>k (aa z) W sel (L+(H1.length-H0.length))
    |none=>False
   |none=>False
  |false=>False
 |false=>False
theorem afv{k:K1}{x:Operand}(sel:List Nat)(hc:bV P f args0 H0 ret H1)(ho:o.op= .call ⟨.value x,args,tys⟩)(hle:eU H.length L=ab)(h:Tv R H L x args.toList f sel args0 H0 ret H1 k):cR P o R H L k:=by obtain⟨h1,h2,hp,h3⟩:=h;refine K8 sel hc ho hle ⟨h1,h2,?_⟩;rw [CZ _ _ _ _ hp];exact h3
theorem cP{k:K1}{x:Operand}(sel:List Nat)(hc:bV P f args0 H0 ret H1){Q:Prop}(kk:Q)(ho:o.op= .call ⟨.value x,args,tys⟩:=by exact rfl)(hle:Nat.ble H.length L=true:=by exact rfl)(h:Ob Q->Tv R H L x args.toList f sel args0 H0 ret H1 k:=by intro zk;exact⟨⟨rfl,by first|rfl|exact bU⟩,bU,by first|(simp [u4];done)|rfl,zk.1⟩):cR P o R H L k:=afv sel hc ho hle (h ⟨kk⟩)
def oP:List Bool->HL->Bool
 |true::fs,aa b::H=>qw b&&oP fs H
 |_::fs,_::H=>oP fs H
 |_,_=>ab
def LJ(f:Bool)(sel:List Nat)(b:SB):Option SB:=match f with|true=>aa b|false=>cZ sel b
def rn(sel:List Nat):List Bool->List Nat->HL->HL->Option ix
 |f::fs,s::ss,aa b0::H0,ob::H1=>match rn sel fs ss H0 H1 with
  |some W=>match b0.own with
   |false=>aa W
   |true=>match ob with
    |none=>aa ((s,ah)::W)
    |some b=>match b.own with
     |true=>match LJ f sel b with|some b'=>aa ((s,aa b')::W)|none=>ah
     |false=>ah
  |none=>ah
 |f::fs,s::ss,[],ob::H1=>match rn sel fs ss [] H1 with
  |some W=>match ob with
   |none=>aa ((s,ah)::W)
   |some b=>match b.own with
    |true=>match LJ f sel b with|some b'=>aa ((s,aa b')::W)|none=>ah
    |false=>ah
  |none=>ah
 |_,[],[],[]=>aa []
 |_,_,_,_=>ah
theorem SQ{f:Bool}{sel:List Nat}{u:SB}(hp:f=ab->qw b=ab)(h:LJ f sel b=aa u):cZ sel b=aa u:=by
 cases f with
 |false=>exact h
 |true=>rw [kb sel (hp rfl)];exact h
theorem CY(sel:List Nat):∀(fs:List Bool) (ss:List Nat) (H0 H1:HL) (W:ix),oP fs H1=ab->rn sel fs ss H0 H1=aa W->cW sel ss H0 H1=aa W
 |f::fs,s::ss,aa b0::H0,ob::H1,W,hp,h=>by
  have hp1:oP fs H1=ab:=by cases f<;>cases ob<;>simp only [oP,fI]at hp<;>first|exact hp|exact hp.2
  simp only [rn]at h;split at h
  .rename_i W' hW;have ih:=CY sel fs ss H0 H1 W' hp1 hW;simp only [cW,ih];split at h
   .rename_i u;simp only [u];exact h
   .rename_i u;simp only [u];split at h
    .exact h
    .rename_i b;split at h
     .rename_i G;simp only [G];split at h
      .rename_i I F;rw [SQ (λe=>by subst e;simp only [oP,fI]at hp;exact hp.1) F];exact h
      .cases h
     .cases h
  .cases h
 |f::fs,s::ss,[],ob::H1,W,hp,h=>by
  have hp1:oP fs H1=ab:=by cases f<;>cases ob<;>simp only [oP,fI]at hp<;>first|exact hp|exact hp.2
  simp only [rn]at h;split at h
  .rename_i W' hW;have ih:=CY sel fs ss [] H1 W' hp1 hW;simp only [cW,ih];split at h
   .exact h
   .rename_i b;split at h
    .rename_i G;simp only [G];split at h
     .rename_i I F;rw [SQ (λe=>by subst e;simp only [oP,fI]at hp;exact hp.1) F];exact h
     .cases h
    .cases h
  .cases h
 | [],[],[],[],W,_,h=>by simp only [rn,Option.some.injEq]at h;subst h;rfl
 |_::_,[],[],[],W,_,h=>by simp only [rn,Option.some.injEq]at h;subst h;rfl
 | [],[],[],_::_,W,_,h=>wG
 |_::_,[],[],_::_,W,_,h=>wG
 | [],[],_::_,_,W,_,h=>wG
 |_::_,[],_::_,_,W,_,h=>wG
 | [],_::_,_,_,W,_,h=>wG
 |_::_,_::_,[],[],W,_,h=>wG
 |_::_,_::_,ah::_,_,W,_,h=>wG
 |_::_,_::_,aa _::_,[],W,_,h=>wG
def Aw:SV->Bool
 | .agg l=>bJ l
 |x=>iG x
def Av:List SV->Bool
 | []=>ab
 |x::xs=>Aw x&&Av xs
def B8:SV->Bool
 | .tup l=>Av l
 |x=>Aw x
theorem SS(sel:List Nat){x:SV}(h:Aw x=ab):bG sel x=aa x:=by cases x<;>first|exact wc sel h|(simp only [Aw]at h;simp only [bG,jc sel h])
theorem SR(sel:List Nat):∀{l:List SV},Av l=ab->bu sel l=aa l
 | [],_=>rfl
 |x::l,h=>by
  simp only [Av,fI]at h;simp only [bu,SS sel h.1,SR sel (l:=l) h.2]
theorem Hf(sel:List Nat){x:SV}(h:B8 x=ab):bG sel x=aa x:=by cases x<;>first|exact SS sel h|(simp only [B8]at h;simp only [bG,SR sel h])
def LM(f:Bool)(sel:List Nat)(x:SV):Option SV:=match f with|true=>aa x|false=>bG sel x
def DI(f:Bool)(x:SV):Bool:=match f with|true=>B8 x|false=>ab
def Tu(fl:List Bool)(rf:Bool)(R:RL)(H:HL)(L:Nat)(x:Operand)(args:List Operand)(f:Nat)(sel:List Nat)(args0:List SV)(H0:HL)(ret:SV)(H1:HL)(k:K1):Prop:=
 (match ev R x with
  |some (.fn g caps)=>match uI R args with
   |some zs=>g=f/\bu sel args0=aa (zs++caps)
   |none=>False
  | _ => False) /\ iF sel H sel H0 /\ oP fl H1 = ab /\ DI rf ret = ab /\
 match dD sel.length H0.length with
 |true=>match iA sel 0 sel H0 with
  |true=>match rn (sel++dc L (H1.length-H0.length)) fl (sel++dc L (H1.length-H0.length)) H0 H1 with
   |some W=>match LM rf (sel++dc L (H1.length-H0.length)) ret with
    |some z=>k (aa z) W sel (L+(H1.length-H0.length))
    |none=>False
   |none=>False
  |false=>False
 |false=>False
theorem RE{k:K1}{x:Operand}(sel:List Nat)(fl:List Bool)(rf:Bool)(hc:bV P f args0 H0 ret H1)(ho:o.op= .call ⟨.value x,args,tys⟩)(hle:eU H.length L=ab)(h:Tu fl rf R H L x args.toList f sel args0 H0 ret H1 k):cR P o R H L k:=by
 obtain⟨h1,h2,hp,hr,h3⟩:=h;refine K8 sel hc ho hle ⟨h1,h2,?_⟩;cases hl:dD sel.length H0.length with
 |false=>rw [hl]at h3;exact h3.elim
 |true=>
  rw [hl]at h3;simp only at h3|-;cases hd:iA sel 0 sel H0 with
  |false=>rw [hd]at h3;exact h3.elim
  |true=>
   rw [hd]at h3;simp only at h3|-;cases hw:rn (sel++dc L (H1.length-H0.length)) fl (sel++dc L (H1.length-H0.length)) H0 H1 with
   |none=>rw [hw]at h3;exact h3.elim
   |some W=>
    rw [hw]at h3;rw [CY _ _ _ _ _ _ hp hw];cases rf with
    |false=>exact h3
    |true=>
     simp only [DI]at hr;simp only [Hf _ hr];exact h3
theorem aE{k:K1}{x:Operand}(sel:List Nat)(fl:List Bool)(rf:Bool)(hc:bV P f args0 H0 ret H1){Q:Prop}(kk:Q)(ho:o.op= .call ⟨.value x,args,tys⟩:=by exact rfl)(hle:Nat.ble H.length L=true:=by exact rfl)(h:Ob Q->Tu fl rf R H L x args.toList f sel args0 H0 ret H1 k:=by intro zk;exact⟨⟨rfl,by first|rfl|exact bU⟩,bU,by first|(simp [oP,qw];done)|rfl,by first|rfl|simp [DI,B8,Av,Aw],zk.1⟩):cR P o R H L k:=RE sel fl rf hc ho hle (h ⟨kk⟩)
def uX:HL->Bool
 | []=>ab
 |none::H=>uX H
 |some (.obj _)::_=>af
 |some _::H=>uX H
theorem vY:∀{H:HL} {id:Nat} {y:OB},uX H=ab->hg H id≠aa (.obj y)
 | [],id,y,_,h=>sg
 |none::H,0,y,_,h=>sg
 |none::H,id+1,y,hn,h=>vY (H:=H) (id:=id) hn mZ
 |some (.obj _)::H,id,y,hn,h=>by simp [uX]at hn
 |some (.row _ _)::H,0,y,hn,h=>sg
 |some (.box _)::H,0,y,hn,h=>sg
 |some (.ro _)::H,0,y,hn,h=>sg
 |some (.ext _)::H,0,y,hn,h=>sg
 |some (.row _ _)::H,id+1,y,hn,h=>vY (H:=H) (id:=id) hn mZ
 |some (.box _)::H,id+1,y,hn,h=>vY (H:=H) (id:=id) hn mZ
 |some (.ro _)::H,id+1,y,hn,h=>vY (H:=H) (id:=id) hn mZ
 |some (.ext _)::H,id+1,y,hn,h=>vY (H:=H) (id:=id) hn mZ
theorem ab7{rb:RB}{o:Nat}(hb:cd ρ w rb b)(hn:∀y,b≠ .obj y)(hf:foot rb b k o):∃x,w.heap[k]?=aa x/\jT x≠1:=by
 cases b with
 |obj y=>exact absurd rfl (hn y)
 |ext y=>exact tl.foot_mut hb hf
 |ro l=>
  rcases hb with rfl|⟨⟨c,t,fz,u,_⟩,_⟩
  .have:=hf.2;simp at this;omega
  .rw [hf.1];exact⟨_,u,t9⟩
 |box l=>obtain⟨⟨c,t,fz,u,_⟩,_⟩:=hb;rw [hf.1];exact⟨_,u,t9⟩
 |row t l=>
  rcases hb with⟨hv,_⟩|⟨_,c,fz,u,_⟩
  .rw [hf.1]at hv;cases hv
  .rw [hf.2.1];exact⟨_,u,t9⟩
def I5:List Nat->List SV->RL->RL
 |p::ps,x::xs,R=>I5 ps xs ((p,x)::R)
 |_,_,R=>R
theorem ahl{tmps:Array Value}{p:Nat}{x:SV}{v:Value}(h:qW ρ R tmps)(hx:av ρ x v)(hp:p<tmps.size):qW ρ ((p,x)::R) (tmps.setIfInBounds p v):=by
 intro t u hu;simp only [gJ]at hu;cases F:(t==p)with
 |true=>
  rw [F]at hu;have:t=p:=by simpa using F
  subst this;cases hu;rw [ib,Bb hp];exact hx
 |false=>
  rw [F]at hu;have hne:p≠t:=λe=>by subst e;simp at F
  have:=h t u hu;rw [ib]at this|-;rw [nI hne];exact this
theorem SK{ρ:bw}:∀{ps:List Nat} {xs:List SV} {vs:List Value} {R:RL} {tmps:Array Value},qW ρ R tmps->aD ρ xs vs->(∀p∈ps,p<tmps.size)->ps.length=xs.length->
  qW ρ (I5 ps xs R) ((ps.zip vs).foldl (λt (q:Nat×Value)=>t.setIfInBounds q.1 q.2) tmps)/\((ps.zip vs).foldl (λt (q:Nat×Value)=>t.setIfInBounds q.1 q.2) tmps).size=tmps.size
 | [],xs,vs,R,tmps,h,_,_,hl=>by
  have:xs= []:=ug (by simpa using hl.symm);subst this;exact⟨h,rfl⟩
 |p::ps,[],vs,R,tmps,h,_,_,hl=>by simp at hl
 |p::ps,x::xs,vs,R,tmps,h,hv,hp,hl=>by
  simp only [aD]at hv;obtain⟨v,u,rfl,h1,h2⟩:=hv;have:=SK (ps:=ps) (ahl h h1 (hp p (kX ..))) h2 (λq hq=>by simpa using hp q (jN _ hq)) (by simpa using hl);exact⟨this.1,by rw [show((p::ps).zip (v::u)).foldl (λt (q:Nat×Value)=>t.setIfInBounds q.1 q.2) tmps=(ps.zip u).foldl (λt (q:Nat×Value)=>t.setIfInBounds q.1 q.2) (tmps.setIfInBounds p v)from rfl,this.2];simp⟩
structure Jc(P:Program)(args0:List SV)(H0:HL)(ret:SV)(H1:HL):Prop where
 call:∀(r:Option Nat) n ρ w vs rb,aD ρ args0 vs->iX ρ (hg H0) w->l7 ρ (hg H0)->(∀id,H0.length<=id->ρ id=ah)->ρ 0=aa rb->
  ∃f tmps as_ bd,(Instr.yield rb.blk ⟨vs⟩).run P w= .ok (.round rb.blk f tmps as_ bd) w/\RoundIn (Fw r) n P rb.blk f tmps as_ bd w (sv ρ H0 w ret H1)
theorem aeU{R:eM}{x:Operand}{zs:List SV}{ss:List Nat}{z:SV}{W:ix}(hl:H.length<=L)(ho:o.op= .call ⟨.value x,args,tys⟩)(hx:aZ R x=aa (.yld id))(F:args.toList.map (aZ R)=zs.map aa)(hc:Jc P args0 H0 ret H1)(V:bu (id::ss) args0=aa zs)(cx:(id::ss).length=H0.length)(h7:iF (id::ss) H (id::ss) H0)(hd:iA (id::ss) 0 (id::ss) H0=ab)(hW:cW (id::ss++dc L (H1.length-H0.length)) (id::ss++dc L (H1.length-H0.length)) H0 H1=aa W)(hz:bG (id::ss++dc L (H1.length-H0.length)) ret=aa z):LT P o R (hg H) (id::ss) W (aa z):=by
 refine KU hl cx h7 hd hW hz ?_;intro r n a w ρ next Q hR h6 O U hk
 have hv:=JN ho hx hR;simp only [av]at hv;obtain⟨rb,h8,he⟩:=hv;have h9:=JM ho F hR;have I:aD (cu (id::ss) ρ) args0 (args.toList.map a.eval):=(jH args0 V).2 h9;obtain⟨f,tmps,Z,bd,hy,u⟩:=hc.call r (n-1) (cu (id::ss) ρ) w _ rb I h6 O U (by simpa [cu]using h8);have hrun:(execOp a.eval o).run P w= .ok (.round rb.blk f tmps Z bd) w:=by unfold execOp;simp only [ho,resolve,he,Deferred.ofValue,bM,bZ,pd,invoke];rw [show(#[]++args.map a.eval)=(⟨args.toList.map a.eval⟩:Array Value)from Array.toList_inj.1 aq];exact hy
 refine⟨λ_ _=>trivial,?_⟩;rw [Oper.semAt_eq _ _ _ (by intro c;rw [ho];simp),hrun];refine⟨λh=>(by cases h),?_⟩;refine u.mono ?_;intro e w' G;cases e with
 |panicked c=>exact G.elim
 |outgrown=>exact G.elim
 |returned v=>exact hk v w' G
structure aaZ(A:Nat)(H:HL)(H1:HL):Prop where
 ex:∃sel,dD sel.length H1.length=ab/\rE sel A=ab/\iF sel H sel H1/\iA sel 0 sel H1=ab
def KF:Exit->Option Code
 | .ret=>aa .ret
 | .exit i=>aa (.exit i)
 |_=>ah
def B2(R:RL)(N:Nat)(ps:List Nat)(u F:Code)(ex:Exit):OB:=match KF ex with|some c=> .pend c|none=> .loop R N ps u F
def LO(ex:Exit):SV:= .b (KF ex).isNone
theorem Fr.putLoop{S:Nat->Nat->Prop}{l:Nat}(h:w.heap[l]?=aa (.loop r))(hS:∃o,S l o):Fr S w (w.putObj l (.loop r')):=by
 refine⟨rfl,rfl,rfl,by simp [World.putObj],λk o ho=>?_⟩;by_cases hk:l=k
 .subst hk;rw [h]at ho;cases ho;have hlt:=(jL.1 h).1;simp only [World.putObj];rw [Bb hlt];exact .inr ⟨hS,t9,_,rfl,rfl⟩
 .simp only [World.putObj];rw [nI hk,ho];exact lz.refl _ _
theorem B9{l:Nat}(h:w.heap[l]?=aa (.loop r)){c:Array Value}{fz:Nat×Nat}(hc:w.heap[k]?=aa (.cells c t fz)):(w.putObj l (.loop r')).heap[k]?=aa (.cells c t fz):=by
 have hne:l≠k:=λe=>Iz
 simp only [World.putObj];rw [nI hne];exact hc
theorem Sv{l:Nat}(h:w.heap[l]?=aa (.loop r)){x:Option (List Deferred)}(hc:w.heap[k]?=aa (.deferred x)):(w.putObj l (.loop r')).heap[k]?=aa (.deferred x):=by
 have hne:l≠k:=λe=>Iz
 simp only [World.putObj];rw [nI hne];exact hc
theorem Sy{l:Nat}(h:w.heap[l]?=aa (.loop r)):(w.putObj l (.loop r')).heap[l]?=aa (.loop r'):=by simp only [World.putObj];rw [Bb (jL.1 h).1]
theorem Sx{l:Nat}{x:Obj}(h:w.heap[l]?=aa (.loop r))(hx:2<=jT x)(hc:w.heap[k]?=aa x):(w.putObj l (.loop r')).heap[k]?=aa x:=by
 have hne:l≠k:=λe=>by subst e;rw [h]at hc;cases hc;simp [jT]at hx
 simp only [World.putObj];rw [nI hne];exact hc
theorem cd.putLoop{l:Nat}{rb:RB}(h:w.heap[l]?=aa (.loop r))(hn:∀y,b≠ .obj y)(hb:cd ρ w rb b):cd ρ (w.putObj l (.loop r')) rb b:=by
 cases b with
 |obj y=>exact absurd rfl (hn y)
 |ext y=>
  cases y with
  |fam l=>exact λe he=>⟨(hb e he).1,(hb e he).2.imp id λ⟨⟨c,t,fz,u,q⟩,h2⟩=>⟨⟨c,t,fz,B9 h u,q⟩,h2⟩⟩
  |lit o=>exact⟨hb.1,Sx h hb.1.1 hb.2⟩
  |locd r o=>exact⟨hb.1,Sx h hb.1.1 hb.2⟩
  |ar l fs=>exact⟨⟨λe he=>let⟨c,t,fz,u,q⟩:=hb.1.1 e he;⟨c,t,fz,B9 h u,q⟩,hb.1.2⟩,λe he=>⟨(hb.2.1 e he).1,(hb.2.1 e he).2.imp id λ⟨⟨c,t,fz,u,q⟩,h2⟩=>⟨⟨c,t,fz,B9 h u,q⟩,h2⟩⟩,hb.2.2⟩
  |nm=>exact trivial
 |ro l=>exact hb.imp id λ⟨⟨c,t,fz,u,q⟩,h2⟩=>⟨⟨c,t,fz,B9 h u,q⟩,h2⟩
 |box l=>obtain⟨⟨c,t,fz,u,q⟩,h2⟩:=hb;exact⟨⟨c,t,fz,B9 h u,q⟩,h2⟩
 |row t l=>exact hb.imp id λ⟨hv,c,fz,u,q⟩=>⟨hv,c,fz,B9 h u,q⟩
theorem dO.putLoop{B:Nat}{R:eM}{a:Act}{l:Nat}(h:w.heap[l]?=aa (.loop r))(hn:uX H=ab)(hs:dO N B L ρ R (hg H) a w):dO N B L ρ R (hg H) a (w.putObj l (.loop r')):=
 ⟨hs.size,hs.regs,λid b hb=>let⟨rb,h1,h2⟩:=hs.heap id b hb;⟨rb,h1,h2.putLoop h (λy e=>vY hn (by rw [<-e];exact hb))⟩,hs.sep,hs.fresh,
  ⟨hs.dfr.1,λd hd=>let⟨k,e,hB,hk⟩:=hs.dfr.2.1 d hd;⟨k,e,hB,Sv h hk⟩,by simpa [World.putObj]using hs.dfr.2.2⟩⟩
theorem Dm(x:Option SB)(H:HL)(id:Nat):hg (x::H) (id+1)=hg H id:=by simp [hg]
theorem tD(x:Option SB)(H:HL):hg (x::H) 0=x:=by cases x<;>simp [hg]
theorem rV{R0:RL}{G Z:Code}{H0t H1t:HL}{ex:Exit}(hex:ex= .normal\/ex= .ret\/∃i,ex= .exit i)(hno1:uX H1t=ab)(hps:ps.length=args0.length)(hpN:ps.all (λp=>Nat.blt p N)=ab)(hwalk:bp P (λ_=>True) N (H0t.length+1) G (λe R H L=>e= .normal/\uX H=ab/\hg H 0=ah/\bp P (λ_=>True) N (H0t.length+1) Z (λe _ H _=>e=ex/\hg H 0=ah/\uX H=ab/\aaZ (H0t.length+1) H (ah::H1t)) R H L) (I5 ps args0 R0) (ah::H0t) (H0t.length+1)):Jc P args0 (aa (.obj (.loop R0 N ps G Z))::H0t) (LO ex) (aa (.obj (B2 R0 N ps G Z ex))::H1t):=by
 refine⟨λrr n ρ w vs rb hvs hh hsep hfr V=>?_⟩;obtain⟨rb',hrb',hO⟩:=hh 0 _ (tD _ _);rw [V]at hrb';cases hrb';obtain⟨r,hl,hst,hpd,hrp,hra,hrbd,hsz,hrel⟩:=hO;obtain⟨l,U⟩:=ax (rb.blk);rw [<-U]at hl|-;have hvl:=hvs.length;have hargsz:(⟨vs⟩:Array Value).size=r.params.size:=by rw [hrp];simp;omega
 have hy:=run_yield (P:=P) hl hargsz;refine⟨_,_,_,_,hy,?_⟩;rw [hra,hrbd];have hh1:iX ρ (hg (ah::H0t)) w:=λid b hb=>by
  cases id with
  |zero=>rw [tD]at hb;cases hb
  |succ id=>rw [Dm]at hb;exact hh (id+1) b (by rw [Dm];exact hb)
 have sub:∀id b,hg (ah::H0t) id=aa b->hg (aa (.obj (.loop R0 N ps G Z))::H0t) id=aa b/\id≠0:=λid b hb=>by
  cases id with
  |zero=>rw [tD]at hb;cases hb
  |succ id=>rw [Dm]at hb;exact⟨by rw [Dm];exact hb,ag⟩
 have hsep1:l7 ρ (hg (ah::H0t)):=λi j bi bj ri rj hne hi hj hri ha x6=>hsep i j bi bj ri rj hne (sub i bi hi).1 (sub j bj hj).1 hri ha x6
 have hl0:∀o,¬dV ρ (hg (ah::H0t)) l o:=by rintro o ⟨id,b,u,h1,h2,h3,h4⟩;obtain⟨g1,g2⟩:=sub id b h1;exact hsep 0 id _ b rb u ag (tD _ _) g1 V h2 rfl l o ⟨U,h4⟩
 have h6:∀k o,dV ρ (hg (ah::H0t)) k o->dV ρ (hg (aa (.obj (.loop R0 N ps G Z))::H0t)) k o:=by rintro k o ⟨id,b,u,h1,h2,h3,h4⟩;exact⟨id,b,u,(sub id b h1).1,h2,h3,h4⟩
 have x7:dV ρ (hg (aa (.obj (.loop R0 N ps G Z))::H0t)) l 0:=⟨0,_,rb,tD _ _,V,rfl,U⟩;have hlt:l<w.heap.size:=(jL.1 hl).1;obtain⟨hz1,hz2⟩:=SK (ps:=ps) (vs:=vs) hrel hvs (λp hp=>by
  have:=jg.1 hpN p hp;rw [hsz];simpa [Nat.blt_eq]using this) hps
 have htm:(r.params.zip ⟨vs⟩).foldl (λtmps (q:Nat×Value)=>tmps.setIfInBounds q.1 q.2) r.tmps=((ps.zip vs).foldl (λt (q:Nat×Value)=>t.setIfInBounds q.1 q.2) r.tmps):=by rw [hrp,<-Array.foldl_toList];simp
 have hsim:dO N w.heap.size (H0t.length+1) ρ (rg (I5 ps args0 R0)) (hg (ah::H0t)) {tmps:=((ps.zip vs).foldl (λt (q:Nat×Value)=>t.setIfInBounds q.1 q.2) r.tmps),defers:= []} w:=
  ⟨by rw [hz2,hsz],λt v hv=>hz1 t v hv,hh1,hsep1,λid hid=>hfr id ou,⟨List.Pairwise.nil,λd hd=>by simp at hd,bH _⟩⟩
 refine roundIn_of_wpIn trivial ?_;have e0:(r.params.zip ⟨vs⟩).foldl (λtmps x=>match x with|(t,a)=>tmps.setIfInBounds t a) r.tmps=((ps.zip vs).foldl (λt (q:Nat×Value)=>t.setIfInBounds q.1 q.2) r.tmps):=htm;rw [e0];refine wpIn_mono (hwalk.run (aa l) n w.heap.size ρ _ w trivial hsim aq) ?_;rintro e a1 w1 ⟨R1,H1,L1,ρ1,⟨rfl,hno2,hz0,hbody⟩,hl1,hs1,O⟩;have h8:w1.heap[l]?=aa (.loop r):=(O.fr.blk l _ hl).same (λo=>hl0 o);refine⟨_,run_beginRound h8 hst,?_⟩;obtain⟨w2,hw2⟩:=ax (w1.putObj l (.loop {r with state:= .busy}));rw [<-hw2];have hs2:dO N w.heap.size L1 ρ1 (rg R1) (hg H1) a1 w2:=by rw [hw2];exact hs1.putLoop h8 hno2
 have hl2:w2.heap[l]?=aa (.loop {r with state:= .busy}):=by rw [hw2];exact Sy h8
 refine wpIn_mono (hbody.run (aa l) n w.heap.size ρ1 a1 w2 trivial hs2 hl1) ?_;rintro e a3 w3 ⟨R3,H3,L3,ρ3,⟨rfl,hz3,hno3,hfin⟩,hl3,hs3,x0⟩;have hl1n:∀o,¬dV ρ1 (hg H1) l o:=λo ho=>by
  rcases O.own l o ho with h|h
  .exact hl0 o h
  .omega
 have h9:w3.heap[l]?=aa (.loop {r with state:= .busy}):=(x0.fr.blk l _ hl2).same hl1n;obtain⟨sel,f1,f2,f3,f4⟩:=hfin.ex;have f1':sel.length=H1t.length+1:=by simpa using gY f1
 have hsel:=Hy (R0:= []) (L0:=H1t.length+1) sel f1' f2 trivial f3 f4 hs3;obtain⟨k1,k2⟩:=hsel;have fin:∀F:Option Code,F=KF e->∃w4,(Instr.endRound l F).run P w3= .ok (.bool F.isNone) w4/\sv ρ (aa (.obj (.loop R0 N ps G Z))::H0t) w (LO e) (aa (.obj (B2 R0 N ps G Z e))::H1t) (.returned (.bool F.isNone)) w4:=by
  intro F hj;refine⟨_,run_endRound F h9,?_⟩;obtain⟨r4,hr4⟩:∃r4:Loop,r4={r with state:=if F.isNone then .ready else .done,pending:=F}:=⟨_,rfl⟩;have er4:({({r with state:= .busy}:Loop)with state:=if F.isNone then .ready else .done,pending:=F}:Loop)=r4:=by rw [hr4]
  rw [er4];obtain⟨w4,hw4⟩:=ax (w3.putObj l (.loop r4));rw [<-hw4];have hl4:w4.heap[l]?=aa (.loop r4):=by rw [hw4];exact Sy h9
  have I:∀id u,ρ id=aa u->cu sel ρ3 id=aa u:=λid u hid=>by
   have hlt2:id<H0t.length+1:=by
    by_cases h:id<H0t.length+1
    .exact h
    .rw [hfr id aA]at hid;cases hid
   exact k2.ext id hlt2 u (x0.ext id hlt2 u (O.ext id hlt2 u hid))
  have hk0:uX (ah::H1t)=ab:=hno1;have h7:iX (cu sel ρ3) (hg (ah::H1t)) w4:=by rw [hw4];intro id b hb;obtain⟨u,g1,g2⟩:=k1.heap id b hb;exact⟨u,g1,g2.putLoop h9 (λy ey=>vY hk0 (by rw [<-ey];exact hb))⟩
  have W:∀id b,id≠0->hg (aa (.obj (B2 R0 N ps G Z e))::H1t) id=aa b->hg (ah::H1t) id=aa b:=λid b hne hb=>by
   cases id with
   |zero=>exact absurd rfl hne
   |succ id=>rw [Dm]at hb|-;exact hb
  have x5:∀id b u o,id≠0->hg (aa (.obj (B2 R0 N ps G Z e))::H1t) id=aa b->cu sel ρ3 id=aa u->¬foot u b l o:=by intro id b u o hne hb hr hf;have hb2:=W id b hne hb;obtain⟨rb3,g1,g2⟩:=h7 id b hb2;rw [hr]at g1;cases g1;obtain⟨x,hc,hx⟩:=ab7 g2 (λy ey=>vY hk0 (by rw [<-ey];exact hb2)) hf;rw [hl4]at hc;cases hc;exact hx rfl
  have hfr:Fr (dV ρ (hg (aa (.obj (.loop R0 N ps G Z))::H0t))) w w4:=by
   have a1:Fr (dV ρ (hg (aa (.obj (.loop R0 N ps G Z))::H0t))) w w1:=O.fr.mono (λk o _ h=>h6 k o h);have a2:Fr (dV ρ (hg (aa (.obj (.loop R0 N ps G Z))::H0t))) w w2:=by rw [hw2];exact a1.trans (Fr.putLoop h8 ⟨0,x7⟩) (λ_ _ _ h=>h)
   have a3:Fr (dV ρ (hg (aa (.obj (.loop R0 N ps G Z))::H0t))) w w3:=a2.trans x0.fr (λk o hk h=>by
    rcases O.own k o h with h|h
    .exact h6 k o h
    .omega)
   rw [hw4];exact a3.trans (Fr.putLoop h9 ⟨0,x7⟩) (λ_ _ _ h=>h)
  have hb0:mz (cu sel ρ3) w4 l (B2 R0 N ps G Z e):=by
   unfold B2;rw [<-hj];cases F with
   |none=>
    have:r4=r:=by rw [hr4];cases r;simp only at hst hpd;subst hst;subst hpd;rfl
    rw [this]at hl4;exact⟨r,hl4,hst,hpd,hrp,hra,hrbd,hsz,λt v hv=>(hrel t v hv).ext (λid u h=>I id u h)⟩
   |some c=>exact⟨r4,hl4,by rw [hr4];rfl,by rw [hr4]⟩
  refine⟨cu sel ρ3,?_,?_,?_,?_,?_⟩
  .simp only [LO,av,hj]
  .intro id b hb;by_cases h0:id=0
   .subst h0;rw [tD]at hb;cases hb;exact⟨rb,I 0 rb V,by rw [U]at hb0;exact hb0⟩
   .exact h7 id b (W id b h0 hb)
  .intro i j bi bj ri rj hne hi hj' hri ha x6 k o ⟨hfi,hfj⟩;by_cases h0:i=0
   .subst h0;rw [tD]at hi;cases hi;rw [I 0 rb V]at hri;cases hri;have hkl:k=l:=by rw [U];exact hfi
    subst hkl;exact x5 j bj rj o (λe=>hne e.symm) hj' ha hfj
   .by_cases h1:j=0
    .subst h1;rw [tD]at hj';cases hj';rw [I 0 rb V]at ha;cases ha;have hkl:k=l:=by rw [U];exact hfj
     subst hkl;exact x5 i bi ri o h0 hi hri hfi
    .exact k1.sep i j bi bj ri rj hne (W i bi h0 hi) (W j bj h1 hj') hri ha x6 k o ⟨hfi,hfj⟩
  .intro id hid;exact k1.fresh id ou
  .refine⟨λid _ u h=>I id u h,hfr,?_⟩;rintro k o ⟨id,b,u,h1,h2,h3,h4⟩;by_cases h0:id=0
   .subst h0;rw [tD]at h1;cases h1;rw [I 0 rb V]at h2;cases h2;have hkl:k=l:=by rw [U];exact h4
    subst hkl;exact .inl ⟨0,_,rb,tD _ _,V,rfl,U⟩
   .rcases k2.own k o ⟨id,b,u,W id b h0 h1,h2,h3,h4⟩with h|h
    .rcases x0.own k o h with h|h
     .rcases O.own k o h with h|h
      .exact .inl (h6 k o h)
      .exact .inr h
     .right;have:w2.heap.size=w1.heap.size:=by rw [hw2];simp [World.putObj]
      have:=O.fr.size;omega
    .right;have h1:=O.fr.size;have h2:w2.heap.size=w1.heap.size:=by rw [hw2];simp [World.putObj]
     have h3:=x0.fr.size;omega
 rcases hex with rfl|rfl|⟨i,rfl⟩
 .obtain⟨w4,g1,g2⟩:=fin ah rfl;exact⟨_,w4,g1,g2⟩
 .obtain⟨w4,g1,g2⟩:=fin (aa .ret) rfl;exact⟨_,w4,g1,g2⟩
 .obtain⟨w4,g1,g2⟩:=fin (aa (.exit i)) rfl;exact⟨_,w4,g1,g2⟩
theorem QA(H:HL)(id:Nat)(u:Option SB)(i:Nat):hg (gS H id u) i=if i=id then u else hg H i:=by
 have h:=congrFun (mK H [(id,u)]) i;have e:gS H id u=eX H [(id,u)]:=by rw [Dn];rfl
 rw [e,h];by_cases hi:i=id
 .subst hi;simp [jX]
 .have:(i==id)=af:=by simpa using hi
  simp [jX,gJ,this,hi]
theorem QD{u:Option SB}(h:H.length<=L)(hi:id<L):(gS H id u).length<=L:=by
 have e:gS H id u=eX H [(id,u)]:=by rw [Dn];rfl
 rw [e];exact pw h (λi o hm=>by simp only [lx,Prod.mk.injEq]at hm;rw [hm.1];exact hi)
def DK(L0:Nat)(R:RL)(Q:Exit->RL->HL->Nat->Prop)(H:HL)(L:Nat):Prop:=
 match hk H L0 with
 |some (.obj (.loop _ _ _ _ _))=>Q .normal R (gS H L0 ah) L
 |some (.obj (.pend .ret))=>Q .ret R (gS H L0 ah) L
 |some (.obj (.pend (.exit i)))=>Q (.exit i) R (gS H L0 ah) L
 |_=>False
def SC(L0:Nat)(R:RL)(Q:Exit->RL->HL->Nat->Prop):Exit->RL->HL->Nat->Prop
 | .normal,_,H,L=>DK L0 R Q H L
 | .ret,_,H,L=>DK L0 R Q H L
 |_,_,_,_=>False
theorem ady(hr:fn.results= #[])(tmps:Array Value)(w:World):∃v,(results fn tmps).run P w= .ok v w:=by refine⟨.tuple #[],?_⟩;unfold results;rw [hr];simp
theorem SD{A:Nat}{g:Operand}{as_ bd:Code}{gf:Nat}{caps:List SV}{c:Code}(hg0:ev R g=some (.fn gf caps))(hle:eU H.length L=true)(hA:eU A L=true)(hf:P.funcs[gf]?=some fn)(hb:fn.body=some c)(hnm:(fn.name== "runtime.NumGoroutine")=false)(hres:fn.results= #[])(hnt:eU (caps.length+1) fn.ntmps=true)(hwalk:bp P (·=none) fn.ntmps (L+1) c (SC L R Q) (regs 0 (.yld L::caps)) (gS H L (some (.obj (.loop R N ps as_ bd)))) (L+1)):bp P (·=none) N A (.rangeFunc g ⟨ps⟩ as_ bd) Q R H L:=by
 refine⟨λr n B ρ a w hM hs hl=>?_⟩;subst hM;have hHL:=cr hle;have hgv:av ρ (.fn gf caps) (a.eval g):=by
  cases g with
  |tmp t=>exact hs.regs t _ (by rw [rg,<-vV];exact hg0)
  |const u=>exact(qo hg0).1
  |func f=>simp only [ev,Option.some.injEq]at hg0;cases hg0;simp only [av];exact⟨[],rfl,aD.nil_iff.2 rfl⟩
  |global g=>cases hg0
 simp only [av]at hgv;obtain⟨cs,hge,hcaps⟩:=hgv;refine wpIn_rangeFunc ?_;intro fid _;obtain⟨r0,hr0⟩:∃r0:Loop,r0={state:= .ready,pending:=ah,fn:=fid,tmps:=a.tmps,params:=⟨ps⟩,assign:=as_,body:=bd,defers:=w.heap.size}:=⟨_,rfl⟩;obtain⟨w1,hw1⟩:=ax ((w.alloc (.deferred (aa []))).alloc (.loop r0));have hL1:w1.heap[w.heap.size+1]?=aa (.loop r0):=by rw [hw1];have:=World.alloc_heap_new (w.alloc (.deferred (aa []))) (.loop r0);rwa [World.size_alloc]at this
 have hD1:w1.heap[w.heap.size]?=aa (.deferred (aa [])):=by rw [hw1];exact(RowKit.Below.heap_alloc _ _ _ aq).trans (World.alloc_heap_new w _)
 have hfr1:∀S,Fr S w w1:=λS=>by rw [hw1];exact(Fr.alloc S w _).trans (Fr.alloc S _ _) (λ_ _ _ h=>h)
 have hsz1:w1.heap.size=w.heap.size+2:=by rw [hw1];simp
 have hfok:wY P gf:=⟨fn,hf,by rw [hb];rfl,hnm⟩;refine⟨w.heap.size+1,[{target:= .collected w.heap.size,args:= #[]}],w1,{target:= .fn (.func gf) ⟨cs⟩,args:= #[.func (.yield (w.heap.size+1)) #[] #[]]},w1,gf,
  #[.func (.yield (w.heap.size+1)) #[] #[]]++⟨cs⟩,w1,?_,?_,λ_ _=>trivial,?_,λh=>(by cases h),?_⟩
 .rw [hw1,hr0];exact run_enterLoop_outer _ _ _ _ _
 .simp only [resolve,hge];simp [go_sem]
 .simp only [invoke,LV hfok]
 .obtain⟨ρ1,hρ1⟩:∃ρ1:bw,ρ1=setR ρ L ⟨w.heap.size+1,0,0,af⟩:=⟨_,rfl⟩;have hρL:ρ1 L=aa ⟨w.heap.size+1,0,0,af⟩:=by rw [hρ1];simp [setR]
  have hρne:∀id,id≠L->ρ1 id=ρ id:=λid h=>by rw [hρ1];simp [setR,h]
  have hfresh:=hs.fresh;have hext:fK ρ ρ1:=λid rb h=>by
   have:id≠L:=λe=>by subst e;rw [hfresh id (bH _)]at h;cases h
   rw [hρne id this];exact h
  have hgp:∀id,hg (gS H L (aa (.obj (.loop R N ps as_ bd)))) id=if id=L then aa (.obj (.loop R N ps as_ bd))else hg H id:=λid=>by rw [QA]
  have hlowH:∀id b,hg H id=aa b->id≠L:=λid b h e=>by subst e;have:=gn hHL (by rw [kJ];exact h);omega
  have hheap1:iX ρ1 (hg (gS H L (aa (.obj (.loop R N ps as_ bd))))) w1:=by
   intro id b hb2;rw [hgp]at hb2;by_cases h:id=L
   .rw [if_pos h]at hb2;cases hb2;subst h;exact⟨_,hρL,r0,hL1,by rw [hr0],by rw [hr0],by rw [hr0],by rw [hr0],by rw [hr0],by rw [hr0];exact hs.size,λt v hv=>by
     have:=hs.regs t v hv;rw [hr0];exact this.ext hext⟩
   .rw [if_neg h]at hb2;obtain⟨rb,g1,g2⟩:=hs.heap id b hb2;exact⟨rb,hext _ _ g1,(g2.frame (hfr1 (λ_ _=>False)) (λ_ _ _ h=>h)).ext hext⟩
  have hsep1:l7 ρ1 (hg (gS H L (aa (.obj (.loop R N ps as_ bd))))):=by
   intro i j bi bj ri rj hne hi hj hri hrj hown k o ⟨hfi,hfj⟩;rw [hgp]at hi hj;have low:∀id b rb,id≠L->hg H id=aa b->ρ1 id=aa rb->foot rb b k o->k<w.heap.size:=λid b rb hid hb2 hr hf=>by rw [hρne id hid]at hr;obtain⟨rb2,g1,g2⟩:=hs.heap id b hb2;rw [hr]at g1;cases g1;exact g2.foot_lt hf
   by_cases h1:i=L
   .rw [if_pos h1]at hi;cases hi;by_cases h2:j=L
    .exact hne (h1.trans h2.symm)
    .rw [if_neg h2]at hj;have:=low j bj rj h2 hj hrj hfj;subst h1;rw [hρL]at hri;cases hri;have:k=w.heap.size+1:=hfi;omega
   .rw [if_neg h1]at hi;by_cases h2:j=L
    .rw [if_pos h2]at hj;cases hj;have:=low i bi ri h1 hi hri hfi;subst h2;rw [hρL]at hrj;cases hrj;have:k=w.heap.size+1:=hfj;omega
    .rw [if_neg h2]at hj;rw [hρne i h1]at hri;rw [hρne j h2]at hrj;exact hs.sep i j bi bj ri rj hne hi hj hri hrj hown k o ⟨hfi,hfj⟩
  have hvs:aD ρ1 (.yld L::caps) (.func (.yield (w.heap.size+1)) #[] #[]::cs):=
   aD.cons (by simp only [av];exact⟨_,hρL,rfl⟩) (aD.ext hext caps hcaps)
  have hargsz:(#[.func (.yield (w.heap.size+1)) #[] #[]]++⟨cs⟩:Array Value)=⟨.func (.yield (w.heap.size+1)) #[] #[]::cs⟩:=aq;rw [hargsz];have hcl:=hcaps.length;have hnt':=cr hnt;have hsim:dO fn.ntmps w1.heap.size (L+1) ρ1 (rg (regs 0 (.yld L::caps))) (hg (gS H L (aa (.obj (.loop R N ps as_ bd)))))
    {tmps:=(⟨.func (.yield (w.heap.size+1)) #[] #[]::cs⟩:Array Value)++sW (fn.ntmps-(⟨.func (.yield (w.heap.size+1)) #[] #[]::cs⟩:Array Value).size) undef,defers:= []} w1:=by
   refine⟨aA,?_,hheap1,hsep1,λid hid=>?_,⟨List.Pairwise.nil,λd hd=>by simp at hd,bH _⟩⟩
   .intro t v hv;obtain⟨_,h2⟩:=Hb hv;obtain⟨u,hu,hr⟩:=hvs.get h2;simp only [Nat.sub_zero]at hu;have htl:t<(Value.func (Fn.yield (w.heap.size+1)) #[] #[]::cs).length:=(dA.1 hu).1;refine NN ?_;simp only [sY,hu];exact hr
   .rw [hρne id ag];exact hfresh id ag
  refine callsIn_of_wp_marks hf hb trivial ?_ rfl;have hlen1:(gS H L (aa (.obj (.loop R N ps as_ bd)))).length<=L+1:=QD ag ag;refine wpIn_mono (hwalk.run ah (n-1) w1.heap.size ρ1 _ w1 rfl hsim hlen1) ?_;rintro e a' w2 ⟨R2,H2,L2,ρ2,hq,hl2,hs2,he2⟩;have main:DK L R Q H2 L2->LeavesInM (Fw ah) (n-1) P fn a'.tmps (rangePost (Fw ah) n P (w.heap.size+1) (λe a' w'=>∃R' H' L' ρ',Q e R' H' L'/\H'.length<=L'/\dO N B L' ρ' (rg R') (hg H') a' w'/\fT A ρ (hg H) w ρ' (hg H') w')
    {a with defers:= [{target:= .collected w.heap.size,args:= #[]}]++a.defers}) a'.defers .returning w2:=by
   intro hq;refine Gr a'.defers w2 hs2.dfr (λw3 hm=>?_);obtain⟨v,hv⟩:=ady (P:=P) hres a'.tmps w3;refine⟨v,hv,?_⟩;have hAL:=cr hA;have hρ2L:ρ2 L=aa ⟨w.heap.size+1,0,0,af⟩:=he2.ext L ag _ hρL;have hrec:∃y,hg H2 L=aa (.obj y):=by
    unfold DK at hq;rw [kJ]at hq;cases hh:hg H2 L with
    |none=>rw [hh]at hq;exact hq.elim
    |some b=>cases b with
     |obj y=>exact⟨y,rfl⟩
     |_=>rw [hh]at hq;exact hq.elim
   obtain⟨y,hy⟩:=hrec;obtain⟨rb,hrb,hO⟩:=hs2.heap L _ hy;rw [hρ2L]at hrb;cases hrb;have hloop:∃r3:Loop,w3.heap[w.heap.size+1]?=aa (.loop r3)/\r3.state≠ .busy/\r3.pending=(match y with| .loop _ _ _ _ _=>ah| .pend c=>aa c):=by
    cases y with
    |loop R3 N3 ps3 a3 b3=>obtain⟨r3,g1,g2,g3,_⟩:=hO;exact⟨r3,hm.loops _ _ g1,by rw [g2];simp,g3⟩
    |pend c3=>obtain⟨r3,g1,g2,g3⟩:=hO;exact⟨r3,hm.loops _ _ g1,by rw [g2];simp,g3⟩
   obtain⟨r3,hr3,hnb,hpd⟩:=hloop;obtain⟨w4,hw4⟩:=ax (w3.putObj (w.heap.size+1) (.loop {r3 with state:= .exhausted}));have hend:=run_endLoop (P:=P) hr3 hnb;rw [<-hw4]at hend;have hgp2:∀id,hg (gS H2 L ah) id=if id=L then ah else hg H2 id:=λid=>by rw [QA]
   have sub:∀id b,hg (gS H2 L ah) id=aa b->id≠L/\hg H2 id=aa b:=λid b h=>by
    rw [hgp2]at h;by_cases e:id=L
    .rw [if_pos e]at h;cases h
    .rw [if_neg e]at h;exact⟨e,h⟩
   have hobj:∀id y2,hg (gS H2 L ah) id=aa (.obj y2)->∃rb,ρ2 id=aa rb/\rb.blk≠w.heap.size+1:=λid y2 h=>by obtain⟨hne,h2⟩:=sub id _ h;obtain⟨rb,g1,g2⟩:=hs2.heap id _ h2;refine⟨rb,g1,λe=>?_⟩;exact hs2.sep L id _ _ _ rb (λe=>hne e.symm) hy h2 hρ2L g1 rfl (w.heap.size+1) 0 ⟨rfl,e.symm⟩
   have hheap4:iX ρ2 (hg (gS H2 L ah)) w4:=by
    intro id b hb2;obtain⟨hne,h2⟩:=sub id b hb2;obtain⟨rb,g1,g2⟩:=hs2.heap id b h2;refine⟨rb,g1,?_⟩;rw [hw4];have g3:=g2.marks hm;cases b with
    |obj y2=>
     obtain⟨rb3,q1,q2⟩:=hobj id y2 hb2;rw [g1]at q1;cases q1;have keep:(w3.putObj (w.heap.size+1) (.loop {r3 with state:= .exhausted})).heap[rb.blk]?=w3.heap[rb.blk]?:=World.putObj_heap_other q2;cases y2 with
     |loop R3 N3 ps3 a3 b3=>obtain⟨r5,k1,k2⟩:=g3;exact⟨r5,by rw [keep];exact k1,k2⟩
     |pend c3=>obtain⟨r5,k1,k2⟩:=g3;exact⟨r5,by rw [keep];exact k1,k2⟩
    |row t l=>exact g3.putLoop hr3 (λ_ e=>by cases e)
    |box l=>exact g3.putLoop hr3 (λ_ e=>by cases e)
    |ro l=>exact g3.putLoop hr3 (λ_ e=>by cases e)
    |ext y=>exact g3.putLoop hr3 (λ_ e=>by cases e)
   have hfr4:Fr (dV ρ (hg H)) w w4:=by
    have a2:Fr (dV ρ (hg H)) w w2:=(hfr1 _).trans he2.fr (λk o hk h=>by
     obtain⟨id,b,rb,g1,g2,g3,g4⟩:=h;rw [hgp]at g1;by_cases e:id=L
     .rw [if_pos e]at g1;cases g1;subst e;rw [hρL]at g2;cases g2;have:k=w.heap.size+1:=g4;omega
     .rw [if_neg e]at g1;rw [hρne id e]at g2;exact⟨id,b,rb,g1,g2,g3,g4⟩)
    have a3:Fr (dV ρ (hg H)) w w3:=by refine⟨hm.os.trans a2.os,hm.tape.trans a2.tape,hm.output.trans a2.output,by rw [hm.size];exact a2.size,λk o ho=>?_⟩;have hk:k<w.heap.size:=(jL.1 ho).1;rw [hm.low k ag];exact a2.blk k o ho
    refine⟨by rw [hw4];exact a3.os,by rw [hw4];exact a3.tape,by rw [hw4];exact a3.output,by rw [hw4];simpa [World.putObj]using a3.size,λk o ho=>?_⟩;have hk:k<w.heap.size:=(jL.1 ho).1;rw [hw4,World.putObj_heap_other ag];exact a3.blk k o ho
   have hD4:w4.heap[w.heap.size]?=aa (.deferred (aa [])):=by
    have d2:w2.heap[w.heap.size]?=aa (.deferred (aa [])):=(he2.fr.blk _ _ hD1).fixed rfl (λ_ _ _ h=>by cases h);have d3:w3.heap[w.heap.size]?=aa (.deferred (aa [])):=by rw [hm.low _ (by omega)];exact d2
    rw [hw4];exact Sv hr3 d3
   have hown4:∀k o,dV ρ2 (hg (gS H2 L ah)) k o->dV ρ (hg H) k o\/w.heap.size<=k:=by
    rintro k o ⟨id,b,rb,g1,g2,g3,g4⟩;obtain⟨hne,h2⟩:=sub id b g1;rcases he2.own k o ⟨id,b,rb,h2,g2,g3,g4⟩with h|h
    .obtain⟨id2,b2,rb2,q1,q2,q3,q4⟩:=h;rw [hgp]at q1;by_cases e:id2=L
     .rw [if_pos e]at q1;cases q1;subst e;rw [hρL]at q2;cases q2;have:k=w.heap.size+1:=q4;exact .inr ag
     .rw [if_neg e]at q1;rw [hρne id2 e]at q2;exact .inl ⟨id2,b2,rb2,q1,q2,q3,q4⟩
    .exact .inr ag
   have hextA:∀id rb,ρ id=aa rb->ρ2 id=aa rb:=λid rb h=>by
    have hid:id<L:=by
     by_cases e:id<L
     .exact e
     .rw [hfresh id ag]at h;cases h
    exact he2.ext id ag rb (hext id rb h)
   have hsim4:dO N B L2 ρ2 (rg R) (hg (gS H2 L ah)) {a with defers:= [{target:= .collected w.heap.size,args:= #[]}]++a.defers} w4:=by
    refine⟨hs.size,λt v hv=>(hs.regs t v hv).ext (λid rb h=>hextA id rb h),hheap4,λi j bi bj ri rj hne hi hj hri hrj hown=>hs2.sep i j bi bj ri rj hne (sub i bi hi).2 (sub j bj hj).2 hri hrj hown,hs2.fresh,?_⟩;have hd0:Bh B a.defers w4:=hs.dfr.fr hfr4;refine⟨?_,λd hd=>?_,hd0.2.2⟩
    .simp only [List.singleton_append,iT,List.pairwise_cons];refine⟨λt ht k hk=>?_,hd0.1⟩;cases hk;intro e;obtain⟨d,hd,rfl⟩:=mw.1 ht;obtain⟨q,e2,_,hq2⟩:=hs.dfr.2.1 d hd;rw [e2]at e;simp only [Target.collected.injEq]at e;subst e;have:=(jL.1 hq2).1;omega
    .rcases mu.1 hd with h|h
     .simp only [lx]at h;subst h;exact⟨w.heap.size,rfl,hs.dfr.2.2,hD4⟩
     .exact hd0.2.1 d h
   have hev4:fT A ρ (hg H) w ρ2 (hg (gS H2 L ah)) w4:=⟨λid _ rb h=>hextA id rb h,hfr4,hown4⟩;have hlen4:(gS H2 L ah).length<=L2:=QD hl2 (by have:=gn hl2 (by rw [kJ];exact hy);omega);refine⟨r3.pending,w4,hend,?_⟩;rw [hpd];unfold DK at hq;rw [kJ,hy]at hq;cases y with
   |loop R3 N3 ps3 a3 b3=>exact⟨R,_,L2,ρ2,hq,hlen4,hsim4,hev4⟩
   |pend c3=>
    cases c3 with
    |ret=>exact wpIn_ret ⟨R,_,L2,ρ2,hq,hlen4,hsim4,hev4⟩
    |exit i=>exact wpIn_exit ⟨R,_,L2,ρ2,hq,hlen4,hsim4,hev4⟩
    |_=>exact hq.elim
  cases e with
  |normal=>exact main hq
  |ret=>exact main hq
  |_=>exact hq.elim
theorem Hz(f:α->SV)(d:α){l:List α}(hk:k=i)(h:i<l.length):dz af 1 (l.map f) k=aa (f (l.getD i d)):=by subst hk;simp [dz,h]
theorem cU{l:List UInt8}(hk:k=i)(h:i<l.length):dz af 1 (l.map .u8) k=aa (.u8 (l.getD i 0)):=Hz _ _ hk h
theorem wm{l:List UInt32}(hk:k=i)(h:i<l.length):dz af 1 (l.map .u32) k=aa (.u32 (l.getD i 0)):=Hz _ _ hk h
theorem qC{l:List UInt64}(hk:k=i)(h:i<l.length):dz af 1 (l.map .u64) k=aa (.u64 (l.getD i 0)):=Hz _ _ hk h
theorem vo{l:List Int}(hk:k=i)(h:i<l.length):dz af 1 (l.map .i) k=aa (.i (l.getD i 0)):=Hz _ _ hk h
theorem cK{sz:Nat}(hk:k=0)(h:l.length=sz):dz ab sz l k=aa (.agg l):=by subst hk;subst h;simp only [dz,if_true];rw [if_pos ag,cq,bW (bH _)]
@[simp] theorem ajf(h:m.length=l.length):bN l 0 (.agg m)=m:=by simp [bN,h]
theorem df(hk:k=0)(h:m.length=l.length):bN l k (.agg m)=m:=by subst hk;exact ajf h
theorem nC{l:List UInt8}{x:UInt8}(hk:k=i):bN (l.map .u8) k (.u8 x)=(l.set i x).map .u8:=by subst hk;simp [bN,List.map_set]
theorem D5{l:List Int}{x:Int}(hk:k=i):bN (l.map .i) k (.i x)=(l.set i x).map .i:=by subst hk;simp [bN,List.map_set]
theorem ME{l:List UInt32}{x:UInt32}(hk:k=i):bN (l.map .u32) k (.u32 x)=(l.set i x).map .u32:=by subst hk;simp [bN,List.map_set]
theorem D4{l:List UInt64}{x:UInt64}(hk:k=i):bN (l.map .u64) k (.u64 x)=(l.set i x).map .u64:=by subst hk;simp [bN,List.map_set]
theorem HA{l:List UInt8}{r:List SV}(hk:k=i)(h:i<l.length):dz af 1 (l.map .u8++r) k=aa (.u8 (l.getD i 0)):=by subst hk;simp [dz,gP,h]
theorem lR{x:SV}(hk:k=l.length):dz af 1 (l++ [x]) k=aa x:=by subst hk;simp [dz]
theorem MD{x y:SV}(hk:k=l.length)(hy:y.atom=ab):bN (l++ [x]) k y=l++ [y]:=by subst hk;cases y<;>first|(simp [SV.atom]at hy;done)|simp [bN]
theorem Fm{l r:List UInt8}{o n:Nat}(h:(l.drop o).take n=r):tq (((l.map SV.u8).drop o).take n)=aa r:=by subst h;rw [<-o0,<-iU,OM]
theorem Fl{l:List UInt8}:tq (((l.map SV.u8).drop 0).take l.length)=aa l:=by rw [cq,ajJ,OM]
theorem GR(n:Nat){x:SV}(h:iG x=ab):bJ (aK n x)=ab:=by simp only [bJ,jg];intro y hy;rw [List.eq_of_mem_replicate hy];exact h
theorem sM{sel:List Nat}{n:Nat}{x:UInt8}:bu sel ((aK n x).map .u8)=aa (aK n (.u8 x)):=by rw [List.map_replicate];exact jc sel (GR n rfl)
theorem rS{sel:List Nat}{n:Nat}{x:Int}:bu sel ((aK n x).map .i)=aa (aK n (.i x)):=by rw [List.map_replicate];exact jc sel (GR n rfl)
theorem tU{sel:List Nat}{n:Nat}{x:UInt32}:bu sel ((aK n x).map .u32)=aa (aK n (.u32 x)):=by rw [List.map_replicate];exact jc sel (GR n rfl)
theorem tV{sel:List Nat}{n:Nat}{x:UInt64}:bu sel ((aK n x).map .u64)=aa (aK n (.u64 x)):=by rw [List.map_replicate];exact jc sel (GR n rfl)
theorem DN{sel:List Nat}{a b c:List SV}(u:bJ a=ab)(h:bu sel b=aa c):bu sel (a++b)=aa (a++c):=by
 induction a with
 |nil=>exact h
 |cons x a ih=>
  simp only [Sr,fI]at u;simp only [oz,bu,wc sel u.1,ih u.2]
theorem ke{sel:List Nat}{a u b c:List SV}(F:bJ a=ab)(e:a=u)(h:bu sel b=aa c):bu sel (a++b)=aa (u++c):=by subst e;exact DN F h
theorem dh{sel:List Nat}{n m:Int}(h:n=m):bG sel (.i n)=aa (.i m):=by subst h;rfl
theorem nG{sel:List Nat}{n m:UInt8}(h:n=m):bG sel (.u8 n)=aa (.u8 m):=by subst h;rfl
theorem Ia{sel:List Nat}{n m:UInt32}(h:n=m):bG sel (.u32 n)=aa (.u32 m):=by subst h;rfl
theorem lr{sel:List Nat}{n m:UInt64}(h:n=m):bG sel (.u64 n)=aa (.u64 m):=by subst h;rfl
theorem AT{sel:List Nat}{n m:Bool}(h:n=m):bG sel (.b n)=aa (.b m):=by subst h;rfl
theorem iQ{sel:List Nat}{j o o' n u z:Nat}{f:Bool}(hi:sel[i]?=aa j)(ho:o=o')(hn:n=u):bG sel (.sl i o n z f)=aa (.sl j o' u z f):=by subst ho;subst hn;simp only [bG,hi]
theorem wA{sel:List Nat}(h:bu sel l=aa m):bG sel (.tup l)=aa (.tup m):=by simp only [bG,h]
theorem pJ{sel:List Nat}(h:bu sel l=aa m):bG sel (.agg l)=aa (.agg m):=by simp only [bG,h]
theorem dM{sel:List Nat}{x y:SV}(h:bG sel x=aa y)(k:bu sel l=aa m):bu sel (x::l)=aa (y::m):=by simp only [bu,h,k]
theorem V8{sel:List Nat}:bu sel []=aa []:=rfl
theorem oG{d:Nat}{x:Operand}{n:Int}{m:Nat}(h:ev R x=aa (.i n))(hn:n=(m:Int)):oF R d (aa x)=aa m:=by subst hn;simp [oF,h,idxOf]
def ajc(fl:List Bool)(R:RL)(H:HL)(L:Nat)(x:Operand)(args:List Operand)(id:Nat)(ss:List Nat)(args0:List SV)(H0:HL)(ret:SV)(H1:HL)(k:K1):Prop:=
 (match ev R x with
  |some (.yld i)=>match uI R args with
   |some zs=>i=id/\bu (id::ss) args0=aa zs
   |none=>False
  | _ => False) /\ iF (id :: ss) H (id :: ss) H0 /\ oP fl H1 = ab /\
 match dD (id::ss).length H0.length with
 |true=>match iA (id::ss) 0 (id::ss) H0 with
  |true=>match rn (id::ss++dc L (H1.length-H0.length)) fl (id::ss++dc L (H1.length-H0.length)) H0 H1 with
   |some W=>match bG (id::ss++dc L (H1.length-H0.length)) ret with
    |some z=>k (aa z) W (id::ss) (L+(H1.length-H0.length))
    |none=>False
   |none=>False
  |false=>False
 |false=>False
theorem rO{k:K1}{x:Operand}(id:Nat)(ss:List Nat)(fl:List Bool)(hc:Jc P args0 H0 ret H1)(ho:o.op= .call ⟨.value x,args,tys⟩)(hle:eU H.length L=ab)(h:ajc fl R H L x args.toList id ss args0 H0 ret H1 k):cR P o R H L k:=by
 have hl:=cr hle;obtain⟨h1,h2,hp,h3⟩:=h;split at h1
 .rename_i i hx;split at h1
  .rename_i zs O;obtain⟨rfl,u⟩:=h1;split at h3
   .rename_i cx;split at h3
    .rename_i hd;split at h3
     .rename_i W F;split at h3
      .rename_i z hz;have hW:=CY _ _ _ _ _ _ hp F;obtain⟨w1,w2,w3,w4,w5⟩:=vJ hW;refine⟨_,_,_,_,aeU hl ho (bq hx) (C9 O) hc u (gY cx) h2 hd hW hz,ag,?_,h3⟩;intro j Z hm;obtain⟨q,hj,U⟩:=w3 j Z hm;have V:=gY cx;by_cases I:q<H0.length
       .rw [gP ag]at hj;obtain⟨b0,G⟩:=w5 q I;obtain⟨s,b,e1,e2,_⟩:=mL h2 G;rw [hj]at e1;cases e1;have:=gn hl (by rw [kJ];exact e2:hk H _=aa b);exact⟨ag,λhn=>absurd (jO hj) hn⟩
       .rw [iR ag,vX]at hj;split at hj
        .have:=Option.some.inj hj;exact⟨ag,λ_=>ag⟩
        .cases hj
      .exact h3.elim
     .exact h3.elim
    .exact h3.elim
   .exact h3.elim
  .exact h1.elim
 .exact h1.elim
open Go.Proofs
theorem O9:∀(n t:Nat) (acc:Array Value),∃l:List UInt8,(Extern.BytealgMakeNoZero.digits n t acc).toList=acc.toList++l.map (λx=>su .u8 (x.toNat:Int))/\l.length=n
 |0,t,acc=>⟨[],by simp [Extern.BytealgMakeNoZero.digits],rfl⟩
 |n+1,t,acc=>by
  obtain⟨l,h1,h2⟩:=O9 n (t/256) (acc.push (.int .u8 (Int.ofNat (t%256))));refine⟨(cX (t%256))::l,?_,by simp [h2]⟩;rw [Extern.BytealgMakeNoZero.digits,h1];have:(cX (t%256)).toNat=t%256:=by rw [nN];omega
  simp [this]
theorem SP(ρ:bw):∀l:List UInt8,aD ρ (l.map .u8) (l.map (λx=>su .u8 (x.toNat:Int)))
 | []=>aD.nil_iff.2 rfl
 |x::l=>aD.cons gO (SP ρ l)
theorem Yg(l:List UInt8):cw (l.map SV.u8)=ab:=by simp [cw,SV.atom]
theorem aii{ps:Array TypeId}{e:TypeId}(ht:P.underlying t=aa (.slice e))(n:Nat)(hn2:n<=281474976710656)(w:World):∃b:Nat,(Extern.BytealgMakeNoZero.makeNoZero ps #[t] #[.int .i64 n]).run P w= .ok (.slice (aa ⟨w.heap.size,0,ah⟩) n (Extern.BytealgMakeNoZero.digits (grownCap w n 0 e) b #[]).size) (w.drew.drew.alloc (.cells (Extern.BytealgMakeNoZero.digits (grownCap w n 0 e) b #[]) e)):=by
 have hdef:∃q:Question,q.forced=af/\Extern.BytealgMakeNoZero.makeNoZero ps #[t] #[.int .i64 n]=
   (do
    let .slice elem←underlying t|stuck "bytealg.MakeNoZero: slice type expected"
    if(n:Int)<0||(n:Int)>2^48 then runtimePanic (.error "makeslice: len out of range")
    let cap<-choose (.appendCap (n:Int).toNat 0 elem)
    askRoom cap
    let bytes<-choose q
    let a<-newRow elem (Extern.BytealgMakeNoZero.digits cap bytes #[])
    pure (.slice (aa a) (n:Int).toNat cap)):=by
  refine⟨_,?_,rfl⟩;rfl
 obtain⟨q,hqf,hdef⟩:=hdef;refine⟨q.cut (w.tape (w.drawn+1) q),?_⟩;rw [hdef];have h1:¬(n:Int)<0:=ag;have h2:¬(281474976710656:Int)<(n:Int):=ag;have hq2:(Question.appendCap n 0 e).forced=af:=rfl;simp [run_underlying ht,h1,h2,hqf,hq2,newRow,Lib.size_digits,grownCap]
theorem aih{f:FuncId}{e:TypeId}(hf:P.funcs[f]?=some fn)(hname:(fn.name== "runtime.NumGoroutine")=false)(hb:fn.body.isNone=true)(hn:Extern.findNext fn=none)(he:Extern.find fn=some (Extern.BytealgMakeNoZero.makeNoZero fn.params #[t]))(ht:P.underlying t=some (.slice e))(n:Nat)(hn2:n≤281474976710656)(w:World):∃(cs:Array Value) (l:List UInt8),(callFunc f #[.int .i64 (n:Int)]).run P w= .ok (.value (.slice (some ⟨w.heap.size,0,none⟩) n cs.size)) (w.drew.drew.alloc (.cells cs e))∧n≤cs.size∧l.length=n∧cs.toList.take n=l.map (fun x=>su .u8 (x.toNat:Int)):=by
 obtain⟨b,hr⟩:=aii (ps:=fn.params) ht n hn2 w;obtain⟨l,hl1,hl2⟩:=O9 (grownCap w n 0 e) b #[];have hge:n<=grownCap w n 0 e:=by simpa using grownCap_ge w n 0 e
 refine⟨Extern.BytealgMakeNoZero.digits (grownCap w n 0 e) b #[],l.take n,?_,?_,?_,?_⟩
 .rw [run_callFunc_extern hf hname hb hn he,hr];rfl
 .rw [Lib.size_digits];simpa using hge
 .rw [eZ,hl2];omega
 .rw [hl1];simp [iU]
section
variable {P:Program} {ops:Array Oper} {N B:Nat}
theorem acn{o:Oper}{i:Nat}{R Ri:eM}{H Hi:cG}{e:En}{L L' n:Nat}{r:Option Nat}{a:Act}{K:Act->World->Prop}{Q:Exit->Act->World->Prop}(hi:ops[i]?=aa o)(hd:e.lg.dst=o.dst)(V:e.lg.Wi=e.W.map (·.1))(Z:o.guard=ah)(hN:∀d,o.dst=aa d->d<N)(hlt:(∀t∈oQ o,∀v,Ri t=aa v->av ρ v (a.tmps.getD t undef))->∀next:Act->World->Prop,(∀rv w' ρ',cI ρ Hi w e.W ρ' w'->(∀v,e.out=aa v->av ρ' v rv)->next (a.put o.dst rv) w')->o.wpIn (Fw r) n P a w next Q)(hR:∀t,R t=Ri t)(hH:∀id,(id∈e.lg.F\/id∈e.lg.Wi)->H id=Hi id)(hs:dO N B L ρ R H a w)(U:∀id I,(id,I)∈e.W->id∉e.lg.F->ρ id=ah)(hL:L<=L')(hW:∀id I,(id,I)∈e.W->id<L')(hk:∀a' w' ρ',dO N B L' ρ' (dZ R (wr e)) (dZ H e.W) a' w'->Ev ρ H w ρ' (dZ H e.W) w'->(∀id rb,ρ' id=aa rb->ρ id=aa rb\/∃I,(id,I)∈e.W)->K a' w'):wpOpIn (Fw r) n P ops Q i K a w:=by
 have put:∀(rv:Value) (w':World) (ρ':bw),cI ρ Hi w e.W ρ' w'->(∀v,e.out=aa v->av ρ' v rv)->K (a.put o.dst rv) w':=by
  intro rv w' ρ' hc hv;have G:=hc.evo (H:=H) (λid I hm=>(hH id (.inr (by rw [V];exact mw.2 ⟨_,hm,rfl⟩))).symm) hs.heap hs.sep;rw [wx]at G;refine hk _ _ ρ' ⟨?_,?_,G.heap,G.sep,?_,?_⟩ G.ev hc.dom
  .cases u:o.dst<;>simp [Act.put,u,hs.size]
  .intro t v ht;cases u:o.dst with
   |none=>
    rw [u]at hd;simp only [wr,hd,dZ,vB]at ht;simp only [Act.put];exact(hs.regs t v ht).ext G.ext
   |some d=>
    rw [u]at hd;have hdN:d<a.tmps.size:=by rw [hs.size];exact hN d u
    simp only [wr,hd,dZ,gJ,vB]at ht;simp only [Act.put];by_cases O:t=d
    .subst O;simp at ht;exact Np
    .have:(t==d)=af:=by simpa using O
     simp only [this]at ht;rw [ib,nI (λe=>O e.symm),<-ib];exact(hs.regs t v ht).ext G.ext
  .intro id hid;cases hr:ρ' id with
   |none=>rfl
   |some rb=>
    rcases hc.dom id rb hr with h|⟨I,hm⟩
    .rw [hs.fresh id ag]at h;cases h
    .have:=hW id I hm;omega
  .have:(a.put o.dst rv).defers=a.defers:=by cases u:o.dst<;>simp [Act.put]
   rw [this];exact hs.dfr.fr G.fr
 unfold wpOpIn;simp only [hi];have hw:Region.wanted o (yielded ops a.tmps)=ab:=by unfold Region.wanted;simp only [Z]
 simp only [hw,if_true];exact hlt (λt ht v hv=>hs.regs t v ((hR t).trans hv)) K put
end
def Cm(j:Nat)(T:TT)(P:Program)(M:Option Nat->Prop)(N A:Nat)(c:Code):(Exit->RL->HL->Nat->Prop)->RL->HL->Nat->Prop:=
 @Code.rec (λ_=>(Exit->RL->HL->Nat->Prop)->RL->HL->Nat->Prop)
  (λQ=>Q .normal)
  (λid ops u Q R H L=>match dD id j with
   |true=>bp P M N A (.region id ops u) Q R H L
   | false => sw T P M N A (.region id ops u) Q R H L)
  (λ_ _ F G Q=>F λe=>match e with| .normal=>G Q|e=>Q e)
  (λc _ _ I O Q R H L=>match ev R c with
   |some (.b t)=>(t=ab->I Q R H L)/\(t=af->O Q R H L)
   | _ => False)
  (λid _ ih Q=>ih λe=>match e with
   | .exit i=>match dD i id with|true=>Q .normal|false=>Q (.exit i)
   | e => Q e)
  (λc _ Q=>bp P M N A (.loop c) Q)
  (λf ps x y _ _ Q=>bp P M N A (.rangeFunc f ps x y) Q)
  (λid Q=>Q (.exit id))
  (λc _ Q=>bp P M N A (.scope c) Q)
  (λl Q=>bp P M N A (.label l) Q)
  (λl Q=>bp P M N A (.goto l) Q)
  (λQ=>Q .ret)
  (λs Q=>bp P M N A (.refuse s) Q) c
theorem Cn{j:Nat}{T:TT}{P:Program}{M:Option Nat->Prop}{N A:Nat}(hT:fC P T)(hm:P.follows .mixedOrders=ab):∀{c:Code} {Q:Exit->RL->HL->Nat->Prop} {R:RL} {H:HL} {L:Nat},jR N c=ab->
  Cm j T P M N A c Q R H L->bp P M N A c Q R H L
 | .skip,Q,R,H,L,_,h=>⟨λr n B ρ a w hM hs hl=>wpIn_skip ⟨R,H,L,ρ,h,hl,hs,fT.refl _ _ _ _⟩⟩
 | .exit id,Q,R,H,L,_,h=>⟨λr n B ρ a w hM hs hl=>wpIn_exit ⟨R,H,L,ρ,h,hl,hs,fT.refl _ _ _ _⟩⟩
 | .ret,Q,R,H,L,_,h=>⟨λr n B ρ a w hM hs hl=>wpIn_ret ⟨R,H,L,ρ,h,hl,hs,fT.refl _ _ _ _⟩⟩
 | .region id ops draw,Q,R,H,L,hc,h=>by
  have h:(match dD id j with
   |true=>bp P M N A (.region id ops draw) Q R H L
   | false => sw T P M N A (.region id ops draw) Q R H L) := h
  cases hb:dD id j with
  |true=>rw [hb]at h;exact h
  |false=>rw [hb]at h;exact mV hT hm hc h
 | .seq x y,Q,R,H,L,hc,h=>by
  simp only [jR,fI]at hc;have h:Cm j T P M N A x (λe=>match e with| .normal=>Cm j T P M N A y Q|e=>Q e) R H L:=h;exact(Cn hT hm hc.1 h).seq (λR H L h=>Cn hT hm hc.2 h) (λe R H L hne h=>by cases e<;>first|exact absurd rfl hne|exact h)
 | .cond c x y,Q,R,H,L,hc,h=>by
  simp only [jR,fI]at hc;have h:(match ev R c with
   |some (.b t)=>(t=ab->Cm j T P M N A x Q R H L)/\(t=af->Cm j T P M N A y Q R H L)
   | _ => False) := h
  split at h
  .rename_i t ht;refine⟨λr n B ρ a w hM hs hl=>?_⟩;have U:a.eval c= .bool t:=by
    cases c with
    |tmp k=>
     have h1:=hs.regs k (.b t) pN;simp only [av]at h1;exact h1
    |const v=>
     have h1:=(qo (ρ:=ρ) ht).1;simp only [av]at h1;exact h1
    |func f=>cases ht
    |global g=>cases ht
   refine wpIn_cond_split U (λht=>(Cn hT hm hc.1 (h.1 ht)).run r n B ρ a w hM hs hl) (λht=>(Cn hT hm hc.2 (h.2 ht)).run r n B ρ a w hM hs hl)
  .exact h.elim
 | .block id c,Q,R,H,L,hc,h=>by
  refine⟨λr n B ρ a w hM hs hl=>?_⟩;have h:Cm j T P M N A c (λe=>match e with
   | .exit i=>match dD i id with|true=>Q .normal|false=>Q (.exit i)
   | e => Q e) R H L := h
  simp only [jR]at hc;refine wpIn_block (wpIn_mono ((Cn hT hm hc h).run r n B ρ a w hM hs hl) ?_);rintro e a2 V ⟨O,G,I,ρ2,u,F⟩;cases e with
  |exit i=>
   simp only [Exit.inBlock];cases hb:dD i id with
   |true=>simp only [hb]at u;rw [if_pos (gY hb)];exact⟨O,G,I,ρ2,u,F⟩
   |false=>simp only [hb]at u;rw [if_neg (λe=>by subst e;simp at hb)];exact⟨O,G,I,ρ2,u,F⟩
  |_=>exact⟨O,G,I,ρ2,u,F⟩
 | .loop c,Q,R,H,L,_,h=>h
 | .rangeFunc f ps x y,Q,R,H,L,_,h=>h
 | .scope c,Q,R,H,L,_,h=>h
 | .label l,Q,R,H,L,_,h=>h
 | .goto l,Q,R,H,L,_,h=>h
 | .refuse s,Q,R,H,L,_,h=>h
theorem ajE{T:TT}{M:Option Nat→Prop}{A:Nat}{ops:Array Oper}{o1 o2:Oper}{post:List Oper}{R1:RL}{L1 n:Nat}{x:Operand}{e d:TypeId}(hT:fC P T)(hd:rz N ops=true)(hops:ops.toList=o1::o2::post)(h1:sP T P ops [o1] R H L [] fun R' H' L' _=>R'=R1∧H'=H1∧L'=L1)(ho:o2.op= .call ⟨.value (.func f), #[x],tys⟩)(hgd:o2.guard=none)(hdst:o2.dst=some d)(hx:aZ (rg R1) x=some (.i (n:Int)))(hn2:n≤281474976710656)(hf:P.funcs[f]?=some fn)(hname:(fn.name== "runtime.NumGoroutine")=false)(hb:fn.body.isNone=true)(hn:Extern.findNext fn=none)(he:Extern.find fn=some (Extern.BytealgMakeNoZero.makeNoZero fn.params #[t]))(ht:P.underlying t=some (.slice e))(h2:∀l:List UInt8,l.length=n→sP T P ops post ((d,.sl L1 0 n 1 false)::R1) (eX H1 [(L1,some (.row e (l.map .u8)))]) (L1+1) [] fun R' H' L' _=>Q .normal R' H' L'):bp P M N A (.region id ops false) Q R H L:=by
 refine⟨λr nn B ρ a w hM hs hl=>?_⟩;have hN:∀(i:Nat) (o:Oper) (d:Nat),ops[i]?=aa o->o.dst=aa d->d<N:=by intro i o d ho hdst;simp only [rz,jg]at hd;have:=hd o EK;simpa [hdst]using this
 have hget:∀j,ops[j]?=(o1::o2::post)[j]?:=λj=>by rw [<-hops,lU]
 obtain⟨es,R',H',L',hr,hl',hq1,hq2,hq3⟩:=AF hT h1 hl;subst hq1 hq2 hq3;obtain⟨e1,es1,L0,rfl,hg1,hL1,hW1,hr0⟩:=hr;obtain⟨rfl,hR1,hH1,hLL⟩:=hr0;subst hLL;refine wpIn_region ?_;have hsz:ops.size=post.length+1+1:=by rw [<-qN,hops];simp
 rw [List.range_eq_range',hsz,List.range'_succ,List.range'_succ,wpOpsIn_cons];refine Ga (L':=L0) (hget 0) hg1 (λd hd=>hN 0 o1 d (hget 0) hd) (λ_ _=>rfl) (λ_ _=>rfl) hs (λid ob hm hF=>hs.fresh id ((hW1 id ob hm).2 hF)) hL1 (λid ob hm=>(hW1 id ob hm).1) ?_;intro a1 w1 ρ1 hs1 hev1 _;rw [wpOpsIn_cons];rw [hR1,hH1]at hs1;rw [hH1]at hev1;obtain⟨cs,l,hrun,hcs,hll,hlt⟩:=aih hf hname hb hn he ht n hn2 w1;have hch:∀Hx:cG,cI ρ1 Hx w1 [(L0,aa (.row e (l.map .u8)))] (setR ρ1 L0 ⟨w1.heap.size,0,cs.size,af⟩) (w1.drew.drew.alloc (.cells cs e)):=λHx=>
  cI.row (H:=Hx) (w:=w1) (fz:=(0,0)) (t:=e) (w1.drawn+2) (hs1.fresh L0 (bH _)) (Yg l) (by rw [dm,hll,hlt];exact SP ρ1 l) (by rw [dm,hll];exact hcs) (.inl rfl)
 refine acn (L':=L0+1) (Ri:=rg R') (Hi:=hg H') (e:=⟨⟨o2.dst,[],[],[L0]⟩,aa (.sl L0 0 n 1 af),[(L0,aa (.row e (l.map .u8)))]⟩) (hget 1) rfl rfl hgd (λd hd=>hN 1 o2 d (hget 1) hd) ?_ (λ_=>rfl) (λ_ _=>rfl) hs1 ?_ ag ?_ ?_
 .intro hreg next hnext
  refine⟨λ_ _=>trivial,?_⟩;rw [Oper.semAt_eq _ _ _ cJ];have hxv:a1.eval x= .int .i64 (n:Int):=by
   have hrel:av ρ1 (.i (n:Int)) (a1.eval x):=by
    cases x with
    |tmp t=>exact hreg t XL _ hx
    |const u=>exact(qo hx).1
    |func f=>simp only [aZ,Option.some.injEq]at hx;cases hx
    |global g=>cases hx
   simpa only [av]using hrel
  have hexe:(execOp a1.eval o2).run P w1= .ok (.value (.slice (aa ⟨w1.heap.size,0,ah⟩) n cs.size)) (w1.drew.drew.alloc (.cells cs e)):=by unfold execOp;have hr:=hrun;rw [<-hxv]at hr;have hfe:a1.eval (.func f)= .func (.func f) #[] #[]:=rfl;simp only [ho,resolve,hfe,Deferred.ofValue,bM,bZ,pd,invoke];simpa [pd]using hr
  rw [hexe];refine hnext _ _ _ (hch _) ?_;intro v hv;cases hv;simp only [av];refine⟨⟨w1.heap.size,0,cs.size,af⟩,aa ⟨w1.heap.size,0,ah⟩,cs.size,by simp [setR],rfl,hcs,aq,.inr ⟨rfl,aq,aq⟩⟩
 .intro id ob hm hF;simp at hm;rw [hm.1];exact hs1.fresh L0 (bH _)
 .intro id ob hm;simp at hm;rw [hm.1];omega
 .intro a2 w2 ρ2 hs2 hev2 _;rw [EY rfl,<-wx,<-mK]at hs2;rw [<-wx,<-mK]at hev2;have hrp:vb R' o2.dst (aa (.sl L0 0 n 1 af))=(d,.sl L0 0 n 1 af)::R':=by rw [hdst];rfl
  rw [hrp]at hs2;obtain⟨es,R2,H2,L2,hr2,hl2,hq2⟩:=AF hT (h2 l hll) (pw ag (λid ob hm=>by simp at hm;rw [hm.1];omega));have hfin:=Ha (r:=r) (n:=nn) (Q:=λe a' w'=>∃R' H' L' ρ',Q e R' H' L'/\H'.length<=L'/\dO N B L' ρ' (rg R') (hg H') a' w'/\fT A ρ (hg H) w ρ' (hg H') w') hN post 2 _ _ _ es ρ2 a2 w2 (λj=>by rw [hget];simp [vC 2 j]) hr2 hs2
   (λa' w' ρ' hs' hev=>⟨R2,H2,L2,ρ',hq2,hl2,hs',((hev1.trans hev2).trans hev).toA⟩)
  exact hfin
theorem ae5(c:UInt64):aQ 176 [.u64 c] [] (.tup [.u64 (c%1024/64),.u64 (c%64)]) []:=by refine aL (fn:=Tryz.f176) ?_;exact AW
def Lr(a d:UInt8):UInt64:=a.toUInt64*aF (aU 4)+d.toUInt64
theorem aeX(a d:UInt8):aQ 133 [.agg [.u8 a,.u8 d]] [] (.u64 (Lr a d)) []:=by refine aL (fn:=Tryz.f133) ?_;exact AW
def aP(e:UInt64)(a d:UInt8):UInt64:=dr e (aF (aU 5)).toNat+Lr a d
theorem Gu(e:UInt64)(a d:UInt8):aQ 99 [.u64 e,.agg [.u8 a,.u8 d]] [] (.u64 (aP e a d)) []:=by refine aL (fn:=Tryz.f99) ?_;refine zp ?_;refine yl ?_;refine zW (cP [] (aeX _ _)) ?_;exact gI
theorem Rb(a:UInt8):aQ 189 [.u8 a] [] (.b af) []:=by have e:decide (a≠a)=af:=aq;refine aL (fn:=Tryz.f189) ?_;refine zp ?_;exact gI
def tu(a b:UInt8):Int:=if a<b then-1 else if b<a then 1 else 0
theorem Ra(a b:UInt8):aQ 169 [.u8 a,.u8 b] [] (.i (tu a b)) []:=by
 by_cases h1:a<b
 .have e1:decide (a<b)=ab:=lv;have e:tu a b= -1:=by unfold tu;rw [if_pos h1]
  refine xv ?_;refine CA ?_;exact gI
 .have e1:decide (a<b)=af:=lv;by_cases h2:b<a
  .have e2:decide (a>b)=ab:=mY;have e:tu a b=1:=by unfold tu;rw [if_neg h1,if_pos h2]
   refine xv ?_;exact Xn
  .have e2:decide (a>b)=af:=mY;have e:tu a b=0:=by unfold tu;rw [if_neg h1,if_neg h2]
   refine xv ?_;exact Xo
theorem Rc(a:UInt64):aQ 191 [.u64 a] [] (.b af) []:=by have e:decide (a≠a)=af:=aq;refine aL (fn:=Tryz.f191) ?_;refine zp ?_;exact gI
def oD(a b:UInt64):Int:=if a<b then-1 else if b<a then 1 else 0
theorem ae2(a b:UInt64):aQ 173 [.u64 a,.u64 b] [] (.i (oD a b)) []:=by
 by_cases h1:a<b
 .have e1:decide (a<b)=ab:=lv;have e:oD a b= -1:=by unfold oD;rw [if_pos h1]
  refine xw ?_;refine CA ?_;exact gI
 .have e1:decide (a<b)=af:=lv;by_cases h2:b<a
  .have e2:decide (a>b)=ab:=mY;have e:oD a b=1:=by unfold oD;rw [if_neg h1,if_pos h2]
   refine xw ?_;exact Xn
  .have e2:decide (a>b)=af:=mY;have e:oD a b=0:=by unfold oD;rw [if_neg h1,if_neg h2]
   refine xw ?_;exact Xo
theorem ae1(a b:Int)(f:Bool):aM 168 [.sl 0 0 2 1 f] [an [.i a,.i b]] (.i (if a≠0 then a else b)) []:=by
 by_cases h1:a≠0
 .have e1:(a !=0)=ab:=lv;rw [if_pos h1];refine Nq ?_;repeat(first|refine zW (bl e1) ?_|refine aS ?_)
  exact gH
 .have e1:(a !=0)=af:=lv;rw [if_neg h1];by_cases h2:b≠0
  .have e2:(b !=0)=ab:=mY;refine Nq ?_;repeat(first|refine zW (bC e1) ?_|refine zW (bl e2) ?_|refine aS ?_)
   exact gH
  .have e2:(b !=0)=af:=mY;have h3:b=0:=mY;refine Nq ?_;repeat(first|refine zW (bC e1) ?_|refine zW (bC e2) ?_|refine aS ?_)
   subst h3;exact gH
def RX(a b c d:UInt8):Int:=if tu a c≠0 then tu a c else tu b d
theorem aeW(a b c d:UInt8):aQ 131 [.agg [.u8 a,.u8 b],.agg [.u8 c,.u8 d]] [] (.i (RX a b c d)) []:=by unfold RX;refine aL (fn:=Tryz.f131) ?_;refine zM ?_;refine zW (cP [] (Ra _ _)) ?_;refine zc ?_;refine zW (cP [] (Ra _ _)) ?_;refine zc ?_;refine zW (aE [2] [ab] af ((ae1 _ _ _))) ?_;refine zc ?_;exact gI
end Go.Sh
namespace Go.Sh
variable{l:List UInt8}{i:Nat}
variable {α:Type}
def bR(n i:Nat)(f g:Nat->α):List α:=(cQ n).map (λj=>if j<i then f j else g j)
theorem kG(n i:Nat)(f g:Nat->α):(bR n i f g).length=n:=by simp [bR]
theorem BE(n:Nat)(f:Nat->α)(z:α):bR n 0 f (λ_=>z)=aK n z:=by apply ku;intro j;by_cases h:j<n<;>simp [bR,h]
theorem p9(n:Nat)(f g:Nat->α):bR n n f g=(cQ n).map f:=by unfold bR;apply qQ;intro j hj;rw [if_pos ua]
theorem qe{n j:Nat}{f g:Nat->α}{d:α}(h:j<n):(bR n i f g).getD j d=if j<i then f j else g j:=by rw [dk];simp [bR,h]
theorem Dg{n:Nat}{f g:Nat->α}(h:i<n):(bR n i f g).set i (f i)=bR n (i+1) f g:=by
 apply ku;intro j;rw [pQ];by_cases hj:i=j
 .subst hj;simp [bR,h]
 .rw [if_neg hj];by_cases h2:j<n
  .simp only [bR,ky,wR h2,nq];by_cases h3:j<i
   .rw [if_pos h3,if_pos ag]
   .rw [if_neg h3,if_neg ag]
  .simp [bR,h2]
theorem nx{n:Nat}{f g:Nat->α}{x:α}(h:i<n)(hx:x=f i):(bR n i f g).set i x=bR n (i+1) f g:=by subst hx;exact Dg h
theorem P5{n:Nat}{f g:Nat->α}{x:α}(h:i<n)(hx:x=g i):(bR n i f g).set i x=bR n i f g:=by
 apply ku;intro j;rw [pQ];by_cases hj:i=j
 .subst hj;subst hx;simp [bR,h]
 .rw [if_neg hj]
theorem Aj{n:Nat}{f:Nat->α}{l:List α}{d:α}(h:l.length=n):bR n 0 f (λj=>l.getD j d)=l:=by
 apply ku;intro j;by_cases h2:j<n
 .simp only [bR,ky,wR h2,nq,Nat.not_lt_zero,if_false];rw [dk,dy ag];rfl
 .rw [dI (by simp [kG];omega),dI ag]
theorem tW{n j:Nat}{f:Nat->α}{d:α}(h:j<n):((cQ n).map f).getD j d=f j:=by rw [dk];simp [h]
theorem od{n:Nat}{f:Nat->α}:((cQ n).map f).length=n:=by simp
theorem Ch{n:Nat}{f:Nat->α}:(cQ (n+1)).map f=(cQ n).map f++ [f n]:=by rw [List.range_succ];simp
theorem Ti{x c:UInt8}(h:i<l.length):(l.set i x).set i ((l.set i x).getD i 0+c)=l.set i (x+c):=by rw [dk,pQ];simp [h]
theorem acm{l m:List α}{d:α}(h:i<l.length):(l++m).getD i d=l.getD i d:=by rw [dk,dk,gP h]
theorem gw{sel:List Nat}{m:List UInt8}(h:l=m):bu sel (l.map .u8)=aa (m.map .u8):=by subst h;exact jc sel (cY l)
theorem DO{sel:List Nat}{l m:List UInt32}(h:l=m):bu sel (l.map .u32)=aa (m.map .u32):=by subst h;exact jc sel (Ss l)
theorem DP{sel:List Nat}{l m:List UInt64}(h:l=m):bu sel (l.map .u64)=aa (m.map .u64):=by subst h;exact jc sel (Su l)
theorem Cf{sel:List Nat}{l m:List Int}(h:l=m):bu sel (l.map .i)=aa (m.map .i):=by subst h;exact jc sel (agT l)
theorem Bk{n:Nat}{y:UInt8}(h:l.length=n):aB (n*1) (aG 0 (l.map SV.u8))++aB (1*1) (aG 0 [SV.u8 y])=(l++ [y]).map SV.u8:=by rw [cq,bW aA];simp
end Go.Sh
namespace Go.Sh
variable{args:Array Operand}{tys:Array TypeId}{full:Bool}{H:HL}{k:K1}{args0:List SV}{L f:Nat}{o:Oper}{a:Option Addr}{P:Program}{R:RL}{ρ ρ':bw}{ret z:SV}{i:TypeInfo}{v:Value}
theorem SL{x:SV}(h:iG x=ab)(hr:av ρ x v):av ρ' x v:=by cases x<;>simp only [iG,gE]at h<;>simpa only [av]using hr
theorem oR{ρ ρ':bw}:∀{l:List SV} {vs:List Value},bJ l=ab->aD ρ l vs->aD ρ' l vs
 | [],_,_,h=>by simpa only [aD]using h
 |x::l,vs,hp,h=>by
  simp only [bJ,vA,fI]at hp;simp only [aD]at h|-;obtain⟨y,ys,e,hy,u⟩:=h;exact⟨y,ys,e,SL hp.1 hy,oR (by simpa [bJ]using hp.2) u⟩
def fF(j n:Nat):List Nat:=(cQ n).map λk=>if k=j then 1000000 else k
theorem sK{j n:Nat}(h:∀id,id≠j->ρ id=ρ' id)(hj:j≠1000000):cu (fF j n) ρ=cu (fF j n) ρ':=by
 funext k
 simp only [cu,fF,ky];by_cases hk:k<n
 .rw [wR hk];simp only [nq];by_cases hkj:k=j
  .rw [if_pos hkj];exact h _ (λe=>hj e.symm)
  .rw [if_neg hkj];exact h _ hkj
 .rw [dI aA];rfl
def DX(j o:Nat):SV->SV
 | .sl id q n sz f=>match dD id j with|true=> .sl id (o+q) n sz f|false=> .sl id q n sz f
 |x=>x
def Dq(j:Nat):SV->Bool
 | .sl id _ _ _ _=>dD id j
 |_=>af
def Jg(j n:Nat):List SV->Prop
 | []=>True
 |x::xs=>(Dq j x=ab\/(Dq j x=af/\bG (fF j n) x=aa x))/\Jg j n xs
def uA(j n:Nat):Nat->HL->Prop
 |_,[]=>True
 |k,ah::H=>uA j n (k+1) H
 |k,aa b::H=>(k=j\/qw b=ab\/cZ (fF j n) b=aa b)/\uA j n (k+1) H
theorem vH{j n:Nat}:∀{H:HL} {k id:Nat} {b:SB},uA j n k H->hg H id=aa b->k+id=j\/cZ (fF j n) b=aa b
 | [],k,id,b,_,h=>sg
 |none::H,k,0,b,_,h=>sg
 |none::H,k,id+1,b,ho,h=>by
  have:=vH (H:=H) (k:=k+1) (id:=id) ho mZ;rcases this with e|e
  .exact .inl ag
  .exact .inr e
 |some b1::H,k,0,b,ho,h=>by
  have e:b1=b:=mZ;subst e;rcases ho.1 with h1|h1|h1
  .exact .inl ag
  .exact .inr (kb _ h1)
  .exact .inr h1
 |some b1::H,k,id+1,b,ho,h=>by
  have:=vH (H:=H) (k:=k+1) (id:=id) ho.2 mZ;rcases this with e|e
  .exact .inl ag
  .exact .inr e
theorem BM{j id:Nat}{b:SB}(hj:j<H.length):hg (H.set j (aa b)) id=if id=j then aa b else hg H id:=by
 unfold hg;rw [pQ];by_cases h:j=id
 .subst h;simp [hj]
 .rw [if_neg h,if_neg (λe=>h e.symm)]
theorem bV.sub{args:List SV}{H0:HL}{H1:HL}(h:bV P f args H0 ret H1)(j o:Nat)(L U:List SV)(n:Nat)(hj0:hg H0 j=aa (.ro U))(Z:hg H1 j=aa (.ro U))(hL:(L.drop o).take U.length=U)(hp:bJ L=ab)(x5:bJ U=ab)(h9:j≠1000000)(ha:Jg j n args)(hr:bG (fF j n) ret=aa ret)(h0:uA j n 0 H0)(h1:uA j n 0 H1):bV P f (args.map (DX j o)) (H0.set j (aa (.ro L))) ret (H1.set j (aa (.ro L))):=by
 have u:j<H0.length:=Oa;have F:j<H1.length:=by unfold hg at Z;rcases js j H1.length with h|h;exact h;rw [dI h]at Z;simp at Z
 have cx:U.length<=L.length-o:=by have:=congrArg List.length hL;simp at this;omega
 refine⟨h.fn,λnn ρ w vs hA hH hS hF=>?_⟩;obtain⟨rb,hρ,hB⟩:=hH j (.ro L) (by rw [BM u,if_pos rfl]);let rbs:RB:={rb with off:=rb.off+o,cap:=rb.cap-o}
 let ρs:bw:=λid=>if id=j then aa rbs else ρ id
 have I:∀id,id≠j->ρs id=ρ id:=λid hid=>if_neg hid
 have h8:ρs j=aa rbs:=if_pos rfl;have tr:∀{ρa ρb:bw} {x:SV} {v:Value},(∀id,id≠j->ρa id=ρb id)->bG (fF j n) x=aa x->av ρa x v->av ρb x v:=by intro ρa ρb x v e hx hv;have h1:=(lM x hx (ρ:=ρa)).2 hv;rw [sK e h9]at h1;exact(lM x hx (ρ:=ρb)).1 h1
 have x7:∀{ρa ρb:bw} {b:SB} {w:World} {r:RB},(∀id,id≠j->ρa id=ρb id)->cZ (fF j n) b=aa b->cd ρa w r b->cd ρb w r b:=by intro ρa ρb b w r e hx hv;have h1:=(l9 hx (ρ:=ρa) (w:=w) (rb:=r)).2 hv;rw [sK e h9]at h1;exact(l9 hx).1 h1
 have hA':aD ρs args vs:=by
  have:∀(xs:List SV) (us:List Value),Jg j n xs->aD ρ (xs.map (DX j o)) us->aD ρs xs us:=by
   intro xs
   induction xs with
   |nil=>intro us _ h;simpa only [qR,aD]using h
   |cons x xs ih=>
    intro us x0 h;simp only [iT,aD]at h|-;obtain⟨y,ys,e,hy,hys⟩:=h;refine⟨y,ys,e,?_,ih ys x0.2 hys⟩;rcases x0.1 with hx|⟨x6,hx⟩
    .cases x with
     |sl id q nn2 sz full=>
      simp only [Dq]at hx;have hid:id=j:=Nat.eq_of_beq_eq_true hx;subst hid;simp only [DX,hx,av]at hy;obtain⟨rb2,a,c,g1,g2,g3,g4,g5⟩:=hy;rw [hρ]at g1;cases g1;simp only [av];refine⟨rbs,a,c,h8,g2,g3,g4,?_⟩;rcases g5 with g5|⟨g5,g6,g7⟩
      .exact .inl g5
      .exact .inr ⟨g5,by rw [g6];simp only [rbs,sn],CD⟩
     |_=>simp [Dq]at hx
    .have e2:DX j o x=x:=by cases x<;>first|rfl|(simp only [Dq]at x6;simp only [DX,x6])
     rw [e2]at hy;exact tr (λid hid=>(I id hid).symm) hx hy
  exact this args vs ha hA
 have hBs:∀{ρ1:bw} {w1:World},cd ρ1 w1 rb (.ro L)->cd ρs w1 rbs (.ro U):=by
  intro ρ1 w1 hb;by_cases h6:U= []
  .exact .inl h6
  have hpos:0<U.length:=List.length_pos_iff.2 h6;rcases hb with rfl|⟨⟨c,t,fz,g1,g2,g3,g4,g5⟩,g6,g7⟩
  .exact absurd (ug (by simpa using cx)) h6
  .right;refine⟨⟨c,t,fz,g1,?_,?_,λh=>(by cases h),?_⟩,CD,g7⟩
   .have:∀l:List SV,bJ l=ab->cw l=ab:=by
     intro l;induction l with
     |nil=>intro _;rfl
     |cons x xs ih=>
      intro h;simp only [bJ,vA,fI]at h;simp only [cw,vA,fI];exact⟨by cases x<;>simp_all [iG,SV.atom],by simpa [cw]using ih (by simpa [bJ]using h.2)⟩
    exact this U x5
   .have:=aD.take U.length (aD.drop o g3);rw [hL]at this;have e:aB U.length (aG o (aB L.length (aG rb.off c.toList)))=aB U.length (aG rbs.off c.toList):=by simp only [rbs];rw [sX,ng,nK];congr 1;omega
    rw [e]at this;exact oR x5 this
   .simp only [rbs];omega
 have hgt:∀{H:HL} {b:SB},j<H.length->hg (H.set j (aa b)) j=aa b:=fun{H b} hl=>by rw [BM hl,if_pos rfl]
 have hgo:∀{H:HL} {b:SB} {id:Nat},j<H.length->id≠j->hg (H.set j (aa b)) id=hg H id:=fun{H b id} hl hid=>by rw [BM hl,if_neg hid]
 have hHs:iX ρs (hg H0) w:=by
  intro id b hb;by_cases hid:id=j
  .subst hid;rw [hj0]at hb;cases hb;exact⟨rbs,h8,hBs hB⟩
  .obtain⟨r,e1,e2⟩:=hH id b (by rw [hgo u hid];exact hb);exact⟨r,by rw [I id hid];exact e1,x7 (λid hid=>(I id hid).symm) ((vH h0 hb).resolve_left ag) e2⟩
 have W:∀k q,foot rbs (.ro U) k q->foot rb (.ro L) k q:=λk q ⟨e1,e2,e3⟩=>by simp only [rbs]at e1 e2 e3;exact⟨e1,ag,ag⟩
 have O:∀k q,dV ρs (hg H0) k q->dV ρ (hg (H0.set j (aa (.ro L)))) k q/\¬foot rb (.ro L) k q:=by
  rintro k q ⟨id,b,r,e1,e2,e3,e4⟩;have hid:id≠j:=λe=>by subst e;rw [hj0]at e1;cases e1;cases e3
  rw [I id hid]at e2;exact⟨⟨id,b,r,by rw [hgo u hid];exact e1,e2,e3,e4⟩,λhf=>hS id j b (.ro L) r rb hid (by rw [hgo u hid];exact e1) (hgt u) e2 hρ e3 k q ⟨e4,hf⟩⟩
 have hSs:l7 ρs (hg H0):=by
  intro i k bi bk ri rk hne hi hk hri hrk hw q p ⟨hfi,hfk⟩;have hij:i≠j:=λe=>NQ
  rw [I i hij]at hri;by_cases hkj:k=j
  .subst hkj;rw [hj0]at hk;cases hk;rw [h8]at hrk;cases hrk;exact hS i k bi (.ro L) ri rb hne (by rw [hgo u hij];exact hi) (hgt u) hri hρ hw q p ⟨hfi,W q p hfk⟩
  .rw [I k hkj]at hrk;exact hS i k bi bk ri rk hne (by rw [hgo u hij];exact hi) (by rw [hgo u hkj];exact hk) hri hrk hw q p ⟨hfi,hfk⟩
 have hFs:∀id,H0.length<=id->ρs id=ah:=λid hid=>by rw [I id ag];exact hF id ou
 refine(h.call nn ρs w vs hA' hHs hSs hFs).mono λe w' hR=>?_
 cases e with
 |returned v=>
  obtain⟨ρ1,q1,q2,q3,q4,q5⟩:=hR;let ρ2:bw:=λid=>if id=j then aa rb else ρ1 id
  have G:∀id,id≠j->ρ2 id=ρ1 id:=λid hid=>if_neg hid
  have V:ρ2 j=aa rb:=if_pos rfl;have hB2:cd ρ2 w' rb (.ro L):=by
   rcases hB with hB|⟨⟨c,t,fz,g1,g2,g3,g4,g5⟩,g6,g7⟩
   .exact .inl hB
   .obtain⟨c',fz',k1,k2,_,k3⟩:=q5.fr.blk rb.blk _ g1;have hsame:∀i,rb.off<=i->i<rb.off+L.length->c'[i]?=c[i]?:=λi h1 h2=>k3 i λho=>(O _ _ ho).2 ⟨rfl,h1,h2⟩
    have e:aB L.length (aG rb.off c'.toList)=aB L.length (aG rb.off c.toList):=by
     apply ku;intro i;by_cases hi:i<L.length
     .rw [ic hi,ic hi,iS,iS,lU,lU];exact hsame _ ag ag
     .rw [dI aA,dI aA]
    exact .inr ⟨⟨c',t,fz',k1,g2,by rw [e];exact oR hp g3,λh=>(by cases h),ag⟩,g6,g7⟩
  refine⟨ρ2,tr (λid hid=>(G id hid).symm) hr q1,?_,?_,?_,?_,?_,?_⟩
  .intro id b hb;by_cases hid:id=j
   .subst hid;rw [hgt F]at hb;cases hb;exact⟨rb,V,hB2⟩
   .rw [hgo F hid]at hb;obtain⟨r,e1,e2⟩:=q2 id b hb;exact⟨r,by rw [G id hid];exact e1,x7 (λid hid=>(G id hid).symm) ((vH h1 hb).resolve_left ag) e2⟩
  .intro i k bi bk ri rk hne hi hk hri hrk hw q p ⟨hfi,hfk⟩;have hij:i≠j:=λe=>by subst e;rw [hgt F]at hi;cases hi;cases hw
   rw [G i hij]at hri;rw [hgo F hij]at hi;by_cases hkj:k=j
   .subst hkj;rw [hgt F]at hk;cases hk;rw [V]at hrk;cases hrk;have hb:=q5.own q p ⟨i,bi,ri,hi,hri,hw,hfi⟩;rcases hb with hb|hb
    .exact(O _ _ hb).2 hfk
    .rcases hB with hB|⟨⟨c,t,fz,g1,_⟩,_⟩
     .subst hB;have:=hfk.2;simp at this;omega
     .have hlt:=(jL.1 g1).1;have:=hfk.1;omega
   .rw [G k hkj]at hrk;rw [hgo F hkj]at hk;exact q3 i k bi bk ri rk hne hi hk hri hrk hw q p ⟨hfi,hfk⟩
  .intro id hid;rw [fJ]at hid;rw [G id ag];exact q4 id hid
  .intro id hid r h7;rw [fJ]at hid;by_cases hij:id=j
   .subst hij;rw [hρ]at h7;cases h7;exact V
   .rw [G id hij];exact q5.ext id hid r (by rw [I id hij];exact h7)
  .exact q5.fr.mono (λk q _ ho=>(O k q ho).1)
  .rintro k q ⟨id,b,r,e1,e2,e3,e4⟩;have hij:id≠j:=λe=>by subst e;rw [hgt F]at e1;cases e1;cases e3
   rw [hgo F hij]at e1;rw [G id hij]at e2;exact(q5.own k q ⟨id,b,r,e1,e2,e3,e4⟩).imp (λho=>(O k q ho).1) (λh=>h)
 |_=>exact hR
def pG(sel:List Nat):HL->HL->Prop
 | [],[]=>True
 |none::a,ah::b=>pG sel a b
 |some x::a,aa y::b=>(y.own=x.own/\match x.own with|true=>cZ sel x=aa y|false=>True)/\pG sel a b
 |_,_=>False
theorem ze{sel:List Nat}:∀(ss:List Nat) (H0 H1 H1r:HL) (W:ix),pG sel H1 H1r->iZ ss H0 H1r=aa W->cW sel ss H0 H1=aa W
 |s::ss,aa b0::H0,ah::H1,ah::H1r,W,h,hw=>by
  simp only [pG]at h;simp only [iZ]at hw;split at hw
  .rename_i u hw2;simp only [cW,ze ss H0 H1 H1r u h hw2];exact hw
  .cases hw
 |s::ss,aa b0::H0,aa x::H1,aa y::H1r,W,h,hw=>by
  simp only [pG]at h;obtain⟨⟨h1,h2⟩,h3⟩:=h;simp only [iZ]at hw;split at hw
  .rename_i u hw2;simp only [cW,ze ss H0 H1 H1r u h3 hw2];cases hb:b0.own with
   |false=>rw [hb]at hw;exact hw
   |true=>
    rw [hb]at hw;simp only at hw|-;rw [h1]at hw;cases hx:x.own with
    |true=>rw [hx]at h2 hw;simp only at h2 hw|-;rw [h2];exact hw
    |false=>rw [hx]at hw;cases hw
  .cases hw
 |s::ss,[],ah::H1,ah::H1r,W,h,hw=>by
  simp only [pG]at h;simp only [iZ]at hw;split at hw
  .rename_i u hw2;simp only [cW,ze ss [] H1 H1r u h hw2];exact hw
  .cases hw
 |s::ss,[],aa x::H1,aa y::H1r,W,h,hw=>by
  simp only [pG]at h;obtain⟨⟨h1,h2⟩,h3⟩:=h;simp only [iZ]at hw;split at hw
  .rename_i u hw2;simp only [cW,ze ss [] H1 H1r u h3 hw2];rw [h1]at hw;cases hx:x.own with
   |true=>rw [hx]at h2 hw;simp only at h2 hw|-;rw [h2];exact hw
   |false=>rw [hx]at hw;cases hw
  .cases hw
 | [],[],[],[],W,_,hw=>by simpa only [cW,iZ]using hw
 |_,_,[],_::_,_,h,_=>by simp only [pG]at h
 |_,_,_::_,[],_,h,_=>by simp [pG]at h
 |_,_,ah::_,aa _::_,_,h,_=>by simp only [pG]at h
 |_,_,aa _::_,ah::_,_,h,_=>by simp only [pG]at h
 | [],_::_,[],[],_,_,hw=>CE
 | [],_,ah::_,ah::_,_,_,hw=>CE
 | [],_,aa _::_,aa _::_,_,_,hw=>CE
 |_::_,ah::_,_,_,_,_,hw=>CE
 |_::_,[],[],[],_,_,hw=>CE
 |_::_,aa _::_,[],[],_,_,hw=>CE
theorem aha{sel:List Nat}{a b c:List SV}(u:bJ a=ab)(h:bu sel b=aa c):cZ sel (.box (a++b))=aa (.box (a++c)):=by simp only [cZ,DN u h]
def Tt(H1r:HL)(z:SV)(R:RL)(H:HL)(L:Nat)(x:Operand)(args:List Operand)(f:Nat)(sel:List Nat)(args0:List SV)(H0:HL)(ret:SV)(H1:HL)(k:K1):Prop:=
 (match ev R x with
  |some (.fn g caps)=>match uI R args with
   |some zs=>g=f/\bu sel args0=aa (zs++caps)
   |none=>False
  | _ => False) /\ iF sel H sel H0 /\ pG (sel ++ dc L (H1.length - H0.length)) H1 H1r /\ bG (sel ++ dc L (H1.length - H0.length)) ret = aa z /\
 match dD sel.length H0.length with
 |true=>match iA sel 0 sel H0 with
  |true=>match iZ (sel++dc L (H1.length-H0.length)) H0 H1r with
   |some W=>k (aa z) W sel (L+(H1.length-H0.length))
   |none=>False
  |false=>False
 |false=>False
theorem oN{x:Operand}{H0 H1:HL}(sel:List Nat)(H1r:HL)(z:SV)(hc:bV P f args0 H0 ret H1)(ho:o.op= .call ⟨.value x,args,tys⟩)(hle:eU H.length L=ab)(h:Tt H1r z R H L x args.toList f sel args0 H0 ret H1 k):cR P o R H L k:=by
 obtain⟨h1,h2,hp,hr,h3⟩:=h;refine K8 sel hc ho hle ⟨h1,h2,?_⟩;cases hl:dD sel.length H0.length with
 |false=>rw [hl]at h3;exact h3.elim
 |true=>
  rw [hl]at h3;simp only at h3|-;cases hd:iA sel 0 sel H0 with
  |false=>rw [hd]at h3;exact h3.elim
  |true=>
   rw [hd]at h3;simp only at h3|-;cases hw:iZ (sel++dc L (H1.length-H0.length)) H0 H1r with
   |none=>rw [hw]at h3;exact h3.elim
   |some W=>
    rw [hw]at h3;rw [ze _ _ _ _ _ hp hw];simp only [hr];exact h3
theorem dY{x:Operand}{H0 H1:HL}(sel:List Nat)(H1r:HL)(z:SV)(hc:bV P f args0 H0 ret H1){Q:Prop}(kk:Q)(ho:o.op= .call ⟨.value x,args,tys⟩:=by exact rfl)(hle:Nat.ble H.length L=true:=by exact rfl)(h:Ob Q->Tt H1r z R H L x args.toList f sel args0 H0 ret H1 k:=by intro zk;exact⟨⟨rfl,by first|rfl|exact bU⟩,bU,bU,by first|rfl|exact bU|exact Hf _ (by first|(simp [B8,Av,Aw];done)|fail),zk.1⟩):cR P o R H L k:=oN sel H1r z hc ho hle (h ⟨kk⟩)
section
variable {P:Program} {ρ:bw} {H:cG} {w:World}
theorem akP(v:Value)(n:Nat):(Builtin.zeroCells #[v] n).toList=aK n v:=by
 apply ku;intro j;unfold Builtin.zeroCells;by_cases h:j<n
 .simp [h,Nat.mod_one]
 .simp [h]
end
theorem Lz{N A:Nat}{g:Operand}{ps:List Nat}{as_ bd:Code}{Q:Exit→RL→HL→Nat→Prop}{gf:Nat}{caps:List SV}{fn:Func}{c:Code}(hg0:ev R g=some (.fn gf caps))(hle:eU H.length L=true)(hA:eU A L=true)(hf:P.funcs[gf]?=some fn)(hb:fn.body=some c)(hnm:(fn.name== "runtime.NumGoroutine")=false)(hres:fn.results= #[])(hnt:eU (caps.length+1) fn.ntmps=true)(hwalk:∀a b,a=as_→b=bd→bp P (·=none) fn.ntmps (L+1) c (SC L R Q) (regs 0 (.yld L::caps)) (gS H L (some (.obj (.loop R N ps a b)))) (L+1)):bp P (·=none) N A (.rangeFunc g ⟨ps⟩ as_ bd) Q R H L:=SD hg0 hle hA hf hb hnm hres hnt (hwalk _ _ rfl rfl)
section
variable {P:Program} {ρ:bw} {H:cG} {w:World}
theorem V9(m:Nat)(h:m<=140737488355328):IntKind.i64.wrap (m:Int)=(m:Int):=by have:=eI (m:Int);unfold au at this;rw [this];omega
theorem Yc{t xT ty el sz n m c:Nat}{z:Value}(hT:P.underlying t=aa (.slice el))(hX:P.underlying xT=aa (.int .i64))(hi:P.info? el=aa i)(hz:i.zero=aa z)(U:i.size=sz)(Z:z.cells.size=sz)(h0:0<sz)(hb:m*i.bytes<=140737488355328)(hm:m<=140737488355328)(u:n+m<=c):(Builtin.append_ #[t,xT] ty #[.slice a n c,.int .i64 (m:Int)]).run P w=(match a with|some a=>(storeCells (a.add (n*sz)) (Builtin.zeroCells z.cells m).toList).run P w|none=> .ok () w).andThen λ_ w'=> .ok (.slice a (n+m) c) w':=by
 have e1:(underlying xT).run P w= .ok (.int .i64) w:=eS hX;have e2:∀w:World,(typeInfo el).run P w= .ok i w:=λw=>by simp [typeInfo,hi]
 have e3:∀w:World,(zeroValue el).run P w= .ok z w:=λw=>by simp [zeroValue,typeInfo,hi,hz]
 have V:(sizeOf el).run P w= .ok sz w:=by simp [sizeOf,typeInfo,hi,U]
 have W:∀w:World,(asInt (su .i64 (m:Int))).run P w= .ok (m:Int) w:=λw=>by simp [asInt,asIntOf]
 have hw:=V9 m hm;have F:¬((m:Int)*(i.bytes:Int)>2^48):=by have:((m*i.bytes:Nat):Int)<=140737488355328:=ag;rw [Int.natCast_mul]at this;omega
 have I:¬((m:Int)<0):=ag;unfold Builtin.append_;simp only [sY,uh,pP,bM,eS hT,bQ,V,e1,bZ,if_true,W,hw,I,if_false,e2,F,mq,u,Bool.not_true,gE];by_cases G:m*sz=0
 .have O:m=0:=by rcases Nat.mul_eq_zero.1 G with h|h;exact h;omega
  subst O;simp only [uq,if_true,bZ,bQ];cases a<;>simp [bZ,pd,Builtin.zeroCells]
 .simp only [G,if_false,bM,e3,bQ,bZ];cases a<;>simp [bZ,pd]
theorem Jf{t xT ty el sz n m c:Nat}{z:Value}{olds:List Value}(hT:P.underlying t=aa (.slice el))(hX:P.underlying xT=aa (.int .i64))(hi:P.info? el=aa i)(hz:i.zero=aa z)(Z:i.size=sz)(h0:0<sz)(hb:m*i.bytes<=140737488355328)(hm:m<=140737488355328)(hnm:n+m<=140737488355328)(ho:(Builtin.firstCells sz n (.slice a n c)).run P w.drew= .ok ⟨olds⟩ w.drew)(hg:c<n+m)(h7:0<i.bytes)(h48:Builtin.nextslicecap (n+m) c*i.bytes<=281474976710656):(Builtin.append_ #[t,xT] ty #[.slice a n c,.int .i64 (m:Int)]).run P w= .ok (.slice (aa ⟨w.heap.size,0,ah⟩) (n+m) (grownCap w (n+m) c el)) (w.drew.alloc (.cells ((⟨olds⟩:Array Value)++⟨(Builtin.zeroCells z.cells m).toList⟩++Builtin.zeroCells z.cells (grownCap w (n+m) c el-(n+m))) el)):=by
 have hn:¬(n+m<=c):=ag;have F:¬(281474976710656<Builtin.nextslicecap (n+m) c*i.bytes):=ag;have h6:¬(i.bytes=0):=ag;have e1:(underlying xT).run P w= .ok (.int .i64) w:=eS hX;have e2:∀w:World,(typeInfo el).run P w= .ok i w:=λw=>by simp [typeInfo,hi]
 have e3:∀w:World,(zeroValue el).run P w= .ok z w:=λw=>by simp [zeroValue,typeInfo,hi,hz]
 have e4:(sizeOf el).run P w= .ok sz w:=by simp [sizeOf,typeInfo,hi,Z]
 have e5:∀w:World,(asInt (su .i64 (m:Int))).run P w= .ok (m:Int) w:=λw=>by simp [asInt,asIntOf]
 have V:(choose (.appendCap (n+m) c el)).run P w= .ok (grownCap w (n+m) c el) w.drew:=by rw [run_choose];rfl
 have G:(2:Nat)^48=281474976710656:=aw;have hw:=V9 m hm;have u:¬((m:Int)*(i.bytes:Int)>2^48):=by have:((m*i.bytes:Nat):Int)<=140737488355328:=ag;rw [Int.natCast_mul]at this;omega
 have U:¬((m:Int)<0):=ag;have I:¬(((n+m:Nat):Int)>IntKind.i64.max):=by have:IntKind.i64.max=9223372036854775807:=aw;rw [this];omega
 unfold Builtin.append_;simp only [sY,uh,pP,bM,eS hT,bQ,e4,e1,bZ,if_true,e5,hw,U,if_false,e2,u,mq,hn,I,false_and,Bool.not_true,gE,gt_iff_lt,G,F,V,run_askRoom,ho];by_cases O:m*sz=0
 .have W:m=0:=by rcases Nat.mul_eq_zero.1 O with h|h;exact h;omega
  subst W;simp only [uq,if_true,bZ,bQ,bM,e3,newRow,run_newObj];simp [Builtin.zeroCells];rfl
 .simp only [O,if_false,bM,e3,bQ,bZ,newRow,run_newObj];rfl
theorem Yd{x y:Operand}{t xT el sz by_ id nid k n m:Nat}{l ys:List SV}{rb:RB}{e:Operand->Value}(ho:o.op= .call {callee:= .builtin .append,args:= #[x,y],argTypes:= #[t,xT]})(hvs:v.cells.size=sz)(hx:av ρ (.sl id k n sz full) (e x))(hid:H id=aa (.row el l))(hr:ρ id=aa rb)(hb:cd ρ w rb (.row el l))(hin:k+n*sz<=l.length){news:List Value}(I:aD ρ ys news)(ha:cw ys=ab)(cx:ys.length=m*sz)(hrr:∀(a:Option Addr) (c:Nat),n+m<=c->(Builtin.append_ #[t,xT] o.type #[.slice a n c,e y]).run P w=(match a with|some a=>(storeCells (a.add (n*sz)) news).run P w|none=> .ok () w).andThen λ_ w'=> .ok (.slice a (n+m) c) w')(x6:∀(a:Option Addr) (c:Nat) (olds:List Value),(Builtin.firstCells sz n (.slice a n c)).run P w.drew= .ok ⟨olds⟩ w.drew->c<n+m->Builtin.nextslicecap (n+m) c*by_<=281474976710656->(Builtin.append_ #[t,xT] o.type #[.slice a n c,e y]).run P w= .ok (.slice (aa ⟨w.heap.size,0,ah⟩) (n+m) (grownCap w (n+m) c el)) (w.drew.alloc (.cells ((⟨olds⟩:Array Value)++⟨news⟩++Builtin.zeroCells v.cells (grownCap w (n+m) c el-(n+m))) el)))(hm:(n+m)*by_<=140737488355328)(hne:id≠nid)(hn:ρ nid=ah):∃v w' ρ',(execOp e o).run P w= .ok (.value v) w'/\cI ρ H w [(id,ah),(nid,aa (.row el ((l.drop k).take (n*sz)++ys)))] ρ' w'/\av ρ' (.sl nid 0 (n+m) sz af) v:=by
 have V:tj P ρ w (e x) sz n ((l.drop k).take (n*sz)):=qD hx hr hb hin;obtain⟨olds,_,x0,hro,U,F,_⟩:=V;have O:=x0 (w.drawn+1);have hnl:=I.length;have hx0:=hx;simp only [av]at hx;obtain⟨rb',a,c,h7,he,hnc,x5,h6⟩:=hx;rw [hr]at h7;cases h7;by_cases u:n+m<=c
 .by_cases Z:c=0
  .subst Z;obtain rfl:n=0:=ag;obtain rfl:m=0:=ag;have hy0:ys= []:=ug (by rw [cx];simp);subst hy0;rw [aD.nil_iff]at I;subst I;refine⟨.slice a 0 0,w,setR ρ nid ⟨0,0,0,ab⟩,ph ho ?_,?_,?_⟩
   .rw [he,hrr _ _ u];cases a<;>rfl
   .exact cI.move hne hid hr rfl hn (λi o hh=>by simp [foot]at hh) (.inl ⟨rfl,aq⟩) (Fr.refl _ _)
   .simp only [av];exact⟨_,a,0,gN _ _ _,rfl,ag,λh=>(by cases h),.inl rfl⟩
  .obtain⟨G,W,hcap⟩:=h6.resolve_left Z;rcases hb with⟨h8,_⟩|⟨_,ca,fz,hca,hz,hcs,hla,x7,hll⟩
   .rw [G]at h8;cases h8
   have h9:(n+m)*sz<=c*sz:=iV _ u;rw [nh]at h9;have hst:=wg (P:=P) (o:=rb.off+k+n*sz) news 0 hca hz ag (I.oneCell ha);have hps:(jU ca (rb.off+k+n*sz) news).size=ca.size:=tQ _ _ _ ag;refine⟨.slice a (n+m) c,World.putCells w rb.blk (rb.off+k+n*sz) news,setR ρ nid ⟨rb.blk,rb.off+k,rb.cap-k,af⟩,ph ho ?_,?_,?_⟩
   .rw [he,hrr _ _ u,W];simp only [qY,hst,qT];rfl
   .refine cI.move hne hid hr rfl hn ?_ (.inr ⟨rfl,_,fz,World.putCells_heap w rb.blk _ news hca,hz.put _ _ ag,?_,?_,?_,?_⟩) ?_
    .rintro i o2 ⟨h1,h2,h3⟩;exact .inl ⟨G,h2,by simp only at h3;omega⟩
    .rw [hps];simp only;omega
    .simp [cw]at U ha|-;exact⟨U,ha⟩
    .have e1:((jU ca (rb.off+k+n*sz) news).toList.drop (rb.off+k)).take (((l.drop k).take (n*sz)++ys)).length=aB (n*sz) (aG k ((ca.toList.drop rb.off).take l.length))++news:=by
      have h1:((l.drop k).take (n*sz)++ys).length=n*sz+news.length:=by rw [aW,F,hnl]
      rw [h1];apply ku;intro j;by_cases hj:j<n*sz+news.length
      .refine Ir ?_;by_cases h2:j<n*sz
       .rw [if_neg ag];rw [gP aA,ic h2,iS,vK ag,lU,sn]
       .rw [if_pos ag];refine Cz ?_;congr 1;simp;omega
      .rw [dI aA];rw [dI aA]
     rw [e1];exact((x7.drop k).take (n*sz)).append I
    .simp only [aW,F,cx];omega
    .exact Fr.putCells _ _ _ _ _ hca ag (λo2 h1 h2=>⟨G,rfl,ag⟩)
   .simp only [av];refine⟨_,a,c,gN _ _ _,rfl,u,λh=>(by cases h),.inr ⟨rfl,by rw [W];simp,dt⟩⟩
 .rw [he]at O;have hg:=x6 a c _ O ag (growslice_fits ag hm);have hge:=grownCap_ge w (n+m) c el;obtain⟨g1,g2⟩:=BH (ρ:=ρ) (w:=w) (nid:=nid) (el:=el) hro U I ha F cx hvs hge;refine⟨_,_,_,ph ho (by rw [he];exact hg),cI.move hne hid hr rfl hn (λi o2 hh=> .inr (by rw [hh.2.1];exact bH _)) g1 ?_,g2⟩;exact(Fr.refl _ w).drew.trans (Fr.alloc (λi o2=>foot rb (.row el l) i o2) w.drew _) (λ_ _ _ h=>h)
theorem XZ{el by_:Nat}(hz:jm P el=aa z)(u:z.atom=ab)(hs:dq P el=aa 1)(hb:oO P el=aa by_):∃i v,P.info? el=aa i/\i.zero=aa v/\v.cells= #[v]/\i.size=1/\i.bytes=by_/\∀ρ,av ρ z v:=by obtain⟨i,v,hi,hv,hr,ht⟩:=A9 hz;unfold dq at hs;unfold oO at hb;rw [hi]at hs hb;simp only [nq,Option.some.injEq]at hs hb;exact⟨i,v,hi,hv,(hr (λ_=>ah)).cells u,hs,hb,hr⟩
theorem XY(h:av ρ z v)(hv:v.cells= #[v])(m:Nat):aD ρ (aK m z) (Builtin.zeroCells v.cells m).toList:=by rw [hv,akP];exact aD.replicate h m
theorem XX(u:z.atom=ab)(m:Nat):cw (aK m z)=ab:=by simp only [cw,jg];intro y hy;rw [(List.mem_replicate.1 hy).2];exact u
theorem adU{R:eM}{x y:Operand}{t xT el by_ nid n m id k:Nat}{l:List SV}(ho:o.op= .call {callee:= .builtin .append,args:= #[x,y],argTypes:= #[t,xT]})(hT:P.underlying t=aa (.slice el))(hX:P.underlying xT=aa (.int .i64))(hz:jm P el=aa z)(h6:z.atom=ab)(hs:dq P el=aa 1)(hb:oO P el=aa by_)(U:0<by_)(hx:aZ R x=aa (.sl id k n 1 full))(hid:H id=aa (.row el l))(V:k+n*1<=l.length)(hy:aZ R y=aa (.i (m:Int)))(hm:(n+m)*by_<=140737488355328)(hne:nid≠id):LT P o R H [id] [(id,ah),(nid,aa (.row el ((l.drop k).take (n*1)++aK m z)))] (aa (.sl nid 0 (n+m) 1 af)):=by
 refine LT.of_run cJ λe w ρ h1 h2 _ F=>?_
 have hx2:=h1 x fG _ hx;have O:=h1 y fG _ hy;simp only [av]at O;obtain⟨rb,hr,h7⟩:=h2 id aq _ hid;obtain⟨i,v,hi,hv,hvc,W,G,h9⟩:=XZ hz h6 hs hb;have hnm:n+m<=140737488355328:=jP (Nat.le_mul_of_pos_right _ U) hm;have Z:m*i.bytes<=140737488355328:=by rw [G];exact jP (iV _ (by omega)) hm
 obtain⟨v2,w',ρ',a1,a2,a3⟩:=Yd (w:=w) (H:=H) (nid:=nid) (t:=t) (xT:=xT) (by_:=by_) (v:=v) ho (by rw [hvc];rfl) hx2 hid hr h7 V (XY (h9 ρ) hvc m) (XX h6 m) aq
  (λa c I=>by rw [O];exact Yc hT hX hi hv W (by rw [hvc];rfl) (by decide) Z (by omega) I)
  (λa c olds h8 hg h48=>by rw [O];exact Jf hT hX hi hv W (by decide) Z (by omega) hnm h8 hg (by rw [G];exact U) (by rw [G];exact h48))
  hm (λe=>hne e.symm) (F nid (aa (.row el ((l.drop k).take (n*1)++aK m z))) aq AZ)
 exact⟨_,w',ρ',a1,a2,.inl ⟨v2,rfl,λu hu=>by cases hu;exact a3⟩⟩
end
theorem RD{x y:Operand}{t xT:Nat}(el by_ id off n m:Nat)(full:Bool)(l:List SV)(z:SV)(ho:o.op= .call {callee:= .builtin .append,args:= #[x,y],argTypes:= #[t,xT]})(hT:P.underlying t=aa (.slice el))(hX:P.underlying xT=aa (.int .i64))(hz:jm P el=aa z)(G:z.atom=ab)(hs:dq P el=aa 1)(hb:oO P el=aa by_)(F:0<by_)(hx:ev R x=aa (.sl id off n 1 full))(hid:hk H id=aa (.row el l))(hin:off+n*1<=l.length){v:Int}(hy:ev R y=aa (.i v))(hv:v=(m:Int))(hm:(n+m)*by_<=140737488355328)(hl:H.length<=L)(h:k (aa (.sl L 0 (n+m) 1 af)) [(id,ah),(L,aa (.row el ((l.drop off).take (n*1)++aK m z)))] [id] (L+1)):cR P o R H L k:=by subst hv;have u:=gn hl hid;exact K9 u aq (adU ho hT hX hz G hs hb F (bq hx) (gb hid) hin (bq hy) hm ag) h
open Go.Proofs
def jI:List (List UInt8):= [[0],[1],[2],[0,1],[0,2],[1,2],[0,1,2]]
abbrev aN(ds:List UInt8):List SV:=ds.flatMap λd=> [.u8 0,.u8 d]
abbrev gC:List SV:= [.u8 5,.u8 0,.u8 0,.u8 0,.u8 0,.u8 0,.u8 0,.u8 0,.u8 0,.u8 0,.u8 0,.u8 0,.u8 0,.u8 0,.u8 0,.u8 0]
abbrev ln(ep:UInt64)(m:SV):List SV:=gC++ [.u64 ep,m]
theorem Gz{p:List UInt8->Prop}(h:p [0]/\p [1]/\p [2]/\p [0,1]/\p [0,2]/\p [1,2]/\p [0,1,2]):∀ds,ds∈jI->p ds:=by
 intro ds hd;simp only [jI,gy,List.not_mem_nil,or_false]at hd;rcases hd with rfl|rfl|rfl|rfl|rfl|rfl|rfl
 .exact h.1
 .exact h.2.1
 .exact h.2.2.1
 .exact h.2.2.2.1
 .exact h.2.2.2.2.1
 .exact h.2.2.2.2.2.1
 .exact h.2.2.2.2.2.2
theorem qA(sel:List Nat):∀ds,bu sel (aN ds)=aa (aN ds)
 | []=>rfl
 |d::ds=>by
  have h:=qA sel ds;simp only [aN,List.flatMap_cons,oz,jA,bu,bG]at h|-;rw [h]
theorem abj(d:UInt8):aQ 167 [.agg [.u8 0,.u8 d]] [] (.b (decide (d>=cX (aU 4)))) []:=by refine aL (fn:=Tryz.f167) ?_;exact AW
theorem abl(f:Bool):∀ds,ds∈jI->aM 188 [.sl 0 0 ds.length 2 f,.fn 167 []] [an (aN ds)] (.i (-1)) []:=by
 refine Gz ⟨?_,?_,?_,?_,?_,?_,?_⟩;all_goals
  refine aL (fn:=Tryz.f188) ?_;refine zp ?_;refine zW (pC dw fq bD 4) ?_;refine Ex ?_;repeat
   refine zW (aE [] [] ab ((abj _))) ?_;refine zc ?_
  exact gH
theorem abm:aQ 188 [.slnil,.fn 167 []] [] (.i (-1)) []:=by refine aL (fn:=Tryz.f188) ?_;refine zp ?_;refine Ew ?_;exact gI
theorem abh(f:Bool){ds:List UInt8}(hd:ds∈jI):aM 166 [.sl 0 0 ds.length 2 f,.fn 167 []] [an (aN ds)] (.b af) []:=by have q:=abl f ds hd;refine aL (fn:=Tryz.f166) ?_;refine zp ?_;refine zW (aE [0] [af] ab q) ?_;exact gH
theorem abi:aQ 166 [.slnil,.fn 167 []] [] (.b af) []:=by refine aL (fn:=Tryz.f166) ?_;refine zp ?_;refine zW (aE [] [] ab abm) ?_;exact gI
theorem aa8(f:Bool){ds:List UInt8}(hd:ds∈jI):aM 130 [.sl 0 0 ds.length 2 f] [an (aN ds)] (.b ab) []:=by refine aL (fn:=Tryz.f130) ?_;refine zp ?_;refine zW (aE [0] [af] ab ((abh f hd))) ?_;exact gH
theorem aa9:aQ 130 [.slnil] [] (.b ab) []:=by refine aL (fn:=Tryz.f130) ?_;refine zp ?_;refine zW (aE [] [] ab abi) ?_;exact gI
theorem abk(f:Bool):∀d:UInt8,d=0\/d=1\/d=2->∀ds,ds∈jI->aM 170 [.sl 0 0 ds.length 2 f,.agg [.u8 0,.u8 d]] [an (aN ds)] (.i (if d∈ds then(ds.idxOf d:Int)else-1)) []:=by
 rintro d (rfl|rfl|rfl);all_goals
  refine Gz ⟨?_,?_,?_,?_,?_,?_,?_⟩;all_goals
   refine aL (fn:=Tryz.f170) ?_;refine zp ?_;refine zW (pC dw fq bD 4) ?_;refine Ex ?_;exact gH
theorem aba(f:Bool){d:UInt8}(h:d=0\/d=1\/d=2){ds:List UInt8}(hd:ds∈jI):aM 132 [.sl 0 0 ds.length 2 f,.agg [.u8 0,.u8 d]] [an (aN ds)] (.b (decide (d∈ds))) []:=by
 have q:=abk f d h ds hd;by_cases hm:d∈ds
 .have e:decide (d∈ds)=decide (((ds.idxOf d:Nat):Int)>=0):=by simp [hm]
  rw [if_pos hm]at q;exact Wm
 .have e:decide (d∈ds)=af:=by simp [hm]
  rw [if_neg hm]at q;exact Wm
theorem abb(d:UInt8):aQ 132 [.slnil,.agg [.u8 0,.u8 d]] [] (.b af) []:=by
 have q:aQ 170 [.slnil,.agg [.u8 0,.u8 d]] [] (.i (-1)) []:=by refine aL (fn:=Tryz.f170) ?_;refine zp ?_;refine Ew ?_;exact gI
 refine aL (fn:=Tryz.f132) ?_;refine zp ?_;refine yl ?_;refine zW (aE [] [] ab q) ?_;exact gI
theorem F6(ep:UInt64)(f:Bool){d:UInt8}(h:d=0\/d=1\/d=2){ds:List UInt8}(hd:ds∈jI):aM 98 [.agg (ln ep (.sl 0 0 ds.length 2 f)),.agg [.u8 0,.u8 d]] [an (aN ds)] (.b (decide (d∈ds))) []:=by have q:=aba f h hd;refine aL (fn:=Tryz.f98) ?_;refine zp ?_;refine yj ?_;refine zW (aE [0] [af] ab q) ?_;exact gH
theorem ab2(ep:UInt64)(d:UInt8):aQ 98 [.agg (ln ep .slnil),.agg [.u8 0,.u8 d]] [] (.b af) []:=by refine aL (fn:=Tryz.f98) ?_;refine zp ?_;refine yj ?_;refine zW (aE [] [] ab ((abb d))) ?_;exact gI
theorem ab1:aQ 97 [.slnil] [] .slnil []:=by refine aL (fn:=Tryz.f97) ?_;exact AW
theorem Qk(f:Bool):∀ds,ds∈jI->aM 97 [.sl 0 0 ds.length 2 f] [an (aN ds)] (.sl 1 0 ds.length 2 af) [ao 94 (aN ds)]:=by
 refine Gz ⟨?_,?_,?_,?_,?_,?_,?_⟩;all_goals
  refine aL (fn:=Tryz.f97) ?_;refine zM ?_;exact bE [0,2]
theorem ab0(ep:UInt64)(h1:decide (ep<aF (aU 1))=af)(h2:decide (ep>aF (aU 1099511627776))=af):aQ 96 [.agg (ln ep .slnil)] [] (.b ab) []:=by refine Ws ?_;refine zW (aE [] [] ab aa9) ?_;refine zc ?_;refine Ew ?_;exact gI
theorem Qj(ep:UInt64)(h1:decide (ep<aF (aU 1))=af)(h2:decide (ep>aF (aU 1099511627776))=af)(f:Bool):∀ds,ds∈jI->aM 96 [.agg (ln ep (.sl 0 0 ds.length 2 f))] [an (aN ds)] (.b ab) []:=by
 intro ds hd;have q:=aa8 f hd;revert ds;refine Gz ⟨?_,?_,?_,?_,?_,?_,?_⟩;all_goals
  intro q;refine Ws ?_;refine zW (aE [0] [ab] ab q) ?_;refine zc ?_;refine xe ?_;refine zl ?_;repeat
   refine zW (aE [] [] ab ((aeW _ _ _ _))) ?_;refine zc ?_
  exact gH
section
variable {P:Program} {ops:Array Oper} {N B:Nat}
theorem ajq{o:Oper}{R:eM}{H:cG}{e:En}{L L':Nat}{a:Act}{w:World}(hd:e.lg.dst=o.dst)(O:∀d,o.dst=aa d->d<N)(hs:dO N B L ρ R H a w)(U:L<=L')(hW:∀id I,(id,I)∈e.W->id<L'){rv:Value}{w':World}(hc:cI ρ H w e.W ρ' w')(hv:∀v,e.out=aa v->av ρ' v rv):dO N B L' ρ' (dZ R (wr e)) (dZ H e.W) (a.put o.dst rv) w'/\Ev ρ H w ρ' (dZ H e.W) w':=by
  have F:=hc.evo (H:=H) (λid I hm=>rfl) hs.heap hs.sep;rw [wx]at F;refine⟨⟨?_,?_,F.heap,F.sep,?_,?_⟩,F.ev⟩
  .cases u:o.dst<;>simp [Act.put,u,hs.size]
  .intro t v ht;cases u:o.dst with
   |none=>
    rw [u]at hd;simp only [wr,hd,dZ,vB]at ht;simp only [Act.put];exact(hs.regs t v ht).ext F.ext
   |some d=>
    rw [u]at hd;have hdN:d<a.tmps.size:=by rw [hs.size];exact O d u
    simp only [wr,hd,dZ,gJ,vB]at ht;simp only [Act.put];by_cases G:t=d
    .subst G;simp at ht;exact Np
    .have:(t==d)=af:=by simpa using G
     simp only [this]at ht;rw [ib,nI (λe=>G e.symm),<-ib];exact(hs.regs t v ht).ext F.ext
  .intro id hid;cases hr:ρ' id with
   |none=>rfl
   |some rb=>
    rcases hc.dom id rb hr with h|⟨I,hm⟩
    .rw [hs.fresh id ag]at h;cases h
    .have:=hW id I hm;omega
  .have:(a.put o.dst rv).defers=a.defers:=by cases u:o.dst<;>simp [Act.put]
   rw [this];exact hs.dfr.fr F.fr
theorem SJ{r:Option Nat}{n:Nat}{Q:Exit->Act->World->Prop}{R':eM}{O:cG}{Lf:Nat}{u:List Nat}(hN:∀(i:Nat) (o:Oper) (d:Nat),ops[i]?=aa o->o.dst=aa d->d<N):
  ∀(F:List Oper) (k:Nat) (R:eM) (H:cG) (L:Nat) (es:List En) (ρ:bw) (a:Act) (w:World),(∀j,j<F.length->F[j]?=ops[k+j]?)->tg P ops F R H L es R' O Lf->dO N B L ρ R H a w->
   (∀I w' ρ',dO N B Lf ρ' R' O I w'->Ev ρ H w ρ' O w'->wpOpsIn (Fw r) n P ops Q u I w')->wpOpsIn (Fw r) n P ops Q (List.range' k F.length++u) a w
 | [],k,R,H,L,es,ρ,a,w,_,hr,hs,hk=>by
  obtain⟨rfl,rfl,rfl,rfl⟩:=hr;exact hk a w ρ hs (Ev.refl _ _ _)
 |o::F,k,R,H,L,es,ρ,a,w,hos,hr,hs,hk=>by
  obtain⟨e,U,L',rfl,hg,hL,hW,W⟩:=hr;have h0:ops[k]?=aa o:=by have:=hos 0 (by simp);simpa using this.symm
  rw [jM,List.range'_succ,oz,wpOpsIn_cons];refine Ga (L':=L') h0 hg (λd hd=>hN k o d h0 hd) (λ_ _=>rfl) (λ_ _=>rfl) hs (λid ob hm hF=>hs.fresh id ((hW id ob hm).2 hF)) hL (λid ob hm=>(hW id ob hm).1) ?_;intro I w' ρ' Z V _;refine SJ hN F (k+1) _ _ L' U ρ' I w' (λj hj=>by have:=hos (j+1) (by simp;omega);simp only [pP]at this;rw [this];congr 1;omega) W Z ?_;intro a2 w2 ρ2 h6 G;exact hk a2 w2 ρ2 h6 (V.trans G)
end
structure qX(P:Program)(N:Nat)(ops:Array Oper)(Q:RL->HL->Nat->Prop)(os:List Oper)(R:RL)(H:HL)(L:Nat):Prop where
 run:∀(r:Option Nat) (n B:Nat) (ρ:bw) (a:Act) (w:World) (k:Nat) (K:Exit->Act->World->Prop),(∀j,os[j]?=ops[k+j]?)->dO N B L ρ (rg R) (hg H) a w->H.length<=L->
  (∀a' w' R' H' L' ρ',Q R' H' L'->H'.length<=L'->dO N B L' ρ' (rg R') (hg H') a' w'->Ev ρ (hg H) w ρ' (hg H') w'->K .normal a' w')->wpOpsIn (Fw r) n P ops K (List.range' k os.length) a w
section
variable {T:TT} {P:Program} {N:Nat} {ops:Array Oper}
theorem Tx{Q:RL->HL->Nat->Prop}{U:List Oper}{L:Nat}(hT:fC P T)(hd:rz N ops=ab)(h:sP T P ops U R H L [] λR' V L' _=>Q R' V L'):qX P N ops Q U R H L:=by
 refine⟨λr n B ρ a w k K hos hs hl hK=>?_⟩;have hN:∀(i:Nat) (o:Oper) (d:Nat),ops[i]?=aa o->o.dst=aa d->d<N:=by intro i o d ho u;simp only [rz,jg]at hd;have:=hd o EK;simpa [u]using this
 obtain⟨es,R2,W,Z,I,hl2,G⟩:=AF hT h hl;exact Ha hN U k _ _ _ es ρ a w hos I hs (λa' w' ρ' O F=>hK a' w' R2 W Z ρ' G hl2 O F)
theorem wo{Q:RL->HL->Nat->Prop}{pre os:List Oper}{L:Nat}(hT:fC P T)(hd:rz N ops=ab)(h:sP T P ops pre R H L [] λR' H' L' _=>qX P N ops Q os R' H' L'):qX P N ops Q (pre++os) R H L:=by
 refine⟨λr n B ρ a w k K hos hs hl hK=>?_⟩;have hN:∀(i:Nat) (o:Oper) (d:Nat),ops[i]?=aa o->o.dst=aa d->d<N:=by intro i o d ho u;simp only [rz,jg]at hd;have:=hd o EK;simpa [u]using this
 obtain⟨es,R2,H2,L2,V,hl2,O⟩:=AF hT h hl;rw [aW,List.range'_append_1.symm];refine SJ hN pre k _ _ _ es ρ a w (λj hj=>by rw [<-hos,gP hj]) V hs (λa' w' ρ' W G=>?_);refine O.run r n B ρ' a' w' (k+pre.length) K (λj=>?_) W hl2 (λa2 w2 R3 H3 L3 ρ3 U I Z F=>hK a2 w2 R3 H3 L3 ρ3 U I Z (G.trans F));have:=hos (pre.length+j);rw [iR ag,show pre.length+j-pre.length=j by omega]at this;rw [this];congr 1;omega
theorem wu{M:Option Nat->Prop}{A id:Nat}{Q:Exit->RL->HL->Nat->Prop}{L:Nat}{V:List Oper}(ho:ops.toList=V)(h:qX P N ops (λF u L'=>Q .normal F u L') V R H L):bp P M N A (.region id ops af) Q R H L:=by
 refine⟨λr nn B ρ a w hM hs hl=>?_⟩;refine wpIn_region ?_;have U:ops.size=V.length:=by rw [<-ho];simp
 rw [List.range_eq_range',U];exact h.run r nn B ρ a w 0 _ (λj=>by rw [<-ho,lU,ig]) hs hl (λW w' F u L' ρ' hq I O G=>⟨F,u,L',ρ',hq,I,O,G.toA⟩)
end
def Gw:Nat->List Nat->Bool
 |_,[]=>af
 |x,y::ys=>match dD x y with|true=>ab|false=>Gw x ys
def AM(J:List Nat)(T:TT)(P:Program)(M:Option Nat->Prop)(N A:Nat)(c:Code):(Exit->RL->HL->Nat->Prop)->RL->HL->Nat->Prop:=
 @Code.rec (λ_=>(Exit->RL->HL->Nat->Prop)->RL->HL->Nat->Prop)
  (λQ=>Q .normal)
  (λid ops u Q R H L=>match Gw id J with
   |true=>bp P M N A (.region id ops u) Q R H L
   | false => sw T P M N A (.region id ops u) Q R H L)
  (λ_ _ F G Q=>F λe=>match e with| .normal=>G Q|e=>Q e)
  (λc _ _ I O Q R H L=>match ev R c with
   |some (.b t)=>(t=ab->I Q R H L)/\(t=af->O Q R H L)
   | _ => False)
  (λid _ ih Q=>ih λe=>match e with
   | .exit i=>match dD i id with|true=>Q .normal|false=>Q (.exit i)
   | e => Q e)
  (λc _ Q=>bp P M N A (.loop c) Q)
  (λf ps x y _ _ Q=>bp P M N A (.rangeFunc f ps x y) Q)
  (λid Q=>Q (.exit id))
  (λc _ Q=>bp P M N A (.scope c) Q)
  (λl Q=>bp P M N A (.label l) Q)
  (λl Q=>bp P M N A (.goto l) Q)
  (λQ=>Q .ret)
  (λs Q=>bp P M N A (.refuse s) Q) c
theorem mn{J:List Nat}{T:TT}{P:Program}{M:Option Nat->Prop}{N A:Nat}(hT:fC P T)(hm:P.follows .mixedOrders=ab):∀{c:Code} {Q:Exit->RL->HL->Nat->Prop} {R:RL} {H:HL} {L:Nat},jR N c=ab->
  AM J T P M N A c Q R H L->bp P M N A c Q R H L
 | .skip,Q,R,H,L,_,h=>⟨λr n B ρ a w hM hs hl=>wpIn_skip ⟨R,H,L,ρ,h,hl,hs,fT.refl _ _ _ _⟩⟩
 | .exit id,Q,R,H,L,_,h=>⟨λr n B ρ a w hM hs hl=>wpIn_exit ⟨R,H,L,ρ,h,hl,hs,fT.refl _ _ _ _⟩⟩
 | .ret,Q,R,H,L,_,h=>⟨λr n B ρ a w hM hs hl=>wpIn_ret ⟨R,H,L,ρ,h,hl,hs,fT.refl _ _ _ _⟩⟩
 | .region id ops draw,Q,R,H,L,hc,h=>by
  have h:(match Gw id J with
   |true=>bp P M N A (.region id ops draw) Q R H L
   | false => sw T P M N A (.region id ops draw) Q R H L) := h
  cases hb:Gw id J with
  |true=>rw [hb]at h;exact h
  |false=>rw [hb]at h;exact mV hT hm hc h
 | .seq x y,Q,R,H,L,hc,h=>by
  simp only [jR,fI]at hc;have h:AM J T P M N A x (λe=>match e with| .normal=>AM J T P M N A y Q|e=>Q e) R H L:=h;exact(mn hT hm hc.1 h).seq (λR H L h=>mn hT hm hc.2 h) (λe R H L hne h=>by cases e<;>first|exact absurd rfl hne|exact h)
 | .cond c x y,Q,R,H,L,hc,h=>by
  simp only [jR,fI]at hc;have h:(match ev R c with
   |some (.b t)=>(t=ab->AM J T P M N A x Q R H L)/\(t=af->AM J T P M N A y Q R H L)
   | _ => False) := h
  split at h
  .rename_i t ht;refine⟨λr n B ρ a w hM hs hl=>?_⟩;have U:a.eval c= .bool t:=by
    cases c with
    |tmp k=>
     have h1:=hs.regs k (.b t) pN;simp only [av]at h1;exact h1
    |const v=>
     have h1:=(qo (ρ:=ρ) ht).1;simp only [av]at h1;exact h1
    |func f=>cases ht
    |global g=>cases ht
   refine wpIn_cond_split U (λht=>(mn hT hm hc.1 (h.1 ht)).run r n B ρ a w hM hs hl) (λht=>(mn hT hm hc.2 (h.2 ht)).run r n B ρ a w hM hs hl)
  .exact h.elim
 | .block id c,Q,R,H,L,hc,h=>by
  refine⟨λr n B ρ a w hM hs hl=>?_⟩;have h:AM J T P M N A c (λe=>match e with
   | .exit i=>match dD i id with|true=>Q .normal|false=>Q (.exit i)
   | e => Q e) R H L := h
  simp only [jR]at hc;refine wpIn_block (wpIn_mono ((mn hT hm hc h).run r n B ρ a w hM hs hl) ?_);rintro e a2 V ⟨O,G,I,ρ2,u,F⟩;cases e with
  |exit i=>
   simp only [Exit.inBlock];cases hb:dD i id with
   |true=>simp only [hb]at u;rw [if_pos (gY hb)];exact⟨O,G,I,ρ2,u,F⟩
   |false=>simp only [hb]at u;rw [if_neg (λe=>by subst e;simp at hb)];exact⟨O,G,I,ρ2,u,F⟩
  |_=>exact⟨O,G,I,ρ2,u,F⟩
 | .loop c,Q,R,H,L,_,h=>h
 | .rangeFunc f ps x y,Q,R,H,L,_,h=>h
 | .scope c,Q,R,H,L,_,h=>h
 | .label l,Q,R,H,L,_,h=>h
 | .goto l,Q,R,H,L,_,h=>h
 | .refuse s,Q,R,H,L,_,h=>h
section
variable {P:Program} {ρ:bw} {H:cG} {w:World}
end
section
variable {T:TT} {P:Program} {N:Nat} {ops:Array Oper}
theorem akn{B L:Nat}{o:Oper}{R:eM}{H:cG}{a:Act}{w:World}{t:Bool}(hs:dO N B L ρ R H a w)(ht:nU ops o R=aa t):Region.wanted o (yielded ops a.tmps)=t:=by
 unfold nU at ht;unfold Region.wanted;split at ht
 .rename_i O;simp only [O];cases ht;rfl
 .rename_i j I O;simp only [O];cases G:(ops[j]?).bind (·.dst)with
  |none=>rw [G]at ht;cases ht
  |some s=>
   rw [G]at ht;simp only [ur]at ht;cases F:R s with
   |none=>rw [F]at ht;cases ht
   |some v=>
    rw [F]at ht;cases v with
    |b b=>
     have u:=hs.regs s _ F;simp only [av]at u;have U:yielded ops a.tmps j=aa b:=by
      unfold yielded;rw [G,ur];have V:s<a.tmps.size:=by
       refine Nat.lt_of_not_le λhlt=>?_
       rw [ib,Array.getElem?_eq_none hlt]at u;cases u
      have:a.tmps[s]?=aa (.bool b):=by rw [ib,pO V]at u;rw [pO V];exact congrArg aa u
      rw [this]
     rw [U];cases ht;cases b<;>cases I<;>rfl
    |tup l=>
     cases l with
     |cons _ _=>cases ht
     |nil=>
      cases ht;have u:=hs.regs s _ F;simp only [av,aD]at u;obtain⟨cs,e,rfl⟩:=u;have U:yielded ops a.tmps j=ah:=by
       unfold yielded;rw [G,ur];cases hg:a.tmps[s]? with
       |none=>rfl
       |some x=>rw [ib,hg]at e;simp only [Option.getD_some]at e;subst e;rfl
      rw [U];cases I<;>rfl
    |_=>cases ht
end
end Go.Sh
namespace Go.Sh
open Go.MapKept
variable{es:Array MapEntry}{R:eM}{clock:Nat}{o:Oper}{m:Operand}{zk:SV}{d:TypeDesc}
def HX:SV->Option Value
 | .i n=>aa (.int .i64 n)
 | .u8 x=>aa (.int .u8 (x.toNat:Int))
 | .u16 x=>aa (.int .u16 (x.toNat:Int))
 | .u32 x=>aa (.int .u32 (x.toNat:Int))
 | .u64 x=>aa (.int .u64 (x.toNat:Int))
 | .b x=>aa (.bool x)
 | .s l=>aa (.string ⟨⟨l⟩⟩)
 |_=>ah
def Eh:List SV->Option (List Value)
 | []=>aa []
 |x::xs=>match HX x with
  |some v=>match Eh xs with|some vs=>aa (v::vs)|none=>ah
  |none=>ah
def oV:SV->Option Value
 | .agg l=>match Eh l with|some c=>aa (.agg ⟨c⟩)|none=>ah
 |x=>HX x
theorem VI{ρ:bw}{x:SV}{u:Value}(h:HX x=aa u):(∀v,av ρ x v↔v=u)/\x.atom=ab:=by cases x<;>simp only [HX,Option.some.injEq]at h<;>first|(subst h;exact⟨λv=>gO,rfl⟩)|cases h
theorem VH{ρ:bw}:∀{l:List SV} {c:List Value},Eh l=aa c->(∀vs,aD ρ l vs↔vs=c)/\cw l=ab
 | [],c,h=>by simp only [Eh,Option.some.injEq]at h;subst h;exact⟨λvs=>by simp only [aD],rfl⟩
 |x::xs,c,h=>by
  simp only [Eh]at h;split at h
  .rename_i v hv;split at h
   .rename_i vs u;cases h;obtain⟨h1,a1⟩:=VI (ρ:=ρ) hv;obtain⟨h2,a2⟩:=VH (ρ:=ρ) u;refine⟨λG=>?_,by simp only [cw,vA,a1,Bool.true_and];exact a2⟩;simp only [aD];constructor
    .rintro⟨y,ys,rfl,hy,F⟩;rw [(h1 y).1 hy,(h2 ys).1 F]
    .rintro rfl;exact⟨v,vs,rfl,(h1 v).2 rfl,(h2 vs).2 rfl⟩
   .cases h
  .cases h
theorem AP{ρ:bw}{x:SV}{u v:Value}(h:oV x=aa u):av ρ x v↔v=u:=by
 cases x with
 |agg l=>
  simp only [oV]at h;split at h
  .rename_i c hc;cases h;obtain⟨h1,a1⟩:=VH (ρ:=ρ) hc;simp only [av,a1,true_and];constructor
   .rintro⟨cs,rfl,hr⟩;rw [(h1 cs).1 hr]
   .rintro rfl;exact⟨c,rfl,(h1 c).2 rfl⟩
  .cases h
 |_=>simp only [oV]at h;exact(VI (ρ:=ρ) h).1 v
section
variable {P:Program} {ρ:bw} {H:cG} {w w':World}
theorem cI.newObj{nid:Nat}{o:Obj}(hn:ρ nid=ah)(ho:2<=jT o):cI ρ H w [(nid,aa (.ext (.lit o)))] (setR ρ nid ⟨w.heap.size,0,0,af⟩) (w.alloc o):=by
 have he:fK ρ (setR ρ nid ⟨w.heap.size,0,0,af⟩):=fK.setR _ hn;refine⟨he,?_,?_,Fr.alloc _ _ _,?_,?_⟩
 .intro id r hr;by_cases e:id=nid
  .subst e;exact .inr ⟨_,lx.2 rfl⟩
  .rw [lO ρ _ e]at hr;exact .inl hr
 .intro id x hx;simp at hx;obtain⟨rfl,rfl⟩:=hx;exact⟨_,gN _ _ _,⟨ho,rfl⟩,alloc_heap_new w o⟩
 .intro id x r k F hm hr hf;simp at hm;obtain⟨rfl,rfl⟩:=hm;rw [gN]at hr;cases hr;right;simp only [foot,YB.foot]at hf;omega
 .intro i j bi u ri G hne hi hj;simp at hi hj;exact EB
theorem cI.putObj{id:Nat}{o o':Obj}{rb:RB}(hid:H id=aa (.ext (.lit o)))(hr:ρ id=aa rb)(hb:w.heap[rb.blk]?=aa o)(u:rb.off=0)(ho:2<=jT o)(hk:jT o'=jT o):cI ρ H w [(id,aa (.ext (.lit o')))] ρ {w with heap:=w.heap.setIfInBounds rb.blk o'}:=by
 obtain⟨s1,s2⟩:=heap_set (o':=o') hb;refine cI.put hid hr rfl (λk o h=>h) ⟨⟨ag,u⟩,s1⟩ ⟨rfl,rfl,rfl,aq,λk x hx=>?_⟩;by_cases hk2:k=rb.blk
 .subst hk2;rw [hb]at hx;cases hx;show lz _ o (w.heap.setIfInBounds rb.blk o')[rb.blk]?
  rw [s1];cases o with
  |cells c t fz=>simp [jT]at ho
  |_=>exact .inr ⟨⟨0,rfl⟩,ag,_,rfl,hk⟩
 .show lz _ x (w.heap.setIfInBounds rb.blk o')[k]?
  rw [s2 k hk2,hx];exact lz.refl _ _
theorem aey{t nid:Nat}(ho:o.op= .makeMap t ah):LT P o R H [] [(nid,aa (.ext (.lit (.map #[] 0))))] (aa (.mp nid)):=by
 refine LT.of_run cJ λe w ρ _ _ _ hn=>?_
 refine⟨.value (.map (aa w.heap.size)),w.alloc (.map #[] 0),_,by simp only [execOp,ho,Option.map_none];rfl,cI.newObj (hn nid (aa (.ext (.lit (.map #[] 0)))) aq aq) t9,.inl ⟨_,rfl,?_⟩⟩;intro v hv;cases hv;exact NP
theorem aen{t Z et id:Nat}{k x:Operand}{zx:SV}{u O:Value}(ho:o.op= .insert t m k x\/o.op= .mapUpdate t m k x)(hm:P.underlying t=aa (.map Z et))(hd:P.underlying Z=aa d)(em:aZ R m=aa (.mp id))(ek:aZ R k=aa zk)(ex:aZ R x=aa zx)(W:oV zk=aa u)(hx:oV zx=aa O)(hb:H id=aa (.ext (.lit (.map es clock))))(F:IsKey d u)(hf:Instr.findNow d u es.toList 0=aa ah):LT P o R H [id] [(id,aa (.ext (.lit (.map (es.push ⟨u,O,clock⟩) (clock+1)))))] ah:=by
 refine LT.of_run (by rcases ho with h|h<;>simp [h]) λe w ρ h1 h2 _ _=>?_
 have g1:=h1 m (by rcases ho with h|h<;>simp [h,Op.operands]) _ em;have g2:=(AP W).1 (h1 k (by rcases ho with h|h<;>simp [h,Op.operands]) _ ek);have g3:=(AP hx).1 (h1 x (by rcases ho with h|h<;>simp [h,Op.operands]) _ ex);simp only [av]at g1;obtain⟨rb,hr,he⟩:=g1;obtain⟨h6,I,U⟩:=h2 id aq _ hb;rw [hr]at I;cases I;obtain⟨⟨_,G⟩,hw⟩:=U;refine⟨.skip,_,ρ,?_,cI.putObj hb hr hw G t9 t9,.inr ⟨rfl,rfl⟩⟩;have V:∀(t:TypeId) (d:TypeDesc),P.underlying t=aa d->(underlying t).run P w= .ok d w:=λt d h=>eS h
 have key:(Instr.mapUpdate t (.map (aa rb.blk)) u O).run P w= .ok () {w with heap:=w.heap.setIfInBounds rb.blk (.map (es.push ⟨u,O,clock⟩) (clock+1))}:=by simp only [Instr.mapUpdate,bM,V _ _ hm,MapKept.run_getObj_map hw,MapKept.run_checkKey hd F,MapKept.run_findKey hd hf,MapKept.run_setObj_map _ hw,bQ]
 rcases ho with h|h<;>simp only [execOp,h,he,g2,g3,bM,key,bQ,bZ]
theorem aew{t V et id:Nat}{k:Operand}{zv:SV}{U v:Value}{i:Nat}(ho:o.op= .lookup t m k ab)(hm:P.underlying t=aa (.map V et))(hd:P.underlying V=aa d)(Z:aZ R m=aa (.mp id))(W:aZ R k=aa zk)(O:oV zk=aa U)(hb:H id=aa (.ext (.lit (.map es clock))))(u:IsKey d U)(hf:Instr.findNow d U es.toList 0=aa (aa (i,v)))(hz:oV zv=aa v):LT P o R H [id] [] (aa (.tup [zv,.b ab])):=by
 refine LT.pure cJ λe w ρ h1 h2=>?_
 have g1:=h1 m dj _ Z;have g2:=(AP O).1 (h1 k dj _ W);simp only [av]at g1;obtain⟨rb,hr,he⟩:=g1;obtain⟨h6,F,G⟩:=h2 id aq _ hb;rw [hr]at F;cases F;obtain⟨_,hw⟩:=G;have I:∀(t:TypeId) (d:TypeDesc),P.underlying t=aa d->(underlying t).run P w= .ok d w:=λt d h=>eS h
 refine⟨.tuple #[v,.bool ab],?_,?_⟩
 .simp only [execOp,ho,he,g2,Instr.lookup,bM,I _ _ hm,MapKept.run_getObj_map hw,MapKept.run_checkKey hd u,MapKept.run_findKey hd hf,bQ,bZ,if_true]
 .simp only [av];exact⟨[v,.bool ab],rfl,aD.cons ((AP hz).2 rfl) (aD.cons gO (aD.nil_iff.2 rfl))⟩
end
section
variable {P:Program} {o:Oper} {R:RL} {H:HL} {L:Nat} {k:K1}
theorem GJ{t:Nat}(ho:o.op= .makeMap t ah)(h:k (aa (.mp L)) [(L,aa (.ext (.lit (.map #[] 0))))] [] (L+1)):cR P o R H L k:=rM (aey ho) h
theorem DD{t I Z:Nat}(id:Nat)(F O:Value){x y:Operand}{U:SV}{clock:Nat}(hl:eU H.length L=ab)(ho:o.op= .insert t m x y\/o.op= .mapUpdate t m x y)(hm:P.underlying t=aa (.map I Z))(hd:P.underlying I=aa d)(W:ev R m=aa (.mp id))(V:ev R x=aa zk)(ex:ev R y=aa U)(G:oV zk=aa F)(hx:oV U=aa O)(hb:hk H id=aa (.ext (.lit (.map es clock))))(u:IsKey d F)(hf:Instr.findNow d F es.toList 0=aa ah)(h:k ah [(id,aa (.ext (.lit (.map (es.push ⟨F,O,clock⟩) (clock+1)))))] [id] L):cR P o R H L k:=
 rN (gn (cr hl) hb) aq (aen ho hm hd (bq W) (bq V) (bq ex) G hx (gb hb) u hf) h
theorem DE{t I V:Nat}(id i:Nat)(G v:Value){x:Operand}(zv:SV){clock:Nat}(ho:o.op= .lookup t m x ab)(hm:P.underlying t=aa (.map I V))(hd:P.underlying I=aa d)(U:ev R m=aa (.mp id))(O:ev R x=aa zk)(F:oV zk=aa G)(hb:hk H id=aa (.ext (.lit (.map es clock))))(u:IsKey d G)(hf:Instr.findNow d G es.toList 0=aa (aa (i,v)))(hz:oV zv=aa v)(h:k (aa (.tup [zv,.b ab])) [] [id] L):cR P o R H L k:=dB (aew ho hm hd (bq U) (bq O) F (gb hb) u hf hz) h
end
end Go.Sh
namespace Go.Sh
variable{H:HL}{l:List FE}{ps:List MemPlace}{xs:List SV}{A L:Nat}{P:Program}{R:RL}{r:Reach}{ρ:bw}
theorem Gt(J:List Nat){T:TT}{M:Option Nat->Prop}{N:Nat}{c:Code}{Q:Exit->RL->HL->Nat->Prop}(hT:fC P T)(hm:P.follows .mixedOrders=ab)(hc:jR N c=ab){ι:Type}(IR:ι->RL)(IH:ι->HL)(IL:ι->Nat)(μ:ι->Nat)(i0:ι)(h0:cl A R H L (IR i0) (IH i0) (IL i0))(round:∀i,AM J T P M N A c (λe R H L=>match e with| .normal=>∃j,μ j<μ i/\cl A R H L (IR j) (IH j) (IL j)|e=>Q e R H L) (IR i) (IH i) (IL i)):bp P M N A (.loop c) Q R H L:=by
 refine bp.weak h0 ?_;refine⟨λr n B ρ a w hM hs hl=>?_⟩;let K:=fun(u:Act) (w':World) (k:Nat)=>∃i ρ',μ i=k/\(IH i).length<=IL i/\dO N B (IL i) ρ' (rg (IR i)) (hg (IH i)) u w'/\fT A ρ (hg (IH i0)) w ρ' (hg (IH i)) w'
 refine wpIn_loop (λu w'=>∃k,K u w' k) (λu w'=>BP (K u w')) ⟨μ i0,i0,ρ,rfl,hl,hs,fT.refl _ _ _ _⟩ ?_;rintro a1 w1 ⟨k,hk⟩;obtain⟨⟨i,ρ1,hi,hl1,V,F⟩,_⟩:=Gq hk;refine wpIn_mono ((mn hT hm hc (round i)).run r n B ρ1 a1 w1 hM V hl1) ?_;rintro e a2 w2 ⟨R2,H2,L2,ρ2,hq,hl2,I,G⟩;cases e with
 |normal=>
  obtain⟨j,hj,hw⟩:=hq;obtain⟨ρ3,W,U,O⟩:=hw N B ρ2 a2 w2 I hl2;have Z:K a2 w2 (μ j):=⟨j,ρ3,rfl,U,W,(F.trans G).trans O⟩;have:=(Gq Z).2;exact⟨⟨μ j,Z⟩,ag⟩
 |_=>exact⟨R2,H2,L2,ρ2,hq,hl2,I,F.trans G⟩
theorem ab4(t q:Nat){e:FE}(hq:hk H q=aa (.ext (.fam l)))(he:e∈l)(ht:lk t R=aa (.lit e.v)){N B:Nat}{a:Act}{w:World}(hs:dO N B L ρ (rg R) (hg H) a w)(hl:H.length<=L):∃ρ0,dO N B (L+1) ρ0 (rg ((t,.sl L 0 e.n e.sz af)::R)) (hg (eX H [(L,aa (.ro e.cells))])) a w/\(eX H [(L,aa (.ro e.cells))]).length<=L+1/\Ev ρ (hg H) w ρ0 (hg (eX H [(L,aa (.ro e.cells))])) w:=by
 rw [kJ]at hq;obtain⟨rq,h7,U⟩:=hs.heap q _ hq;obtain⟨⟨ad,c,hv,hnc,hc⟩,F⟩:=U e he;have hn:=hs.fresh L (bH _);have u:fK ρ (setR ρ L e.rb):=fK.setR e.rb hn;have hg2:∀id,hg (eX H [(L,aa (.ro e.cells))]) id=if id=L then aa (.ro e.cells)else hg H id:=λid=>by
  rw [mK];by_cases h:id=L
  .subst h;simp [jX]
  .have:(id==L)=af:=kV;simp [jX,gJ,this,h]
 have hlt:∀id b,hg H id=aa b->id≠L:=λid b hb h8=>by have:=gn hl (by rw [kJ];exact hb:hk H id=aa b);omega
 have W:cd (setR ρ L e.rb) w e.rb (.ro e.cells):=F.imp id λh=>⟨h.1.ext (λi r h=>by cases h),h.2⟩
 have O:∀k o,foot e.rb (.ro e.cells) k o->foot rq (.ext (.fam l)) k o:=λk o h=>⟨e,he,h.1,h.2.1,h.2.2⟩
 have Z:∀k o,dV (setR ρ L e.rb) (hg (eX H [(L,aa (.ro e.cells))])) k o->dV ρ (hg H) k o:=by
  rintro k o ⟨id,b,rb,h1,h2,h3,h4⟩;rw [hg2]at h1;by_cases h:id=L
  .rw [if_pos h]at h1;cases h1;cases h3
  .rw [if_neg h]at h1;rw [lO ρ e.rb h]at h2;exact⟨id,b,rb,h1,h2,h3,h4⟩
 refine⟨setR ρ L e.rb,⟨hs.size,?_,?_,?_,?_,hs.dfr⟩,?_,Ev.mk u (Fr.refl _ _) (λk o h=> .inl (Z k o h))⟩
 .intro t2 v I;simp only [rg,gJ]at I;split at I
  .rename_i e2;have:t2=t:=wO;subst this;cases I;have h1:=hs.regs t2 (.lit e.v) pN;simp only [av]at h1|-;exact⟨e.rb,ad,c,gN _ _ _,by rw [h1.1,hv],hnc,λh=>(by cases h),hc.imp id λ⟨g1,g2,g3⟩=>⟨g1,by rw [g2];rfl,ag⟩⟩
  .exact(hs.regs t2 v I).ext u
 .intro id b hb;rw [hg2]at hb;by_cases h:id=L
  .rw [if_pos h]at hb;cases hb;subst h;exact⟨e.rb,gN _ _ _,W⟩
  .rw [if_neg h]at hb;obtain⟨rb,h1,h2⟩:=hs.heap id b hb;exact⟨rb,u _ _ h1,h2.ext u⟩
 .intro i j bi bj ri rj hne hi hj hri G hb k o ⟨hfi,V⟩;rw [hg2]at hi hj;by_cases h1:i=L
  .rw [if_pos h1]at hi;cases hi;cases hb
  .rw [if_neg h1]at hi;rw [lO ρ e.rb h1]at hri;by_cases h2:j=L
   .rw [if_pos h2]at hj;cases hj;subst h2;rw [gN]at G;cases G;have h6:i≠q:=λe2=>by subst e2;rw [hq]at hi;cases hi;cases hb
    exact hs.sep i q bi _ ri rq h6 hi hq hri h7 hb k o ⟨hfi,O k o V⟩
   .rw [if_neg h2]at hj;rw [lO ρ e.rb h2]at G;exact hs.sep i j bi bj ri rj hne hi hj hri G hb k o ⟨hfi,V⟩
 .intro id hid;exact Nz
 .exact pw ag (λid ob hm=>A3)
theorem cl.focus(t q:Nat){e:FE}(hq:hk H q=aa (.ext (.fam l)))(he:e∈l)(ht:lk t R=aa (.lit e.v)):cl A R H L ((t,.sl L 0 e.n e.sz af)::R) (eX H [(L,aa (.ro e.cells))]) (L+1):=λN B ρ a w hs hl=>
 let⟨ρ0,h1,h2,h3⟩:=ab4 t q hq he ht hs hl
 ⟨ρ0,h1,h2,h3.toA⟩
open Go.ChangeShapes Go.WideShapes Go.ChangeAt Go.RowKit
theorem YD{f:Nat}{args:List SV}{H0 H1:HL}(hc:bV P f args H0 (.b ab) H1)(F:∀(id:Nat) b,hg H0 id=aa b->b.own=af){vs:List Value}{W:World}(I:aD ρ args vs)(O:iX ρ (hg H0) W)(G:∀id,H0.length<=id->ρ id=ah):Calls P f ⟨vs⟩ W λe w'=>e= .returned (.bool ab)/\RowKit.Below W.heap.size W w':=by
 have h:=hc.call 0 ρ W vs I O (λi j bi U ri V _ hi _ _ _ u=>by rw [F i bi hi]at u;cases u) G;refine(callsIn_wide.1 h).mono ?_;intro e w' hr;cases e with
 |returned v=>
  obtain⟨ρ',h1,_,_,_,h5⟩:=hr;simp only [av]at h1;refine⟨by rw [h1],h5.fr.below (λx o _ u=>?_)⟩;obtain⟨id,b,rb,g1,_,g3,_⟩:=u;rw [F id b g1]at g3;cases g3
 |_=>exact hr.elim
theorem Vx{H:Type}{enc:TypeId×Value->H}{P:Program}(hl:laidOutB P=ab){W W':World}(hb:RowKit.Below W.heap.size W W'):∀{G:List TypeId} {vs:List Value} {ds:List (DataW H)} {ps:List MemPlace},
  (∀t∈G,P.readableRec t=ab/\t<P.types.size)->DataW.TrodAll enc P W 0 (λ_=>ab) ab G vs ds ps->(∀x∈ps,x.block<W.heap.size)->∀F:Nat->Bool,(∀x∈ps,F x.block=ab)->
  DataW.TrodAll enc P W' 0 F ab G vs ds ps
 | [],vs,ds,ps,_,h,_,F,_=>by
  obtain⟨rfl,rfl,rfl⟩:=trodAll_nil h;exact trodAll_mk0
 |t::G,vs,ds,ps,ht,h,hlt,F,hsp=>by
  obtain⟨v,U,d,I,p,q,rfl,rfl,rfl,h1,h2⟩:=trodAll_cons h;obtain⟨O,r2⟩:=ht t (kX ..);exact trodAll_cons_mk (WideElems.Trod_stays hl O r2 h1 (λx hx=>hb.same (hlt x (List.mem_append_left _ hx))) (λx hx=>hsp x (List.mem_append_left _ hx)))
   (Vx hl hb (λu hu=>ht u (jN _ hu)) h2 (λx hx=>hlt x (List.mem_append_right _ hx)) F (λx hx=>hsp x (List.mem_append_right _ hx)))
theorem ait{H:Type}{enc:TypeId×Value->H}{fn:Func}{s:ChangeSpec}{W W':World}{args:Array Value}{ds gs:List (DataW H)}{V:List MemPlace}{bt:TypeId}{G fresh I h6:Bool}(hl:laidOutB P=ab)(U:∀t∈fn.params.toList,P.readableRec t=ab/\t<P.types.size)(h7:P.underlying bt=aa .bool)(h8:fn.resultTypes= #[bt])(F:s.vars= [])(hW:DataW.Whole enc P fn.params.toList s.vars G W args.toList ds gs V)(u:s.fn H ds={results:= [.lit (.bool ab)],args:=ds})(hb:RowKit.Below W.heap.size W W'):s.post enc P fn G fresh I h6 W args (.bool ab) W':=by
 have hlt:=hW.lt;have h9:=hW;obtain⟨p,q,hA,hV,rfl,x0,x5⟩:=hW;rw [F]at hV;obtain⟨rfl,rfl⟩:=trodVars_none hV;have O:∀sp:Nat->Bool,(∀x∈p,sp x.block=ab)->DataW.TrodAll enc P W' 0 sp ab fn.params.toList args.toList ds p:=λsp x7=>
  Vx hl hb U hA (λx hx=>hlt x wN) sp x7
 have Z:∀(b:Nat) (sp:Nat->Bool) (hd:Bool),DataW.TrodAll enc P W' b sp hd fn.resultTypes.toList ((Value.bool ab).resultList fn.resultTypes.size) [.lit (.bool ab)] []:=λb sp hd=>by rw [h8];exact trodAll_cons_mk (shut_bool h7 _) trodAll_mk0
 refine⟨ds,[],p++ [],[],p,[],h9,?_,?_,?_,World.keptBut_mono (λx hx=>⟨hx,?_⟩) (hb.frame (λx=>x∈p++ [])),λ_=>?_⟩
 .rw [jz,u];exact Z _ _ _
 .rw [jz,u];exact O _ (λx hx=>by simpa using hlt x (by simpa using hx))
 .rw [jz,u,F];rfl
 .exact .inr (.inl wN)
 .refine⟨ok_one h8 rfl (okWide_bool_mk h7 _),_,[],([]++p)++ [],⟨[]++p,[],trodAll_append (O _ (λ_ _=>rfl)) (Z _ _ _),by rw [F];rfl,rfl,?_,?_⟩,?_⟩
  .intro b off hp;have x6:=hlt (.cell b off) (by simpa using hp);rw [hb.frozen (p:=⟨b,off,ah⟩) x6];exact x0 b off (by simpa using hp)
  .intro ha;simpa using x5 ha
  .intro x hx _;simpa using hx
section
variable {H:Type} {enc:TypeId×Value->H} {P:Program} {w:World} {base:Nat} {spare:Nat->Bool} {held:Bool}
def Rd(enc:TypeId×Value->H)(P:Program)(w:World)(base:Nat)(spare:Nat->Bool)(held:Bool)(t:TypeId)(cs:List Value):Prop:=∃u x,DataW.trod enc P w base spare held u t cs=aa x
theorem tP{t:TypeId}{n:Nat}(h:dq P t=aa n):P.cellsOf t=n:=by unfold dq at h;unfold Program.cellsOf;rw [h];rfl
theorem Ft{ks:List Nat}{R:List Value->Prop}(hR:∀c,R c->∃xs:List SV,xs.map kd=ks.map aa/\∀ρ,aD ρ xs c)(cs:List Value):∀n:Nat,n*ks.length<=cs.length->
  (∀i,i<n->R ((cs.drop (i*ks.length)).take ks.length))->∃xs:List SV,xs.map kd=(aK n ks).flatten.map aa/\∀ρ,aD ρ xs (cs.take (n*ks.length))
 |0,_,_=>⟨[],aq,λρ=>by simp [aD]⟩
 |n+1,hl,h=>by
  have hn:(n+1)*ks.length=n*ks.length+ks.length:=by rw [nh];omega
  obtain⟨xs,hx,u⟩:=Ft hR cs n ag (λi hi=>h i ag);obtain⟨ys,hy,F⟩:=hR _ (h n ag);refine⟨xs++ys,?_,λρ=>?_⟩
  .rw [dU,hx,hy,List.replicate_succ',List.flatten_concat,dU]
  .rw [hn,List.take_add];exact aD.append (u ρ) (F ρ)
theorem QG{k:IntKind}{q:Nat}{n:Int}(hk:rG (.int k)=aa q)(hw:(Lit.int k n).wf=ab):∃x:SV,kd x=aa q/\∀ρ,av ρ x (.int k n):=by
 cases k<;>simp only [rG]at hk<;>(try(cases hk;done))<;>simp only [Option.some.injEq]at hk<;>subst hk
 .exact⟨.i n,rfl,λρ=>gO⟩
 all_goals
  simp only [Lit.wf,fI,decide_eq_true_eq,IntKind.min,IntKind.max,IntKind.signed,IntKind.bits]at hw;have h2:=hw.2;simp at h2 hw
 .exact⟨.u8 (cX n.toNat),rfl,λρ=>by simp only [av,nN];congr 1;omega⟩
 .exact⟨.u16 (wV n.toNat),rfl,λρ=>by simp only [av,UInt16.toNat_ofNat'];congr 1;omega⟩
 .exact⟨.u32 (UInt32.ofNat n.toNat),rfl,λρ=>by simp only [av,Bd];congr 1;omega⟩
 .exact⟨.u64 (aF n.toNat),rfl,λρ=>by simp only [av,j5];congr 1;omega⟩
theorem RR:∀d:Nat,
  (∀{t:TypeId} {ks:List Nat},ir P d t=aa ks->∀{cs:List Value},Rd enc P w base spare held t cs->∃xs:List SV,xs.map kd=ks.map aa/\∀ρ,aD ρ xs cs)/\
  (∀{off:Nat} {fs:List Field} {ks:List Nat},sG P d off fs=aa ks->∀{cs:List Value},(∀f∈fs,Rd enc P w base spare held f.type ((cs.drop f.offset).take (P.cellsOf f.type)))->off+ks.length<=cs.length->
   ∃xs:List SV,xs.map kd=ks.map aa/\∀ρ,aD ρ xs ((cs.drop off).take ks.length))
 |0=>by
  refine⟨λh=>by simp [ir]at h,fun{off fs ks} h=>?_⟩;cases fs with
  |nil=>simp [sG]at h;subst h;intro cs _ _;exact⟨[],rfl,λρ=>by simp [aD]⟩
  |cons f fs=>simp [sG]at h
 |d+1=>by
  obtain⟨O,U⟩:=RR d;refine⟨fun{t ks} h {cs} hr=>?_,fun{off fs ks} h {cs} hr hl=>?_⟩
  .obtain⟨h9,x,hx⟩:=hr;have h6:=uR h;simp only [ir]at h;split at h
   .rename_i fs hu;split at h
    .cases h
    .obtain⟨G,h1,h2⟩:=j0.1 h;split at h2
     .cases h2;obtain⟨xs,n,rfl,rfl,F,h7,hf⟩:=DataW.trod_struct hu hx;have V:cs.length=ks.length:=by rw [F,tP h6]
      obtain⟨ys,hy,u⟩:=U h1 (cs:=cs) (λf hfm=>by
       obtain⟨i,hi,hfi⟩:=List.getElem_of_mem hfm;have W:i<fs.size:=by simpa using hi
       have I:fs[i]?=aa f:=by rw [pO W];simpa using hfi
       have:=hf i f I;rw [dy (by omega:i<xs.length)]at this;exact⟨n,_,this⟩) ag
      refine⟨ys,hy,λρ=>?_⟩;have:=u ρ
      rwa [cq,bW ag]at this
     .cases h2
   .rename_i n e hu;obtain⟨G,h1,h2⟩:=j0.1 h;split at h2
    .rename_i Z;cases h2;obtain⟨xs,m,rfl,rfl,F,h7,hf⟩:=DataW.trod_array hu hx;have V:cs.length=n*G.length:=by rw [F,tP Z]
     have he:P.cellsOf e=G.length:=tP (uR h1);obtain⟨ys,hy,u⟩:=Ft (R:=λc=>Rd enc P w base spare held e c) (λc hc=>O h1 hc) cs n ag (λi hi=>by
      have:=hf i hi;rw [he,dy (by omega:i<xs.length)]at this;exact⟨m,_,this⟩)
     refine⟨ys,hy,λρ=>?_⟩;have:=u ρ
     rwa [bW ag]at this
    .cases h2
   .rename_i ds x0 ha hu;obtain⟨k,h1,h2⟩:=j0.1 h;split at h2
    .cases h2;cases ds with
     |int kk=>
      obtain⟨n,rfl,_,hw⟩:=DataW.trod_int hu hx;obtain⟨y,hy,u⟩:=QG h1 hw;exact⟨[y],by simp [hy],λρ=>aD.cons (u ρ) (aD.nil_iff.2 rfl)⟩
     |bool=>
      obtain⟨b,rfl,_⟩:=DataW.trod_bool hu hx;simp only [rG,Option.some.injEq]at h1;subst h1;exact⟨[.b b],rfl,λρ=>aD.cons gO (aD.nil_iff.2 rfl)⟩
     |string=>
      obtain⟨s,rfl,_,_⟩:=DataW.trod_string hu hx;simp only [rG,Option.some.injEq]at h1;subst h1;exact⟨[.s s.data.toList],rfl,λρ=>aD.cons gO (aD.nil_iff.2 rfl)⟩
     |_=>simp [rG]at h1
    .cases h2
   .cases h
  .cases fs with
   |nil=>simp [sG]at h;subst h;exact⟨[],rfl,λρ=>by simp [aD]⟩
   |cons f fs=>
    simp only [sG]at h;split at h
    .rename_i hf;obtain⟨k1,h1,h2⟩:=j0.1 h;obtain⟨k2,h3,h4⟩:=so.1 h2;subst h4;have he:P.cellsOf f.type=k1.length:=tP (uR h1);have hr1:=hr f (kX ..);rw [hf.2,he]at hr1;simp only [aW]at hl;obtain⟨xs,hx,h8⟩:=O h1 hr1;obtain⟨ys,hy,u⟩:=U h3 (cs:=cs) (λg hg=>hr g (jN _ hg)) ag;refine⟨xs++ys,by simp [hx,hy],λρ=>?_⟩;rw [aW,List.take_add,ng];exact aD.append (h8 ρ) (u ρ)
    .cases h
theorem GK{d:Nat}{t:TypeId}{ks:List Nat}(h:ir P d t=aa ks){cs:List Value}(hr:Rd enc P w base spare held t cs):∃xs:List SV,xs.map kd=ks.map aa/\∀ρ,aD ρ xs cs:=
 (RR d).1 h hr
theorem adf{x:SV}(h:kd x=aa 0):∃n,x= .i n:=by cases x<;>simp [kd]at h;exact⟨_,rfl⟩
theorem An{x:SV}(h:kd x=aa 1):∃n,x= .u8 n:=by cases x<;>simp [kd]at h;exact⟨_,rfl⟩
theorem adg{x:SV}(h:kd x=aa 2):∃n,x= .u16 n:=by cases x<;>simp [kd]at h;exact⟨_,rfl⟩
theorem QO{x:SV}(h:kd x=aa 4):∃n,x= .u64 n:=by cases x<;>simp [kd]at h;exact⟨_,rfl⟩
theorem KH(h:xs.map kd=([]:List Nat).map aa):xs= []:=by simpa using h
theorem KG{k:Nat}{ks:List Nat}(h:xs.map kd=(k::ks).map aa):∃x ys,xs=x::ys/\kd x=aa k/\ys.map kd=ks.map aa:=by
 cases xs with
 |nil=>simp at h
 |cons x ys=>simp at h;exact⟨x,ys,rfl,h.1,h.2⟩
theorem KI{α:Type}{f:α->SV}{k:Nat}(hf:∀x,kd x=aa k->∃a,x=f a):∀{n:Nat} {xs:List SV},xs.map kd=(aK n k).map aa->∃l:List α,xs=l.map f/\l.length=n
 |0,xs,h=>by
  have:xs= []:=KH h;subst this;exact⟨[],rfl,rfl⟩
 |n+1,xs,h=>by
  rw [List.replicate_succ]at h;obtain⟨x,ys,rfl,hx,hy⟩:=KG h;obtain⟨a,rfl⟩:=hf x hx;obtain⟨l,rfl,hl⟩:=KI hf hy;exact⟨a::l,rfl,by simp [hl]⟩
theorem Gj:∀{xs:List SV} {ks:List Nat},xs.map kd=ks.map aa->cw xs=ab
 | [],_,_=>rfl
 |x::xs,[],h=>pM
 |x::xs,k::ks,h=>by
  simp only [iT,List.cons.injEq]at h;simp only [cw,vA,adh h.1,Bool.true_and];exact Gj h.2
theorem DF{G k:Nat}{t:TypeId}{ds:TypeDesc}{v:Value}{y:DataW H}(hu:P.underlying t=aa ds)(hk:rG ds=aa k)(F:k≠6)(u:Value.okWide P w r G t v)(hd:DataW.Trod enc P w base spare held t v y ps):∃x:SV,kd x=aa k/\∀ρ,av ρ x v:=by
 cases ds with
 |int kk=>
  obtain⟨n,rfl,_,_,hw⟩:=open_int hu u hd;exact QG hk hw
 |bool=>
  obtain⟨b,rfl,_⟩:=open_bool hu u hd;simp only [rG,Option.some.injEq]at hk;subst hk;exact⟨.b b,rfl,λρ=>gO⟩
 |string=>simp only [rG,Option.some.injEq]at hk;exact absurd hk.symm F
 |_=>simp [rG]at hk
theorem Fq{a:Addr}{n:Nat}{l:List Value}(h:w.cells? base a n=aa l):l.length=n/\∀i,i<n->w.cell? (a.add i)=l[i]?:=by
 unfold World.cells? at h;split at h
 .refine⟨by simpa using mapM_some_length h,λi hi=>?_⟩;simpa using mapM_some_get h i i (by simp [hi])
 .cases h
theorem ET(a:Addr)(i:Nat)(h:a.spot=ah):a.add i=⟨a.block,a.off+i,ah⟩:=by
 cases a;simp only at h;subst h;unfold Addr.add;split
 .rename_i h0;subst h0;rfl
 .rfl
theorem Ol(a:Addr):a.add 0=a:=by simp [Addr.add]
structure Jb(enc:TypeId×Value->H)(P:Program)(w:World)(base:Nat)(spare:Nat->Bool)(held:Bool)(e:TypeId)(sz:Nat)(a:Addr)(len cap:Nat)(vs:List Value):Prop where
 le:len<=cap
 most:cap<=maxLen
 spot:0<cap->a.spot=ah
 len:vs.length=cap*sz
 cell:∀i,i<cap*sz->w.cell? ⟨a.block,a.off+i,ah⟩=vs[i]?
 read:∀i,i<cap->Rd enc P w base spare held e ((vs.drop (i*sz)).take sz)
theorem S7{α:Type}(f:Nat->Option (List α))(sz:Nat):∀n,(∀i,i<n->∃l,f i=aa l/\l.length=sz)->∃vs:List α,vs.length=n*sz/\∀i,i<n->f i=aa ((vs.drop (i*sz)).take sz)
 |0,_=>⟨[],aq,λi hi=>ag⟩
 |n+1,h=>by
  obtain⟨vs,h1,h2⟩:=S7 f sz n (λi hi=>h i ag);obtain⟨l,hl,u⟩:=h n ag;refine⟨vs++l,by simp [h1,u,nh],λi hi=>?_⟩;by_cases hin:i<n
  .rw [h2 i hin];have hle:i*sz+sz<=vs.length:=by
    rw [h1];calc i*sz+sz=(i+1)*sz:=by rw [nh];omega
     _<=n*sz:=iV _ hin
   rw [wQ ag,wS aA]
  .have:i=n:=ag;subst this;rw [hl,<-h1,qP,bW ag]
theorem Ll{e t:TypeId}{sz:Nat}{cs:List Value}(ht:P.underlying t=aa (.slice e))(hs:dq P e=aa sz)(h0:0<sz)(U:spare=λ_=>ab)(hr:Rd enc P w base spare held t cs):cs= [.slice ah 0 0]\/∃a len cap vs,cs= [.slice (aa a) len cap]/\Jb enc P w base spare held e sz a len cap vs:=by
 obtain⟨W,x,hx⟩:=hr;have he:=tP hs;rcases DataW.trod_slice ht hx with⟨h,_⟩|⟨a,len,cap,elems,rest,n,rfl,rfl,_,hb,hlc,hm,hel,h1,h2,_⟩
 .exact .inl h
 .right;rw [he]at h1 h2;obtain⟨hrl,h2⟩:=h2 (by rw [U]);have all:∀i,i<cap->∃l,w.cells? base (a.add (i*sz)) sz=aa l/\Rd enc P w base spare held e l:=by
   intro i hi;by_cases hil:i<len
   .have:=h1 i hil;rw [dy (by omega:i<elems.length)]at this;obtain⟨l,hl,hr⟩:=j0.1 this;exact⟨l,hl,n,_,hr⟩
   .have:=h2 (i-len) ag;rw [dy (by omega:i-len<rest.length),show len+(i-len)=i from by omega]at this;obtain⟨l,hl,hr⟩:=j0.1 this;exact⟨l,hl,n,_,hr⟩
  obtain⟨vs,V,hv⟩:=S7 (λi=>w.cells? base (a.add (i*sz)) sz) sz cap (λi hi=>by
   obtain⟨l,hl,_⟩:=all i hi;exact⟨l,hl,(Fq hl).1⟩)
  have u:0<cap->a.spot=ah:=by
   intro hc;obtain⟨l,hl,_⟩:=all 0 hc;obtain⟨g1,g2⟩:=Fq hl;have:=g2 0 h0;rw [dy ag]at this;unfold World.cell? at this;split at this
   .split at this
    .cases this
    .rename_i O;have h3:((a.add (0*sz)).add 0).spot=ah:=by simpa using O
     rwa [uq,Ol,Ol]at h3
   .cases this
  refine⟨a,len,cap,vs,rfl,hlc,hm,u,V,λi hi=>?_,λi hi=>?_⟩
  .have hc:0<cap:=by
    rcases Nat.eq_zero_or_pos cap with h|h
    .subst h;omega
    .exact h
   have I:i/sz<cap:=by rw [Nat.div_lt_iff_lt_mul h0];exact hi
   have hl:=hv (i/sz) I;obtain⟨g1,g2⟩:=Fq hl;have F:i%sz<sz:=Nat.mod_lt _ h0;have:=g2 (i%sz) F;rw [ET a _ (u hc),ET _ _ rfl]at this;have G:i/sz*sz+i%sz=i:=by rw [Nat.mul_comm];exact Nat.div_add_mod i sz
   rw [ic F,iS,G]at this;simp only [sn,G]at this;exact this
  .obtain⟨l,hl,hr⟩:=all i hi;have:=hv i hi;rw [hl]at this;rw [<-Option.some.inj this];exact hr
theorem Jb.block{e:TypeId}{sz:Nat}{a:Addr}{len cap:Nat}{vs:List Value}(h:Jb enc P w base spare held e sz a len cap vs){ys:List SV}(hr:aD ρ ys (vs.take (len*sz)))(V:cw ys=ab):(∀id,ρ id=aa ⟨a.block,a.off,cap*sz,af⟩->av ρ (.sl id 0 len sz af) (.slice (aa a) len cap))/\cd ρ w ⟨a.block,a.off,cap*sz,af⟩ (.ro ys):=by
 have F:ys.length=len*sz:=by have:=hr.length;rw [eZ,h.len]at this;have hle:len*sz<=cap*sz:=iV _ h.le;omega
 refine⟨λid hid=>?_,?_⟩
 .simp only [av];refine⟨_,aa a,cap,hid,rfl,h.le,λh=>(by cases h),?_⟩;by_cases h0:cap=0
  .exact .inl h0
  .right;refine⟨rfl,?_,aq⟩;have:=h.spot ag;cases a;simp only at this;subst this;simp
 .by_cases h0:len*sz=0
  .left;exact ug ag
  .right;have hle:len*sz<=cap*sz:=iV _ h.le;have key:∀i,i<cap*sz->∃c t fz,w.heap[a.block]?=aa (.cells c t fz)/\c[a.off+i]?=vs[i]?:=by
    intro i hi;have hc:=h.cell i hi;rw [dy (by rw [h.len];exact hi)]at hc;unfold World.cell? at hc;split at hc
    .rename_i c t fz I;simp only at hc;exact⟨c,t,fz,I,by rw [dy (by rw [h.len];exact hi)];simpa using hc⟩
    .cases hc
   obtain⟨c,t2,fz,I,_⟩:=key 0 ag;have u:∀i,i<cap*sz->c[a.off+i]?=vs[i]?:=by intro i hi;obtain⟨W,Z,U,G,hv⟩:=key i hi;rw [I]at G;cases G;exact hv
   have O:a.off+len*sz<=c.size:=by have:=u (len*sz-1) ag;rw [dy (by rw [h.len];omega)]at this;have:=(jL.1 this).1;omega
   refine⟨⟨c,t2,fz,I,V,?_,λh=>(by cases h),by rw [F];exact O⟩,by rw [F];exact hle,rfl⟩;have e1:(c.toList.drop a.off).take ys.length=vs.take (len*sz):=by
    apply ku;intro i;rw [F];by_cases hi:i<len*sz
    .rw [ic hi,ic hi,iS,lU];exact u i ag
    .rw [List.getElem?_take_eq_none ag,List.getElem?_take_eq_none ag]
   rw [e1];exact hr
theorem age{O d:Nat}{e t:TypeId}{ks:List Nat}{v:Value}{y:DataW H}(ht:P.underlying t=aa (.slice e))(hk:ir P d e=aa ks)(h0:0<ks.length)(F:Value.okWide P w r O t v)(hd:DataW.Trod enc P w base (λ_=>ab) held t v y ps):∃(n:Nat) (ys:List SV) (rb:RB),n<=maxLen/\ys.map kd=(aK n ks).flatten.map aa/\(∀ρ id,ρ id=aa rb->av ρ (.sl id 0 n ks.length af) v)/\∀ρ,cd ρ w rb (.ro ys):=by
 obtain⟨a,len,cap,rfl⟩:=okWide_slice ht F;obtain⟨u,hf⟩:=hd;have I:(Value.slice a len cap).cells.toList= [.slice a len cap]:=rfl;rw [I]at hf;rcases Ll ht (uR hk) h0 rfl ⟨u,_,hf⟩with h|⟨a',len',cap',vs,h,hrow⟩
 .cases h;refine⟨0,[],⟨0,0,0,ab⟩,kD _,rfl,λρ id hr=>?_,λρ=> .inl rfl⟩;simp only [av];exact⟨_,ah,0,hr,rfl,bH _,λh=>(by cases h),.inl rfl⟩
 .cases h;have hle:len*ks.length<=cap*ks.length:=iV _ hrow.le;obtain⟨ys,hy,G⟩:=Ft (R:=λc=>Rd enc P w base (λ_=>ab) held e c) (λc hc=>GK hk hc) vs len (by rw [hrow.len];exact hle) (λi hi=>hrow.read i (wU hi hrow.le));exact⟨len,ys,_,jP hrow.le hrow.most,hy,λρ id hid=>(hrow.block (G ρ) (Gj hy)).1 id hid,λρ=>(hrow.block (G ρ) (Gj hy)).2⟩
theorem P7(n k:Nat):(aK n [k]).flatten=aK n k:=by
 induction n with
 |zero=>rfl
 |succ n ih=>rw [List.replicate_succ,List.flatten_cons,ih];rfl
theorem Lm{α:Type}{f:α->SV}{F d k:Nat}{e t:TypeId}{v:Value}{y:DataW H}(ht:P.underlying t=aa (.slice e))(hk:ir P d e=aa [k])(hf:∀x,kd x=aa k->∃a,x=f a)(u:Value.okWide P w r F t v)(hd:DataW.Trod enc P w base (λ_=>ab) held t v y ps):∃(l:List α) (rb:RB),l.length<=maxLen/\(∀ρ id,ρ id=aa rb->av ρ (.sl id 0 l.length 1 af) v)/\∀ρ,cd ρ w rb (.ro (l.map f)):=by obtain⟨n,ys,rb,hm,hy,h1,h2⟩:=age ht hk aq u hd;rw [P7]at hy;obtain⟨l,rfl,rfl⟩:=KI hf hy;exact⟨l,rb,hm,h1,h2⟩
end
abbrev cC:=Value×RB×List UInt8
def aX(p:cC):FE:=⟨p.1,p.2.1,p.2.2.length,1,p.2.2.map .u8⟩
def cA(p:cC):SV:= .lit p.1
def kO(ps:List cC)(i:Nat):List UInt8:=((ps.take i).map (λp=>p.2.2)).flatten
theorem agH(ps:List cC):kO ps 0= []:=rfl
theorem agG{ps:List cC}{i:Nat}{p:cC}(h:ps[i]?=aa p):kO ps (i+1)=kO ps i++p.2.2:=by unfold kO;rw [List.take_add_one,h];simp
theorem agE(ps:List cC):kO ps ps.length=(ps.map (λp=>p.2.2)).flatten:=by unfold kO;rw [ly]
theorem agF(ps:List cC)(i:Nat):(kO ps i).length<=(kO ps ps.length).length:=by
 have e:kO ps ps.length=kO ps i++((ps.drop i).map (λp=>p.2.2)).flatten:=by unfold kO;rw [ly,<-List.flatten_append,<-dU,nJ]
 rw [e,aW];omega
@[simp] theorem ala(ps:List cC):bJ (ps.map cA)=ab:=by
 induction ps with
 |nil=>rfl
 |cons p ps ih=>rw [iT,Sr,ih];rfl
theorem ab5(t q:Nat){v:Value}{rb:RB}{b:List UInt8}(hq:hk H q=aa (.ext (.fam l)))(he:aX (v,rb,b)∈l)(ht:lk t R=aa (.lit v)):cl A R H L ((t,.sl L 0 b.length 1 af)::R) (eX H [(L,aa (.ro (b.map .u8)))]) (L+1):=cl.focus t q hq he ht
section
variable {H:Type} {enc:TypeId×Value->H} {P:Program} {w:World} {base:Nat} {held:Bool}
theorem agd{d:Nat}{t e:TypeId}{cs:List Value}(ht:P.underlying t=aa (.slice e))(hk:ir P d e=aa [1])(hr:Rd enc P w base (λ_=>ab) held t cs):∃p:cC,p.2.2.length<=maxLen/\cs= [p.1]/\(∃a n c,p.1= .slice a n c)/\jQ w (aX p):=by
 rcases Ll ht (uR hk) aq rfl hr with rfl|⟨a,len,cap,vs,rfl,hrow⟩
 .exact⟨(.slice ah 0 0,⟨0,0,0,ab⟩,[]),kD _,rfl,⟨_,_,_,rfl⟩,⟨ah,0,rfl,bH _,.inl rfl⟩,.inl rfl⟩
 .have hle:len* [1].length<=cap* [1].length:=iV _ hrow.le;obtain⟨ys,hy,u⟩:=Ft (R:=λc=>Rd enc P w base (λ_=>ab) held e c) (λc hc=>GK hk hc) vs len (by rw [hrow.len];exact hle) (λi hi=>hrow.read i (wU hi hrow.le));have hb:=(hrow.block (u (λ_=>ah)) (Gj hy)).2;rw [P7]at hy;obtain⟨b,rfl,rfl⟩:=KI (f:=SV.u8) (λ_=>An) hy;refine⟨(.slice (aa a) b.length cap,⟨a.block,a.off,cap*1,af⟩,b),jP hrow.le hrow.most,rfl,⟨_,_,_,rfl⟩,⟨aa a,cap,rfl,hrow.le,?_⟩,?_⟩
  .by_cases h0:cap=0
   .exact .inl h0
   .refine .inr ⟨rfl,?_,bH _⟩;have:=hrow.spot ag;cases a;simp only at this;subst this;rfl
  .exact hb
theorem Yf(ps:List cC):cw (ps.map cA)=ab:=by induction ps<;>simp_all [cw,SV.atom,cA]
end
end Go.Sh
namespace Go.Sh
variable{f full full2:Bool}{H:HL}{l xs:List SV}{vs:List Value}{A L i id k sz t:Nat}{o:Oper}{y:Operand}{P:Program}{R:RL}{ρ:bw}{b b2:SB}{X Y z:SV}
theorem SO{x y:SV}(h:aD ρ xs vs)(hk:xs[k]?=aa x)(hy:∀v,av ρ x v->av ρ y v):aD ρ (xs.set k y) vs:=by
 obtain⟨v,hv,hr⟩:=h.get hk;have h2:=h.set (k:=k) (hy v hr);have e:vs.set k v=vs:=by
  apply ku;intro j;rw [pQ];by_cases hj:k=j
  .subst hj;obtain⟨hlt,e⟩:=dA.1 hv;rw [if_pos rfl,if_pos hlt,hv]
  .rw [if_neg hj]
 rwa [e]at h2
theorem Jh{x:SV}(h:cw xs=ab)(hx:x.atom=ab):cw (xs.set k x)=ab:=by
 unfold cw at*;rw [jg]at*;intro y hy;rcases List.mem_or_eq_of_mem_set hy with h2|h2
 .exact h y h2
 .rw [h2];exact hx
theorem cl.cell(q k:Nat)(x y:SV)(hq:hk H q=aa (.box l))(hx:l[k]?=aa x)(W:y.atom=ab)(V:H.length<=L)(hy:∀ρ w,iX ρ (hg H) w->∀v,av ρ x v->av ρ y v):cl A R H L R (eX H [(q,aa (.box (l.set k y)))]) L:=by
 intro N B ρ a w hs hl;have I:=hq;rw [kJ]at hq;have hg2:∀id,hg (eX H [(q,aa (.box (l.set k y)))]) id=if id=q then aa (.box (l.set k y))else hg H id:=λid=>by
  rw [mK];by_cases h:id=q
  .subst h;simp [jX]
  .have:(id==q)=af:=kV;simp [jX,gJ,this,h]
 have hf:∀rb kk o,foot rb (.box (l.set k y)) kk o↔foot rb (.box l) kk o:=λrb kk o=>by simp only [foot,fJ]
 have G:∀kk o,dV ρ (hg (eX H [(q,aa (.box (l.set k y)))])) kk o->dV ρ (hg H) kk o:=by
  rintro kk o ⟨id,b,rb,h1,h2,h3,h4⟩;rw [hg2]at h1;by_cases h:id=q
  .rw [if_pos h]at h1;cases h1;subst h;exact⟨id,_,rb,hq,h2,rfl,(hf _ _ _).1 h4⟩
  .rw [if_neg h]at h1;exact⟨id,b,rb,h1,h2,h3,h4⟩
 refine⟨ρ,⟨hs.size,hs.regs,?_,?_,hs.fresh,hs.dfr⟩,?_,⟨λid _ rb h=>h,Fr.refl _ _,λkk o h=> .inl (G kk o h)⟩⟩
 .intro id b hb;rw [hg2]at hb;by_cases h:id=q
  .rw [if_pos h]at hb;cases hb;subst h;obtain⟨rb,h1,⟨c,t,fz,g1,g2,g3,g4,g5⟩,g6,g7⟩:=hs.heap id _ hq;refine⟨rb,h1,⟨c,t,fz,g1,Jh g2 W,?_,g4,by rw [fJ];exact g5⟩,by rw [fJ];exact g6,g7⟩;rw [fJ];exact SO g3 hx (hy ρ w hs.heap)
  .rw [if_neg h]at hb;exact hs.heap id b hb
 .intro i j bi U ri O hne hi hj hri F hb kk o ⟨hfi,u⟩;rw [hg2]at hi hj;by_cases h1:i=q
  .rw [if_pos h1]at hi;cases hi;rw [if_neg (λe=>hne (by rw [h1,e]))]at hj;subst h1;exact hs.sep i j _ U ri O hne hq hj hri F rfl kk o ⟨(hf _ _ _).1 hfi,u⟩
  .rw [if_neg h1]at hi;by_cases h2:j=q
   .rw [if_pos h2]at hj;cases hj;subst h2;exact hs.sep i j bi _ ri O hne hi hq hri F hb kk o ⟨hfi,(hf _ _ _).1 u⟩
   .rw [if_neg h2]at hj;exact hs.sep i j bi U ri O hne hi hj hri F hb kk o ⟨hfi,u⟩
 .have:=gn hl I;exact pw V (λid Z hm=>A3)
theorem cl.virt0(ty:Nat):cl A R H L R (eX H [(L,aa (.row ty []))]) (L+1):=by
 intro N B ρ a w hs hl;have hc:=cI.virtual (ρ:=ρ) (H:=hg H) (w:=w) (t:=ty) (hs.fresh L (bH _));have u:=hc.evo (H:=hg H) (λ_ _ _=>rfl) hs.heap hs.sep;rw [<-mK]at u;refine⟨_,⟨hs.size,λt v hv=>(hs.regs t v hv).ext u.ext,u.heap,u.sep,?_,hs.dfr⟩,?_,u.ev.toA⟩
 .intro id hid;exact Nz
 .exact pw ag (λid F hm=>A3)
theorem cl.virtB(q k ty sz:Nat){u:HL}(F:eX H [(L,aa (.row ty []))]=u)(hl2:eU u.length (L+1)=ab)(G:hk u L=aa (.row ty []))(hq:hk u q=aa (.box l))(hx:l[k]?=aa .slnil):cl A R H L R (eX u [(q,aa (.box (l.set k (.sl L 0 0 sz af))))]) (L+1):=by subst F;refine(cl.virt0 ty).trans (cl.cell q k .slnil _ hq hx rfl (cr hl2) ?_);intro ρ w hH v hv;simp only [av]at hv|-;rw [kJ]at G;obtain⟨rb,h1,_⟩:=hH L _ G;exact⟨rb,ah,0,h1,hv,bH _,λh=>(by cases h),.inl rfl⟩
theorem bV.absorb{f:Nat}{args args':List SV}{H0 N0 N1:HL}{ret ret':SV}(sel:List Nat)(fn:wY P f)(h:∀ρ w,iX ρ (hg H0) w->∃u:HL,u.length=sel.length/\(∀j,j<sel.length->∃b,hg u j=aa b/\b.own=af)/\iX (cu sel ρ) (hg u) w/\bV P f args' u ret' (u++N0))(hro:∀id b,hg H0 id=aa b->b.own=af)(ha:bu sel args'=aa args)(hr:bG (sel++dc H0.length N0.length) ret'=aa ret)(hs:∀(j s:Nat),sel[j]?=aa s->s<H0.length)(hl:N1.length=N0.length)(hN:∀j,(hg N0 j=ah/\hg N1 j=ah)\/∃b b',hg N0 j=aa b/\hg N1 j=aa b'/\cZ (sel++dc H0.length N0.length) b=aa b'):bV P f args H0 ret (H0++N1):=by
 refine⟨fn,λn ρ w vs hA hH hS hF=>?_⟩;obtain⟨u,hGl,x6,x5,hG⟩:=h ρ w hH;have hlt:∀{X:HL} {id:Nat} {b:SB},hg X id=aa b->id<X.length:=fun{X id b} h=>by
  unfold hg at h;rcases js id X.length with h2|h2
  .exact h2
  .rw [dI h2]at h;simp at h
 have Z:∀{X Y:HL} {id:Nat},id<X.length->hg (X++Y) id=hg X id:=fun{X Y id} h=>by unfold hg;rw [gP h]
 have W:∀{X Y:HL} {j:Nat},hg (X++Y) (X.length+j)=hg Y j:=fun{X Y j}=>by unfold hg;rw [iR (by omega)];congr 2;omega
 have x7:∀id b,hg u id=aa b->b.own=af:=λid b hb=>by obtain⟨b2,h1,h2⟩:=x6 id (by rw [<-hGl];exact hlt hb);rw [hb]at h1;cases h1;exact h2
 have hno:∀k o,¬dV (cu sel ρ) (hg u) k o:=by rintro k o ⟨id,b,rb,h1,h2,h3,h4⟩;rw [x7 id b h1]at h3;cases h3
 have hc:=hG.call n (cu sel ρ) w vs ((jH args' ha).2 hA) x5 (λi j bi bj ri rj hne hi hj hri V G=>by rw [x7 i bi hi]at G;cases G)
  (λid hid=>by have:sel[id]?=ah:=dI (by omega);simp only [cu,this])
 refine hc.mono ?_;intro e w' h9;cases e with
 |panicked c=>exact h9.elim
 |outgrown=>exact h9.elim
 |returned v=>
  obtain⟨ρf,q1,q2,q3,q4,q5⟩:=h9;let ρ':bw:=λid=>if id<H0.length then ρ id else ρf (u.length+(id-H0.length))
  have r1:∀id,id<H0.length->ρ' id=ρ id:=λid h=>if_pos h
  have r2:∀j,ρ' (H0.length+j)=ρf (u.length+j):=λj=>by
   show(if H0.length+j<H0.length then _ else _)=_
   rw [if_neg ag];congr 1;omega
  have U:cu (sel++dc H0.length N0.length) ρ'=ρf:=by
   funext j
   by_cases hj:j<sel.length
   .obtain⟨b,hb,_⟩:=x6 j hj;obtain⟨rb,h1,_⟩:=x5 j b hb;have h2:=q5.ext j ag rb h1;have I:(sel++dc H0.length N0.length)[j]?=aa sel[j]:=by rw [gP hj,dy hj]
    simp only [cu,dy hj]at h1;simp only [cu,I];rw [r1 _ (hs j _ (dy hj)),h1,h2]
   .have I:(sel++dc H0.length N0.length)[j]?=if j-sel.length<N0.length then aa (H0.length+(j-sel.length))else ah:=by rw [iR (by omega),vX]
    by_cases hj2:j-sel.length<N0.length
    .rw [if_pos hj2]at I;simp only [cu,I];rw [r2];congr 1;omega
    .rw [if_neg hj2]at I;simp only [cu,I];exact(q4 j qL).symm
  have hext:fK ρ ρ':=λid rb hid=>by
   rcases js id H0.length with h2|h2
   .rw [r1 id h2];exact hid
   .rw [hF id h2]at hid;cases hid
  have O:∀j b,hg N1 j=aa b->∃F rb,hg (u++N0) (u.length+j)=aa F/\cZ (sel++dc H0.length N0.length) F=aa b/\ρf (u.length+j)=aa rb/\cd ρf w' rb F:=by
   intro j b hb;rcases hN j with⟨_,h2⟩|⟨F,b',h1,h2,h3⟩
   .rw [h2]at hb;cases hb
   .rw [h2]at hb;cases hb;have h4:hg (u++N0) (u.length+j)=aa F:=by rw [W];exact h1
    obtain⟨rb,h5,h6⟩:=q2 _ _ h4;exact⟨F,rb,h4,h3,h5,h6⟩
  have G:∀id b rb k o,hg (H0++N1) id=aa b->ρ' id=aa rb->b.own=ab->foot rb b k o->w.heap.size<=k/\∃j F,id=H0.length+j/\hg (u++N0) (u.length+j)=aa F/\ρf (u.length+j)=aa rb/\F.own=ab/\foot rb F k o:=by
   intro id b rb k o hb hρ ho hf;rcases js id H0.length with h2|h2
   .rw [Z h2]at hb;rw [hro id b hb]at ho;cases ho
   .obtain⟨j,rfl⟩:∃j,id=H0.length+j:=⟨id-H0.length,ag⟩;rw [W]at hb;obtain⟨F,x0,h3,h4,h5,h6⟩:=O j b hb;rw [r2,h5]at hρ;cases hρ;have h7:=tC h4 k o (rb:=rb);have h8:F.own=ab:=by rw [<-h7.2];exact ho
    exact⟨(q5.own k o ⟨_,F,rb,h3,h5,h8,h7.1.2 hf⟩).resolve_left (hno k o),j,F,rfl,h3,h5,h8,h7.1.2 hf⟩
  refine⟨ρ',(lM ret' hr).1 (by rw [U];exact q1),?_,?_,?_,⟨λid hid rb hρ=>by rw [r1 id hid];exact hρ,q5.fr.mono (λk o _ h=>absurd h (hno k o)),?_⟩⟩
  .intro id b hb;rcases js id H0.length with h2|h2
   .rw [Z h2]at hb;obtain⟨rb,h3,h4⟩:=hH id b hb;exact⟨rb,by rw [r1 id h2];exact h3,(h4.frame q5.fr (λk o _=>hno k o)).ext hext⟩
   .obtain⟨j,rfl⟩:∃j,id=H0.length+j:=⟨id-H0.length,ag⟩;rw [W]at hb;obtain⟨F,x0,h3,h4,h5,h6⟩:=O j b hb;exact⟨x0,by rw [r2];exact h5,(l9 h4).1 (by rw [U];exact h6)⟩
  .intro i j bi bj ri rj hne hi hj hri V ho k o ⟨hfi,hfj⟩;obtain⟨hk,li,ci,e1,e2,e3,e4,e5⟩:=G i bi ri k o hi hri ho hfi;rcases js j H0.length with h2|h2
   .rw [Z h2]at hj;rw [r1 j h2]at V;obtain⟨rb,h3,h4⟩:=hH j bj hj;rw [V]at h3;cases h3;have:=h4.foot_lt hfj;omega
   .obtain⟨lj,rfl⟩:∃l,j=H0.length+l:=⟨j-H0.length,ag⟩;rw [W]at hj;obtain⟨F,x0,h3,h4,h5,h6⟩:=O lj bj hj;rw [r2,h5]at V;cases V;exact q3 _ _ ci F ri rj (λe=>hne ag) e2 h3 e3 h5 e4 k o ⟨e5,(tC h4 k o).1.2 hfj⟩
  .intro id hid;rw [aW]at hid;obtain⟨j,rfl⟩:∃j,id=H0.length+j:=⟨id-H0.length,ag⟩;rw [r2];exact q4 _ qL
  .rintro k o ⟨id,b,rb,h1,h2,h3,h4⟩;exact .inr (G id b rb k o h1 h2 h3 h4).1
abbrev PD:=Option (Nat×Bool×List UInt8)
def lH:PD->SV
 |none=> .slnil
 |some d=> .sl d.1 0 d.2.2.length 1 d.2.1
def eY:PD->List UInt8
 |none=> []
 |some d=>d.2.2
theorem Sm{ρ:bw}{H:cG}{w:World}(hH:iX ρ H w):∀{ds:List PD} {vs:List Value},(∀id f b,aa (id,f,b)∈ds->H id=aa (.ro (b.map .u8)))->aD ρ (ds.map lH) vs->
  ∃ps:List cC,ps.map (λp=>p.2.2)=ds.map eY/\(∀p∈ps,jQ w (aX p))/\∀ρ2,aD ρ2 (ps.map cA) vs
 | [],vs,_,h=>⟨[],rfl,aq,λρ2=>by simpa [aD]using h⟩
 |d::ds,vs,hd,h=>by
  rw [iT]at h;simp only [aD]at h;obtain⟨v,Z,rfl,h1,h2⟩:=h;obtain⟨ps,e1,e2,e3⟩:=Sm hH (λid f b hm=>hd id f b (jN _ hm)) h2;have u:∀p:cC,p.1=v->p.2.2=eY d->jQ w (aX p)->∃ps:List cC,ps.map (λp=>p.2.2)=(d::ds).map eY/\(∀p∈ps,jQ w (aX p))/\∀ρ2,aD ρ2 (ps.map cA) (v::Z):=by
   intro p g1 g2 g3;refine⟨p::ps,by rw [iT,iT,e1,g2],λq hq=>?_,λρ2=>aD.cons ?_ (e3 ρ2)⟩
   .rcases gy.1 hq with rfl|hq
    .exact g3
    .exact e2 q hq
   .simp only [cA,av,g1,true_and];obtain⟨⟨a,c,k1,_⟩,_⟩:=g3;exact⟨a,_,c,by rw [<-g1];exact k1⟩
  cases d with
  |none=>
   simp only [lH,av]at h1;subst h1;exact u (.slice ah 0 0,⟨0,0,0,ab⟩,[]) rfl rfl ⟨⟨ah,0,rfl,bH _,.inl rfl⟩,.inl rfl⟩
  |some d=>
   obtain⟨id,f,b⟩:=d;simp only [lH,av]at h1;obtain⟨rb,a,c,k1,U,V,_,F⟩:=h1;obtain⟨W,I,G⟩:=hH id _ (hd id f b (kX ..));rw [k1]at I;cases I;refine u (v,rb,b) rfl rfl ⟨⟨a,c,U,V,?_⟩,?_⟩
   .rcases F with F|⟨g1,g2,g3⟩
    .exact .inl F
    .exact .inr ⟨g1,g2,by show c*1<=rb.cap;omega⟩
   .rcases G with G|⟨⟨O,t,fz,g1,g2,g3,g4,g5⟩,g6,g7⟩
    .exact .inl G
    .exact .inr ⟨⟨O,t,fz,g1,g2,oR (cY _) g3,λh=>(by cases h),g5⟩,g6,g7⟩
theorem LH{ys:List SV}(h:aD ρ (xs++ys) vs):aD ρ xs (vs.take xs.length)/\aD ρ ys (vs.drop xs.length):=by have h1:=aD.take xs.length h;have h2:=aD.drop xs.length h;rw [sZ]at h1;rw [qP]at h2;exact⟨h1,h2⟩
theorem Ye{ys:List SV}:cw (xs++ys)=(cw xs&&cw ys):=by simp [cw]
theorem Hq{sel:List Nat}{H:cG}{w:World}{rb:RB}(hH:iX ρ H w){ys:List SV}{ds:List PD}(hd:∀id f b,aa (id,f,b)∈ds->H id=aa (.ro (b.map .u8)))(hx:bu sel ys=aa xs)(h:cd ρ w rb (.ro (xs++ds.map lH))):∃ps:List cC,ps.map (λp=>p.2.2)=ds.map eY/\(∀ρ2 F,cd ρ2 w F (.ext (.fam (ps.map aX))))/\cd (cu sel ρ) w rb (.ro (ys++ps.map cA)):=by
 have u:∀ps:List cC,(∀p∈ps,jQ w (aX p))->∀ρ2 F,cd ρ2 w F (.ext (.fam (ps.map aX))):=λps hp ρ2 F e he=>by obtain⟨p,hm,rfl⟩:=mw.1 he;exact hp p hm
 rcases h with h|⟨⟨c,t,fz,g1,g2,g3,g4,g5⟩,g6,g7⟩
 .obtain⟨rfl,h2⟩:=List.append_eq_nil_iff.1 h;obtain rfl:ds= []:=mY;obtain rfl:ys= []:=(LK hx).2 rfl;exact⟨[],rfl,u [] aq,.inl rfl⟩
 .obtain⟨h1,h2⟩:=LH g3;obtain⟨ps,e1,e2,e3⟩:=Sm hH hd h2;have G:ps.length=ds.length:=by have:=congrArg List.length e1;simpa using this
  obtain⟨I,l2⟩:=tT hx;refine⟨ps,e1,u ps e2,.inr ⟨⟨c,t,fz,g1,?_,?_,λh=>(by cases h),?_⟩,?_,g7⟩⟩
  .rw [Ye]at g2|-;simp only [fI]at g2|-;exact⟨by rw [<-l2];exact g2.1,Yf ps⟩
  .have hl:(ys++ps.map cA).length=(xs++ds.map lH).length:=by simp only [aW,dm];omega
   rw [hl];have h3:(c.toList.drop rb.off).take (xs++ds.map lH).length=((c.toList.drop rb.off).take (xs++ds.map lH).length).take xs.length++((c.toList.drop rb.off).take (xs++ds.map lH).length).drop xs.length:=(nJ _ _).symm;rw [h3];exact aD.append ((jH ys hx).2 h1) (e3 _)
  .simp only [aW,dm]at g5|-;omega
  .simp only [aW,dm]at g6|-;omega
theorem aje{N:Nat}{ops:Array Oper}{Q:RL->HL->Nat->Prop}{u:List Oper}(t:Nat){o n:Nat}{F:Bool}(ht:lk t R=aa (.sl id o n sz F))(h:qX P N ops Q u ((t,.sl id o n sz af)::R) H L):qX P N ops Q u R H L:=by
 refine⟨λr nn B ρ a w k K hos hs hl G=>?_⟩;refine h.run r nn B ρ a w k K hos ⟨hs.size,?_,hs.heap,hs.sep,hs.fresh,hs.dfr⟩ hl G;intro t2 v hv;simp only [rg,gJ]at hv;split at hv
 .rename_i e2;have:t2=t:=wO;subst this;cases hv;have h1:=hs.regs t2 _ pN;simp only [av]at h1|-;obtain⟨rb,a2,c,k1,I,O,_,U⟩:=h1;exact⟨rb,a2,c,k1,I,O,λh=>(by cases h),U⟩
 .exact hs.regs t2 v hv
theorem cl.short(q k:Nat)(hq:hk H q=aa (.row t l))(V:eU H.length L=ab):cl A R H L R (eX H [(q,aa (.row t (l.take k)))]) L:=by
 intro N B ρ a w hs hl;have I:=hq;rw [kJ]at hq;have hg2:∀id,hg (eX H [(q,aa (.row t (l.take k)))]) id=if id=q then aa (.row t (l.take k))else hg H id:=λid=>by
  rw [mK];by_cases h:id=q
  .subst h;simp [jX]
  .have:(id==q)=af:=kV;simp [jX,gJ,this,h]
 have hf:∀rb kk o,foot rb (.row t (l.take k)) kk o↔foot rb (.row t l) kk o:=λrb kk o=>qO
 have G:∀kk o,dV ρ (hg (eX H [(q,aa (.row t (l.take k)))])) kk o->dV ρ (hg H) kk o:=by
  rintro kk o ⟨id,b,rb,h1,h2,h3,h4⟩;rw [hg2]at h1;by_cases h:id=q
  .rw [if_pos h]at h1;cases h1;subst h;exact⟨id,_,rb,hq,h2,rfl,(hf _ _ _).1 h4⟩
  .rw [if_neg h]at h1;exact⟨id,b,rb,h1,h2,h3,h4⟩
 refine⟨ρ,⟨hs.size,hs.regs,?_,?_,hs.fresh,hs.dfr⟩,?_,⟨λid _ rb h=>h,Fr.refl _ _,λkk o h=> .inl (G kk o h)⟩⟩
 .intro id b hb;rw [hg2]at hb;by_cases h:id=q
  .rw [if_pos h]at hb;cases hb;subst h;obtain⟨rb,h1,h2⟩:=hs.heap id _ hq;refine⟨rb,h1,?_⟩;rcases h2 with⟨g1,g2⟩|⟨g0,c,fz,g1,g2,g3,g4,g5,g6⟩
   .exact .inl ⟨g1,by rw [g2];simp⟩
   .refine .inr ⟨g0,c,fz,g1,g2,g3,?_,?_,?_⟩
    .unfold cw at g4|-;rw [jg]at g4|-;exact λx hx=>g4 x (qS hx)
    .have:=g5.take k;rw [nK]at this;rw [eZ];exact this
    .rw [eZ];omega
  .rw [if_neg h]at hb;exact hs.heap id b hb
 .intro i j bi U ri O hne hi hj hri F hb kk o ⟨hfi,u⟩;rw [hg2]at hi hj;by_cases h1:i=q
  .rw [if_pos h1]at hi;cases hi;rw [if_neg (λe=>hne (by rw [h1,e]))]at hj;subst h1;exact hs.sep i j _ U ri O hne hq hj hri F rfl kk o ⟨(hf _ _ _).1 hfi,u⟩
  .rw [if_neg h1]at hi;by_cases h2:j=q
   .rw [if_pos h2]at hj;cases hj;subst h2;exact hs.sep i j bi _ ri O hne hi hq hri F hb kk o ⟨hfi,(hf _ _ _).1 u⟩
   .rw [if_neg h2]at hj;exact hs.sep i j bi U ri O hne hi hj hri F hb kk o ⟨hfi,u⟩
 .have:=gn hl I;exact pw (cr V) (λid W hm=>A3)
section
variable {P:Program} {ρ:bw} {H:cG} {w:World}
theorem YQ{x:Operand}{el n:Nat}{rb:RB}{e:Operand->Value}(ho:o.op= .call {callee:= .builtin .clear,args:= #[x],argTypes:= #[t]})(hT:P.underlying t=aa (.slice el))(hz:jm P el=aa z)(W:z.cells.length=sz)(h1:0<sz)(hx:av ρ (.sl id k n sz full) (e x))(hid:H id=aa b)(hr:ρ id=aa rb)(hb:cd ρ w rb b)(F:b.own=ab)(hin:k+n*sz<=b.cells.length)(h0:0<b.cells.length):∃w',(execOp e o).run P w= .ok (.value (.tuple #[])) w'/\cI ρ H w [(id,aa (b.with (bN b.cells k (.agg (dK n z.cells)))))] ρ w':=by
 obtain⟨zv,x6,ha,x5⟩:=Hu (w:=w) hz;obtain⟨zr,za⟩:=(ha ρ).cells_rel x5;have x0:=zr.length;simp only [qN]at x0;obtain⟨mr,ma⟩:=BU zr za n;have h9:Builtin.zeroCells zv.cells n=madeCells zv.cells (n*zv.cells.size):=rfl;rw [<-h9]at mr;have G:=mr.length;rw [we,W]at G;have U:av ρ (.agg (dK n z.cells)) (.agg (Builtin.zeroCells zv.cells n)):=by simp only [av];exact⟨_,rfl,ma,mr⟩
 obtain⟨p1,p2,p3⟩:=hb.put (k:=k) F U aq (by show k+(dK n z.cells).length<=_;rw [we,W];exact hin) h0;simp only [av]at hx;obtain⟨rb',a,cap,O,he,hnc,h8,I⟩:=hx;rw [hr]at O;cases O;have u:∀w',(match a with|some a=>if n=0 then Result.ok () w else(storeCells a (Builtin.zeroCells zv.cells n).toList).run P w|none=>Result.ok () w)= .ok () w'->(execOp e o).run P w= .ok (.value (.tuple #[])) w':=λw' hst=>by
  simp only [execOp,ho,resolve,invoke,builtin,bM,bZ,bQ,List.map_toArray,iT,qR,Builtin.clear_,sY,uh,eS hT,he];cases a with
  |none=>simp only at hst;cases hst;rfl
  |some a=>
   cases n with
   |zero=>simp only [if_true]at hst;cases hst;rfl
   |succ n=>
    simp only [Nat.add_one_ne_zero,if_false]at hst;simp only [bM,x6,bQ,hst,bZ]
 by_cases hz0:n=0
 .subst hz0;refine⟨w,u w ?_,?_⟩
  .cases a<;>rfl
  .have e0:(Value.cells (.agg (Builtin.zeroCells zv.cells 0))).toList= []:=ug (by
    rw [uq]at G;exact G)
   rw [e0,GW]at p1 p2;exact cI.put hid hr F p3 p1 p2
 .obtain⟨hv,h6,h7⟩:=I.resolve_left (by
   intro h;omega)
  obtain⟨⟨ca,ty,fz,hca,_,hrl,Z,x7⟩,_⟩:=hb.cellsAt h0;rw [F]at Z;have V:=hrl.length;have hst:=wg (P:=P) (o:=rb.off+k) (Builtin.zeroCells zv.cells n).toList 0 hca (Z rfl) (by rw [G];simp at V;omega) (mr.oneCell ma);exact⟨_,u _ (by rw [h6];simp only [hz0,if_false];exact hst),cI.put hid hr F p3 p1 p2⟩
end
theorem bp.room{M:Option Nat->Prop}{N:Nat}{c:Code}{Q:Exit->RL->HL->Nat->Prop}(t:Nat){o n:Nat}(ht:lk t R=aa (.sl id o n sz f))(h:∀k,n<=k->bp P M N A c Q ((t,.slc id o n k sz)::R) H L):bp P M N A c Q R H L:=by
 refine⟨λr nn B ρ a w hM hs hl=>?_⟩;have h1:=hs.regs t _ pN;simp only [av]at h1;obtain⟨rb,u,k,g1,g2,g3,g4,g5⟩:=h1;refine(h k g3).run r nn B ρ a w hM ⟨hs.size,?_,hs.heap,hs.sep,hs.fresh,hs.dfr⟩ hl;intro t2 v hv;simp only [rg,gJ]at hv;split at hv
 .rename_i e;have:t2=t:=lS;subst this;cases hv;simp only [av];exact⟨rb,u,k,g1,g2,g3,rfl,g5⟩
 .exact hs.regs t2 v hv
section
variable {P:Program}
theorem ad7{H:cG}{R:eM}{x:Operand}{el n c:Nat}(ho:o.op= .call {callee:= .builtin .cap,args:= #[x],argTypes:= #[t]})(hx:aZ R x=aa (.slc id k n c sz))(hu:P.underlying t=aa (.slice el)):LT P o R H [] [] (aa (.i (c:Int))):=by
 refine LT.pure cJ λe w ρ h1 _=>?_
 have h3:=h1 x fG _ hx;simp only [av]at h3;obtain⟨rb,a,u,_,h4,_,rfl,_⟩:=h3;exact⟨_,by simp [execOp,ho,resolve,invoke,builtin,Builtin.cap_,h4,eS hu,goInt];rfl,gO⟩
theorem RG{k:K1}{x:Operand}{off n c:Nat}(el:Nat)(ho:o.op= .call {callee:= .builtin .cap,args:= #[x],argTypes:= #[t]})(hx:ev R x=aa (.slc id off n c sz))(hu:P.underlying t=aa (.slice el))(h:k (aa (.i (c:Int))) [] [] L):cR P o R H L k:=dB (ad7 ho (bq hx) hu) h
def qJ:SV->Option (Nat×Nat×Nat×Nat×Bool)
 | .sl id o n sz f=>aa (id,o,n,sz,f)
 | .slc id o n _ sz=>aa (id,o,n,sz,af)
 |_=>ah
theorem AO{x:SV}{v:Value}{o n:Nat}(h:qJ x=aa (id,o,n,sz,f))(hr:av ρ x v):av ρ (.sl id o n sz f) v:=by cases x<;>simp only [qJ]at h<;>first|(cases h;done)|(cases h;exact hr)|(cases h;exact hr.slc_sl)
theorem aed{H:cG}{R:eM}{x:Operand}{xT el n m F o2 c:Nat}(ho:o.op= .call {callee:= .builtin .copy,args:= #[x,y],argTypes:= #[t,xT]})(hT:P.underlying t=aa (.slice el))(hs:dq P el=aa sz)(hx:aZ R x=aa X)(hX:qJ X=aa (id,k,n,sz,full))(hid:H id=aa b)(O:b.own=ab)(I:k+n*sz<=b.cells.length)(hy:aZ R y=aa Y)(hY:qJ Y=aa (F,o2,m,sz,full2))(hb:H F=aa b2)(hin:o2+m*sz<=b2.cells.length)(hc:c=min m n)(h0:0<b.cells.length):LT P o R H [id,F] [(id,aa (b.with (bN b.cells k (.agg (((b2.cells.drop o2).take (m*sz)).take (c*sz))))))] (aa (.i (c:Int))):=by
 refine LT.of_run cJ λe w ρ h1 h2 _ U=>?_
 have hx2:=AO hX (h1 x fG _ hx);have Z:=AO hY (h1 y fG _ hy);obtain⟨rb,hr,V⟩:=h2 id aq _ hid;obtain⟨h6,W,G⟩:=h2 F aq b2 hb;obtain⟨w',a1,a2⟩:=O1 (w:=w) (H:=H) ho hT hs hx2 hid hr V O I (qD Z W G hin) hc h0;exact⟨_,w',ρ,a1,a2,.inl ⟨_,rfl,λu hu=>by cases hu;simp only [av]⟩⟩
theorem RH{k:K1}{x:Operand}{xT e off n u G m:Nat}(el:Nat)(ho:o.op= .call {callee:= .builtin .copy,args:= #[x,y],argTypes:= #[t,xT]})(hT:P.underlying t=aa (.slice el))(hs:dq P el=aa sz)(hx:ev R x=aa X)(hX:qJ X=aa (id,off,n,sz,full))(hid:hk H id=aa (.row e l))(F:off+n*sz<=l.length)(hy:ev R y=aa Y)(hY:qJ Y=aa (u,G,m,sz,full2))(hb:hk H u=aa b2)(hin:G+m*sz<=b2.cells.length)(h0:0<l.length)(hl:H.length<=L)(h:k (aa (.i ((min m n:Nat):Int))) [(id,aa (.row e (bN l off (.agg (((b2.cells.drop G).take (m*sz)).take (min m n*sz))))))] [id,u] L):cR P o R H L k:=
 rN (gn hl hid) aq (aed ho hT hs (bq hx) hX (gb hid) rfl F (bq hy) hY (gb hb) hin rfl h0) h
theorem aeb{H:cG}{R:eM}{x:Operand}{xT el n m F V c e:Nat}(ho:o.op= .call {callee:= .builtin .copy,args:= #[x,y],argTypes:= #[t,xT]})(hT:P.underlying t=aa (.slice el))(hs:dq P el=aa sz)(h0:0<sz)(hx:aZ R x=aa (.slc id k n c sz))(hid:H id=aa (.row e l))(hk:k<=l.length)(hn0:0<n)(hnm:n<=m)(hlk:l.length<=k+n*sz)(hy:aZ R y=aa Y)(hY:qJ Y=aa (F,V,m,sz,full2))(hb:H F=aa b2)(hin:V+n*sz<=b2.cells.length):LT P o R H [id,F] [(id,aa (.row e (l.take k++(b2.cells.drop V).take (n*sz))))] (aa (.i (n:Int))):=by
 refine LT.of_run cJ λev w ρ h1 h2 _ hfresh=>?_
 have hx2:=h1 x fG _ hx;have hy2:=AO hY (h1 y fG _ hy);obtain⟨rb,hr,hbr⟩:=h2 id aq _ hid;obtain⟨rb2,hr2,W⟩:=h2 F aq b2 hb;simp only [av]at hy2;obtain⟨rb2',ay,cy,x6,h6,hmy,_,hdy⟩:=hy2;have hy3:av ρ (.sl F V n sz af) (.slice ay n cy):=by simp only [av];exact⟨rb2',ay,cy,x6,rfl,by omega,λh=>(by cases h),hdy⟩
 obtain⟨vs,_,hfo,U,ha,cx,_⟩:=qD (P:=P) hy3 hr2 W hin;have h7:(Builtin.firstCells sz n (ev y)).run P w= .ok ⟨vs⟩ w:=by rw [h6];cases ay<;>exact hfo w.drawn
 have h8:(Builtin.lenOf (ev y)).run P w= .ok m w:=by rw [h6];rfl
 simp only [av]at hx2;obtain⟨rb',a,cap,x5,he,hnc,hcc,Z⟩:=hx2;rw [hr]at x5;cases x5;have hns:0<n*sz:=Nat.mul_pos hn0 h0;obtain⟨hv,ha2,hcapb⟩:=Z.resolve_left ag;have hcs:n*sz<=cap*sz:=iV _ ag;rcases hbr with⟨x7,_⟩|⟨_,ca,fz,hca,hz,hsz,h9,x0,hll⟩
 .rw [hv]at x7;cases x7
 have hvl:vs.length=n*sz:=U.length.trans cx;have hyl:(aB (n*sz) (b2.cells.drop V)).length=n*sz:=cx;have O:=ha;have hst:=wg (P:=P) (o:=rb.off+k) vs 0 hca hz ag (U.oneCell O);have hps:(jU ca (rb.off+k) vs).size=ca.size:=tQ _ _ _ ag;have hlr2:=x0.length;have G:(execOp ev o).run P w= .ok (.value (.int .i64 (n:Int))) (World.putCells w rb.blk (rb.off+k) vs):=by
  simp only [execOp,ho,resolve,invoke,builtin,bM,bZ,bQ,List.map_toArray,iT,qR,Builtin.copy_,sY,uh,pP,eS hT,he,h8,Rh,jt hnm,um hnm,ml hs,h7,ha2];try simp only [qT]at hst
  simp only [h8,bQ,um hnm,h7,hst];rfl
 refine⟨_,_,ρ,G,cI.put hid hr rfl (λ_ _ h=>h) (.inr ⟨hv,_,fz,World.putCells_heap w rb.blk _ _ hca,hz.put _ _ ag,by rw [hps];exact hsz,?_,?_,?_⟩) (Fr.putCells _ _ _ _ _ hca ag (λV h1 h2=>⟨hv,rfl,ag⟩)),.inl ⟨_,rfl,λu hu=>by cases hu;simp only [av]⟩⟩
 .simp only [cw,uf,fI,jg]at h9 O|-;exact⟨λz hz=>h9 z (qS hz),O⟩
 .have I:(l.take k++aB (n*sz) (b2.cells.drop V)).length=k+n*sz:=by rw [aW,eZ,hyl];omega
  rw [I];have e1:((jU ca (rb.off+k) vs).toList.drop rb.off).take (k+n*sz)=aB k ((ca.toList.drop rb.off).take l.length)++vs:=by
   apply ku;intro j;by_cases hj:j<k+n*sz
   .refine Ir ?_;by_cases h2:j<k
    .rw [if_neg ag];rw [gP aA,ic h2,vK ag,lU]
    .rw [if_pos ag];refine Cz ?_;congr 1;simp;omega
   .rw [dI aA,dI (by rw [aW,hvl];simp;omega)]
  rw [e1];exact(x0.take k).append U
 .rw [aW,eZ,hyl];omega
theorem afx{kk:K1}{x:Operand}{xT e n c u I m:Nat}(el:Nat)(ho:o.op= .call {callee:= .builtin .copy,args:= #[x,y],argTypes:= #[t,xT]})(hT:P.underlying t=aa (.slice el))(hs:dq P el=aa sz)(h0:0<sz)(hx:ev R x=aa (.slc id k n c sz))(hid:hk H id=aa (.row e l))(hkl:k<=l.length)(G:0<n)(hnm:n<=m)(F:l.length<=k+n*sz)(hy:ev R y=aa Y)(hY:qJ Y=aa (u,I,m,sz,full2))(hb:hk H u=aa b2)(hin:I+n*sz<=b2.cells.length)(hl:H.length<=L)(h:kk (aa (.i (n:Int))) [(id,aa (.row e (l.take k++(b2.cells.drop I).take (n*sz))))] [id,u] L):cR P o R H L kk:=
 rN (gn hl hid) aq (aeb ho hT hs h0 (bq hx) (gb hid) hkl G hnm F (bq hy) hY (gb hb) hin) h
theorem adQ{H:cG}{R:eM}{x:Operand}{xT el by_ nid n m c:Nat}(ho:o.op= .call {callee:= .builtin .append,args:= #[x,y],argTypes:= #[t,xT]})(hT:P.underlying t=aa (.slice el))(hX:P.underlying xT=aa (.int .i64))(hz:jm P el=aa z)(Z:z.cells.length=sz)(h0:0<sz)(hs:dq P el=aa sz)(hb:oO P el=aa by_)(O:0<by_)(hx:aZ R x=aa (.slc id k n c sz))(hid:H id=aa b)(V:k+n*sz<=b.cells.length)(hy:aZ R y=aa (.i (m:Int)))(hm:(n+m)*by_<=140737488355328)(hg:c<n+m)(hne:nid≠id):LT P o R H [id] [(nid,aa (.row el ((b.cells.drop k).take (n*sz)++dK m z.cells)))] (aa (.sl nid 0 (n+m) sz af)):=by
 refine LT.of_run cJ λe w ρ h1 h2 _ F=>?_
 have hx2:=h1 x fG _ hx;have W:=h1 y fG _ hy;have hx3:=hx2.slc_sl;simp only [av]at hx2 W;obtain⟨rb,hr,h8⟩:=h2 id aq _ hid;obtain⟨olds,_,ha,x7,h7,I,_⟩:=qD hx3 hr h8 V;have U:=ha (w.drawn+1);obtain⟨rb',a,cap,hr',he,hnc,h9,hdis⟩:=hx2;obtain⟨i,v,hi,hv,hvr,hvt⟩:=A9 hz;have x5:i.size=sz:=by unfold dq at hs;rw [hi]at hs;simpa using hs
 have G:i.bytes=by_:=by unfold oO at hb;rw [hi]at hb;simpa using hb
 obtain⟨zr,za⟩:=(hvr ρ).cells_rel hvt;have h6:=zr.length;simp only [qN]at h6;obtain⟨mr,ma⟩:=BU zr za m;have hzc:Builtin.zeroCells v.cells m=madeCells v.cells (m*v.cells.size):=rfl;rw [<-hzc]at mr;have hnm:n+m<=140737488355328:=jP (Nat.le_mul_of_pos_right _ O) hm;have x6:m*i.bytes<=140737488355328:=by rw [G];exact jP (iV _ (by omega)) hm
 subst h9;have x0:=Jf (P:=P) (ty:=o.type) (w:=w) (a:=a) (olds:=olds) hT hX hi hv x5 h0 x6 ag hnm (by rw [<-he];exact U) hg (by rw [G];exact O) (growslice_fits ag (by rw [G];exact hm));have hge:=grownCap_ge w (n+m) cap el;obtain⟨g1,g2⟩:=BH (ρ:=ρ) (w:=w) (nid:=nid) (el:=el) x7 h7 mr ma I (by rw [we,Z]) (by rw [h6];exact Z) hge;exact⟨.value _,_,_,ph ho (by rw [he,W];exact x0),cI.new (w.drawn+1) (F nid (aa (.row el ((b.cells.drop k).take (n*sz)++dK m z.cells))) aq AZ) rfl g1,.inl ⟨_,rfl,λu hu=>by cases hu;exact g2⟩⟩
theorem afs{kk:K1}{x:Operand}{xT n c:Nat}{v:Int}(el by_ m:Nat)(z:SV)(ho:o.op= .call {callee:= .builtin .append,args:= #[x,y],argTypes:= #[t,xT]})(hT:P.underlying t=aa (.slice el))(hX:P.underlying xT=aa (.int .i64))(hz:jm P el=aa z)(G:z.cells.length=sz)(h0:0<sz)(hs:dq P el=aa sz)(hb:oO P el=aa by_)(F:0<by_)(hx:ev R x=aa (.slc id k n c sz))(hid:hk H id=aa b)(u:k+n*sz<=b.cells.length)(hy:ev R y=aa (.i v))(hv:v=(m:Int))(hm:(n+m)*by_<=140737488355328)(hg:c<n+m)(hl:H.length<=L)(h:kk (aa (.sl L 0 (n+m) sz af)) [(L,aa (.row el ((b.cells.drop k).take (n*sz)++dK m z.cells)))] [id] (L+1)):cR P o R H L kk:=by subst hv;have I:=gn hl hid;exact rM (adQ ho hT hX hz G h0 hs hb F (bq hx) (gb hid) u (bq hy) hm hg ag) h
theorem ad8{H:cG}{R:eM}{x:Operand}{el n:Nat}(ho:o.op= .call {callee:= .builtin .clear,args:= #[x],argTypes:= #[t]})(hT:P.underlying t=aa (.slice el))(hz:jm P el=aa z)(U:z.cells.length=sz)(h1:0<sz)(hx:aZ R x=aa X)(hX:qJ X=aa (id,k,n,sz,f))(hid:H id=aa b)(F:b.own=ab)(hin:k+n*sz<=b.cells.length)(h0:0<b.cells.length):LT P o R H [id] [(id,aa (b.with (bN b.cells k (.agg (dK n z.cells)))))] (aa (.tup [])):=by
 refine LT.of_run cJ λe w ρ I h2 _ G=>?_
 have hx2:=AO hX (I x fG _ hx);obtain⟨rb,hr,O⟩:=h2 id aq _ hid;obtain⟨w',a1,a2⟩:=YQ (w:=w) (H:=H) ho hT hz U h1 hx2 hid hr O F hin h0;exact⟨_,w',ρ,a1,a2,.inl ⟨_,rfl,λu hu=>by cases hu;simp only [av];exact⟨[],rfl,by simp only [aD]⟩⟩⟩
theorem afw{k:K1}{x:Operand}{off n e:Nat}(el:Nat)(z:SV)(ho:o.op= .call {callee:= .builtin .clear,args:= #[x],argTypes:= #[t]})(hT:P.underlying t=aa (.slice el))(hz:jm P el=aa z)(u:z.cells.length=sz)(h1:0<sz)(hx:ev R x=aa X)(hX:qJ X=aa (id,off,n,sz,f))(hid:hk H id=aa (.row e l))(hin:off+n*sz<=l.length)(h0:0<l.length)(hl:H.length<=L)(h:k (aa (.tup [])) [(id,aa (.row e (bN l off (.agg (dK n z.cells)))))] [id] L):cR P o R H L k:=
 rN (gn hl hid) aq (ad8 ho hT hz u h1 (bq hx) hX (gb hid) rfl hin h0) h
theorem aeF{H:cG}{R:eM}{x:Operand}{args:Array Operand}{tys:Array TypeId}{f tS tR el:Nat}(fn:Func){j oi oj ni nj ei ej:Nat}{fi fj:Bool}{li lj:List SV}(hf:P.funcs[f]?=some fn)(hname:(fn.name== "runtime.NumGoroutine")=false)(hb:fn.body.isNone=true)(hn:Extern.findNext fn=none)(he:Extern.find fn=some (Extern.SlicesOverlaps.overlaps #[tS,tS] #[tR]))(hT:P.underlying tS=some (.slice el))(hs:dq P el=some sz)(h0:0<sz)(ho:o.op= .call ⟨.value x,args,tys⟩)(hx:aZ R x=some (.fn f []))(hargs:args.toList.map (aZ R)= [X,Y].map some)(hX:qJ X=some (i,oi,ni,sz,fi))(hY:qJ Y=some (j,oj,nj,sz,fj))(hij:i≠j)(hni0:0<ni)(hnj0:0<nj)(hi:H i=some (.row ei li))(hj:H j=some (.row ej lj))(hi5:ei≠5)(hj5:ej≠5):LT P o R H [i,j] [] (some (.b false)):=by
 refine LT.of_run cJ λe w ρ h1 h2 hS _=>?_
 have hxr:=h1 x fG _ hx;simp only [av]at hxr;obtain⟨cs,hex,hcs⟩:=hxr;rw [aD.nil_iff]at hcs;subst hcs;obtain⟨a1,a2,hargs2,hx1,hx2⟩:∃a1 a2,args.toList= [a1,a2]/\aZ R a1=aa X/\aZ R a2=aa Y:=by
  rcases hl:args.toList with _|⟨a1,_|⟨a2,_|⟨_,_⟩⟩⟩<;>rw [hl]at hargs<;>simp only [iT,qR,List.cons.injEq,reduceCtorEq,and_false,and_true]at hargs
  exact⟨a1,a2,rfl,hargs.1,hargs.2⟩
 have hm1:a1∈args.toList:=by rw [hargs2];simp
 have hm2:a2∈args.toList:=by rw [hargs2];simp
 have hv1:=AO hX (h1 a1 (by simp [ho,Op.operands,Call.operands];exact .inr (by simpa using hm1)) _ hx1);have hv2:=AO hY (h1 a2 (by simp [ho,Op.operands,Call.operands];exact .inr (by simpa using hm2)) _ hx2);obtain⟨ri,hri,hbi⟩:=h2 i aq _ hi;obtain⟨rj,hrj,hbj⟩:=h2 j aq _ hj;simp only [av]at hv1 hv2;obtain⟨ri',ai,ci,hri',e1,hni,_,hdi⟩:=hv1;obtain⟨rj',aj,cj,hrj',e2,hnj,_,hdj⟩:=hv2;rw [hri]at hri';cases hri';rw [hrj]at hrj';cases hrj';have key:(Extern.SlicesOverlaps.overlaps #[tS,tS] #[tR] #[.slice ai ni ci,.slice aj nj cj]).run P w= .ok (.bool af) w:=by
  have hz:∀w:World,(sizeOf el).run P w= .ok sz w:=λw=>ml hs
  obtain⟨vi,rfl,gi⟩:=hdi.resolve_left ag
  .obtain⟨vj,rfl,gj⟩:=hdj.resolve_left ag;rcases hbi with⟨q,_⟩|⟨_,xi,zi,hhi,ui,si,_⟩
   .rw [vi]at q;cases q
   rcases hbj with⟨q,_⟩|⟨_,xj,zj,hhj,uj,sj,_⟩
   .rw [vj]at q;cases q
   have hcz:0<cj*sz:=Nat.mul_pos ag h0;have hne:ri.blk≠rj.blk:=λhbk=>hS i aq j aq _ _ ri rj hij hi hj hri hrj rfl ri.blk (max ri.off rj.off) ⟨⟨vi,rfl,ag⟩,⟨vj,hbk,ag⟩⟩
   have hzi:zi=(0,0):=ui.resolve_right λh=>hi5 h.1
   subst hzi;refine Lib.run_overlaps_apart w tS tR el hT sz hz ⟨ri.blk,ri.off+oi,ah⟩ ⟨rj.blk,rj.off+oj,ah⟩ ni ci nj cj hne ei ej xi.size xj.size (by simp [World.shape?,hhi]) (by simp [World.shape?,hhj]) ag (by simp [World.frozen?,hhi]) (by simp [World.frozen?,hhi])
 refine⟨.value (.bool af),w,ρ,?_,cI.zero ρ H w,.inl ⟨_,rfl,λv hv=>by cases hv;simp only [av]⟩⟩;have ea:args.map e= #[.slice ai ni ci,.slice aj nj cj]:=by apply Array.ext';simp [hargs2,e1,e2]
 have hr:=run_callFunc_extern hf hname hb hn he (args:= #[.slice ai ni ci,.slice aj nj cj]) (w:=w);rw [key,<-ea]at hr;unfold execOp;simp only [ho,resolve,hex,Deferred.ofValue,bM,bZ,pd,invoke];simpa [pd]using hr
end
open Go.Proofs
structure Hd where
 ep:UInt64
 d:UInt8
 kid:UInt64
 key:List UInt8
 un:UInt64
 en:Bool
abbrev pq(ep:UInt64)(d:UInt8)(kid:UInt64)(key:List UInt8):List SV:=gC++ [.u64 ep,.u8 0,.u8 d,.u64 kid,.s key]
abbrev iq(h:Hd):List SV:= [.u8 5,.u8 0,.u8 0,.u8 0,.u8 0,.u8 0,.u8 0,.u8 0,.u8 0,.u8 0,.u8 0,.u8 0,.u8 0,.u8 0,.u8 0,.u8 0,.u64 h.ep,.u8 0,.u8 h.d,.u64 h.kid,.s h.key,.u64 h.un,.b h.en]
def aI(l:List Hd):List SV:=l.flatMap iq
theorem vP(x:Hd)(l:List Hd):aI (x::l)=iq x++aI l:=rfl
theorem Al(a b:List Hd):aI (a++b)=aI a++aI b:=by unfold aI;simp
theorem mJ:∀l:List Hd,(aI l).length=l.length*23
 | []=>rfl
 |x::l=>by
  rw [vP,aW,mJ l];show 23+l.length*23=(l.length+1)*23
  omega
theorem Ge:∀(l:List Hd) (i:Nat),(aI l).drop (i*23)=aI (l.drop i)
 |l,0=>by rw [uq,cq,cq]
 | [],_+1=>by rw [List.drop_nil];exact List.drop_nil
 |x::l,i+1=>by
  rw [vP,show(i+1)*23=(iq x).length+i*23 by show _=23+_;omega,List.drop_append,List.drop_eq_nil_of_le (Nat.le_add_right _ _),jA,Nat.add_sub_cancel_left,List.drop_succ_cons];exact Ge l i
theorem BL:∀(l:List Hd) (i:Nat),(aI l).take (i*23)=aI (l.take i)
 |l,0=>by rw [uq,wT,wT];rfl
 | [],_+1=>by rw [List.take_nil];exact List.take_nil
 |x::l,i+1=>by
  rw [vP,show(i+1)*23=(iq x).length+i*23 by show _=23+_;omega,List.take_append,bW (Nat.le_add_right _ _),Nat.add_sub_cancel_left,List.take_succ_cons,vP,BL l i]
theorem Ky{l:List Hd}{x:Hd}(h:l[i]?=aa x):aI l=aI (l.take i)++(iq x++aI (l.drop (i+1))):=by have hi:=(dA.1 h).1;have hx:=(dA.1 h).2;conv=>lhs;rw [<-nJ i l,Al,List.drop_eq_getElem_cons hi,hx,vP]
theorem Dl{l:List Hd}{x:Hd}(h:l[i]?=aa x):(aI (l.take i)).length=i*23:=by have hi:=(dA.1 h).1;rw [mJ,eZ];congr 1;omega
theorem D0{l:List Hd}{x:Hd}(h:l[i]?=aa x)(hk:k=i*23):dz ab 23 (aI l) k=aa (.agg (iq x)):=by subst hk;have h1:=Dl h;exact Wd
theorem ai1{l:List Hd}{j:Nat}{x:Hd}{v:SV}(h:l[i]?=aa x)(hj:(iq x)[j]?=aa v)(hk:k=i*23+j):dz af 1 (aI l) k=aa v:=by subst hk;have h1:=Dl h;have h2:=(dA.1 hj).1;rw [Ky h];simp only [dz,gE,if_false];rw [iR ag,h1,Nat.add_sub_cancel_left,gP h2,hj]
theorem HE{l:List Hd}{j:Nat}{x y:Hd}{v:SV}(h:l[i]?=aa x)(hj:(iq x).set j v=iq y)(hjl:j<23)(hv:v.atom=ab)(hk:k=i*23+j):bN (aI l) k v=aI (l.set i y):=by
 subst hk;have h1:=Dl h;have hi:=(dA.1 h).1;have e:∀L:List SV,bN L (i*23+j) v=L.set (i*23+j) v:=λL=>by cases v<;>first|rfl|(cases hv;done)
 rw [e,Ky h,List.set_append_right _ _ ag,h1,Nat.add_sub_cancel_left,List.set_append_left _ _ (show j<23 from hjl),hj,List.set_eq_take_append_cons_drop,if_pos hi,Al,vP]
theorem Ty{l:List Hd}{x y:Hd}(h:l[i]?=aa x)(hk:k=i*23):bN (aI l) k (.agg (iq y))=aI (l.set i y):=by subst hk;have h1:=Dl h;have hi:=(dA.1 h).1;simp only [bN];rw [BL,show i*23+(iq y).length=(i+1)*23 by show i*23+23=_;omega,Ge,List.set_eq_take_append_cons_drop,if_pos hi,Al,vP,iw]
@[simp] theorem agS(x:Hd):bJ (iq x)=ab:=rfl
@[simp] theorem u5:∀l:List Hd,bJ (aI l)=ab
 | []=>rfl
 |x::l=>by
  rw [vP];simp only [bJ,uf,fI];exact⟨agS x,u5 l⟩
theorem qB(sel:List Nat)(l:List Hd):bu sel (aI l)=aa (aI l):=jc sel (u5 l)
theorem Qg(x:Hd)(k:UInt64):aQ 137 [.agg (iq x),.u64 k] [] (.i (oD x.kid k)) []:=by refine aL (fn:=Tryz.f137) ?_;refine zM ?_;refine zW (cP [] (ae2 _ _)) ?_;exact gI
theorem OW(a b:UInt64):decide (oD a b<0)=decide (a<b):=by
 unfold oD;by_cases h:a<b
 .simp [h]
 .by_cases h2:b<a<;>simp [h,h2]
theorem YU(a b:UInt64):(oD a b==0)=(a==b):=by
 unfold oD;by_cases h:a<b
 .have:a≠b:=λe=>by subst e;simp [gh]at h
  simp [h,this]
 .by_cases h2:b<a
  .have:a≠b:=λe=>by subst e;simp [gh]at h2
   simp [h,h2,this]
  .have:a=b:=dJ.1 (by rw [gh]at h h2;omega);simp [this,gh]
structure oC(l:List Hd)(k:UInt64)(p:Nat):Prop where
 le:p<=l.length
 lt:∀i x,i<p->l[i]?=aa x->x.kid<k
 ge:∀i x,p<=i->l[i]?=aa x->¬x.kid<k
def rF(l:List Hd)(k:UInt64)(p:Nat):Bool:=match l[p]? with|some x=>x.kid==k|none=>af
theorem acv{j:Nat}(h:i+j<2000000):au (((bh (fO (au ((i:Int)+(j:Int)))) (aF (aU 1)).toNat).toNat:Nat):Int)=(((i+j)/2:Nat):Int):=by
 have u:au ((i:Int)+(j:Int))=((i+j:Nat):Int):=cp;have e1:Int.fdiv (((i+j:Nat):Int)%18446744073709551616) (2^min (aF (aU 1)).toNat 64)=(((i+j)/2:Nat):Int):=by
  show Int.fdiv (((i+j:Nat):Int)%18446744073709551616) 2=_
  rw [Int.fdiv_eq_ediv_of_nonneg _ ag];omega
 rw [u,Tm,VE,e1];exact t8
theorem abg(l:List Hd)(hn:l.length<1000000)(k:UInt64)(p:Nat)(hp:oC l k p)(f:Bool):aM 136 [.sl 0 0 l.length 23 f,.u64 k,.fn 137 []] [an (aI l)] (.tup [.i (p:Int),.b (rF l k p)]) []:=by
 refine aL (fn:=Tryz.f136) ?_;refine zp ?_;refine fH (ι:={q:Nat×Nat//q.1<=p/\p<=q.2/\q.2<=l.length}) (λq=> [(0,.sl 0 0 l.length 23 f),(1,.u64 k),(2,.fn 137 []),(8,.i (l.length:Int)),(9,.i (q.1.1:Int)),(10,.i (q.1.2:Int))]) (λ_=> [an (aI l)]) (λ_=>1) (λq=>q.1.2-q.1.1) ⟨(0,l.length),kD _,hp.le,bH _⟩ ?_ ?_
 .exact bL [0]
 .rintro⟨⟨i,j⟩,hi,hj,hjl⟩;dsimp only;by_cases hij:i<j
  .have e1:decide ((i:Int)<(j:Int))=ab:=aA;have e2:=acv (i:=i) (j:=j) ag;obtain⟨m,hm⟩:=ax ((i+j)/2);rw [<-hm]at e2;have G:m<l.length:=ag;obtain⟨x,hx⟩:∃x,l[m]?=aa x:=⟨_,dy G⟩;have q:=Qg x k;have ew:au ((m:Int)+1)=((m+1:Nat):Int):=cp;by_cases hlt:x.kid<k
   .have e3:decide (oD x.kid k<0)=ab:=by rw [OW];simpa using hlt
    have u:m<p:=by
     rcases js m p with h|h
     .exact h
     .exact absurd hlt (hp.ge m x h hx)
    refine Wh ?_;repeat(first|refine zW (bl e3) ?_)
    refine⟨⟨(m+1,j),by show m+1<=p;omega,hj,hjl⟩,dt,?_⟩;exact bL [0]
   .have e3:decide (oD x.kid k<0)=af:=by rw [OW];simpa using hlt
    have u:p<=m:=by
     rcases js m p with h|h
     .exact absurd (hp.lt m x h hx) hlt
     .exact h
    refine Wh ?_;repeat(first|refine zW (bC e3) ?_)
    refine⟨⟨(i,m),hi,u,by show m<=l.length;omega⟩,dt,?_⟩;exact bL [0]
  .have e1:decide ((i:Int)<(j:Int))=af:=aA;obtain rfl:i=p:=ag;by_cases hil:i<l.length
   .have e2:decide ((i:Int)<(l.length:Int))=ab:=aA;obtain⟨x,hx⟩:∃x,l[i]?=aa x:=⟨_,dy hil⟩;have q:=Qg x k;have F:rF l k i=(oD x.kid k==0):=by unfold rF;rw [hx,YU]
    rw [F];conv=>whnf
    repeat(first|refine zW (bC e1) ?_|refine zW (bl e2) ?_|refine zH (D0 hx aq) ?_|refine aS ?_)
    refine zW (aE [] [] ab q) ?_;repeat(first|refine zW (bl e2) ?_|refine zW (iN e2) ?_)
    exact gH
   .have e2:decide ((i:Int)<(l.length:Int))=af:=aA;have F:rF l k i=af:=by unfold rF;rw [dI (by omega)]
    rw [F];conv=>whnf
    repeat(first|refine zW (bC e1) ?_|refine zW (bC e2) ?_|refine zW (cO e2) ?_)
    exact gH
abbrev nZ(s:UInt16)(p:UInt64)(b:Nat)(g:UInt64)(id n:Nat)(f:Bool):List SV:= [.u16 s,.u64 p,.i (b:Int),.u64 g,.sl id 0 n 1 f]
def cB(b:Nat):UInt64:=dr (aF (aU 1)) ((b:Int)).toNat-aF (aU 1)
def aV(p:UInt64)(b:Nat)(g:UInt64):UInt64:=dr p ((b:Int)).toNat|||g
theorem pD(s:UInt16)(p:UInt64)(b:Nat)(g:UInt64)(D:List UInt8)(f:Bool):aM 110 [.agg (nZ s p b g 0 D.length f)] [ak D] (.u64 (cB b)) []:=by refine aL (fn:=Tryz.f110) ?_;refine zM ?_;exact gH
theorem aeY(s:UInt16)(p:UInt64)(b:Nat)(g:UInt64)(D:List UInt8)(f:Bool):aM 139 [.agg (nZ s p b g 0 D.length f)] [ak D] (.u64 (aV p b g)) []:=by refine aL (fn:=Tryz.f139) ?_;refine zM ?_;exact gH
def iy(n:Nat):List UInt8:= [56,48,40,32,24,16,8,0].map λk=>dg ((n:Int).fdiv (2^k))
theorem KX(n:Nat)(hn:n<1000000000):aQ 53 [.i (n:Int)] [] (.sl 0 0 8 1 af) [aC 5 (iy n)]:=by
 refine aL (fn:=Tryz.f53) ?_;refine zp ?_;refine zW (pC dw fq bD 9) ?_;repeat(first|refine zN ⟨cr rfl,cr rfl⟩ ?_|refine zf ?_)
 exact bE [15]
end Go.Sh
namespace Go.Sh
variable{t:Nat}{o:Oper}
section
variable {P:Program}
theorem ad6{H:cG}{R:eM}{x:Operand}{el:Nat}(ho:o.op= .call {callee:= .builtin .cap,args:= #[x],argTypes:= #[t]})(hx:aZ R x=aa .slnil)(hu:P.underlying t=aa (.slice el)):LT P o R H [] [] (aa (.i 0)):=by
 refine LT.pure cJ λe w ρ h1 _=>?_
 have h3:=h1 x fG _ hx;simp only [av]at h3;exact⟨_,by simp [execOp,ho,resolve,invoke,builtin,Builtin.cap_,h3,eS hu,goInt];rfl,gO⟩
theorem RF{R:RL}{H:HL}{L:Nat}{k:K1}{x:Operand}(el:Nat)(ho:o.op= .call {callee:= .builtin .cap,args:= #[x],argTypes:= #[t]})(hx:ev R x=aa .slnil)(hu:P.underlying t=aa (.slice el))(h:k (aa (.i 0)) [] [] L):cR P o R H L k:=dB (ad6 ho (bq hx) hu) h
theorem adS{H:cG}{R:eM}{x y:Operand}{xT el by_ nid m:Nat}{z:SV}(ho:o.op= .call {callee:= .builtin .append,args:= #[x,y],argTypes:= #[t,xT]})(hT:P.underlying t=aa (.slice el))(hX:P.underlying xT=aa (.int .i64))(hz:jm P el=aa z)(U:z.atom=ab)(hs:dq P el=aa 1)(hb:oO P el=aa by_)(I:0<by_)(hx:aZ R x=aa .slnil)(hy:aZ R y=aa (.i (m:Int)))(h6:0<m)(hm:m*by_<=140737488355328):LT P o R H [] [(nid,aa (.row el (aK m z)))] (aa (.sl nid 0 m 1 af)):=by
 refine LT.of_run cJ λe w ρ h1 h2 _ F=>?_
 have hx2:=h1 x fG _ hx;have O:=h1 y fG _ hy;simp only [av]at hx2 O;obtain⟨i,v,hi,hv,hvc,V,G,Z⟩:=XZ hz U hs hb;have hnm:m<=140737488355328:=jP (Nat.le_mul_of_pos_right _ I) hm;have W:m*i.bytes<=140737488355328:=by rw [G];exact hm
 have hg:=Jf (P:=P) (ty:=o.type) (w:=w) (n:=0) (m:=m) (c:=0) (a:=ah) (olds:= []) hT hX hi hv V aw W hnm ag rfl ag (by rw [G];exact I) (by rw [ig,nextslicecap_zero (by omega),G];omega);have hge:=grownCap_ge w (0+m) 0 el;obtain⟨g1,g2⟩:=BH (ρ:=ρ) (w:=w) (nid:=nid) (el:=el) (sz:=1) (n:=0) (xs:= []) (olds:= []) (z:=v) (aD.nil_iff.2 rfl) rfl (XY (Z ρ) hvc m) (XX U m) aq aq (by rw [hvc];rfl) hge;simp only [ig,jA]at g1 g2 hg;exact⟨.value _,_,_,ph ho (by rw [hx2,O];exact hg),cI.new (w.drawn+1) (F nid (aa (.row el (aK m z))) aq aq) rfl g1,.inl ⟨_,rfl,λu hu=>by cases hu;exact g2⟩⟩
theorem aft{R:RL}{H:HL}{L:Nat}{k:K1}{x y:Operand}{xT:Nat}(el by_ m:Nat)(z:SV)(ho:o.op= .call {callee:= .builtin .append,args:= #[x,y],argTypes:= #[t,xT]})(hT:P.underlying t=aa (.slice el))(hX:P.underlying xT=aa (.int .i64))(hz:jm P el=aa z)(G:z.atom=ab)(hs:dq P el=aa 1)(hb:oO P el=aa by_)(u:0<by_)(hx:ev R x=aa .slnil){v:Int}(hy:ev R y=aa (.i v))(hv:v=(m:Int))(F:0<m)(hm:m*by_<=140737488355328)(h:k (aa (.sl L 0 m 1 af)) [(L,aa (.row el (aK m z)))] [] (L+1)):cR P o R H L k:=by subst hv;exact rM (adS ho hT hX hz G hs hb u (bq hx) (bq hy) F hm) h
end
open Go.Proofs
@[simp] theorem agU(n:Nat):bJ (aK n (SV.u8 0))=ab:=by
 induction n with
 |zero=>rfl
 |succ n ih=>simp [List.replicate_succ,bJ,iG]
theorem m57(n:Nat)(h0:0<n)(hn:n<100000000):aQ 57 [.slnil,.i (n:Int)] [] (.sl 0 0 0 1 af) [ao 5 (aK n (SV.u8 0))]:=by
 have e1:decide (((n:Nat):Int)<0)=af:=aq;have e2:au ((n:Int)-au ((0:Int)-0))=(n:Int):=cp;have e3:decide ((n:Int)>0)=ab:=aA;refine aL (fn:=Tryz.f57) ?_;refine zM ?_;refine zW (RF 5 rfl rfl bD) ?_;rw [e2];conv=>whnf
 repeat(first|refine zW (bl e3) ?_)
 refine zW (RF 5 rfl rfl bD) ?_;refine zc ?_;refine zW (aft 5 1 n (.u8 0) rfl bD bD bD rfl bD bD aw rfl rfl rfl h0 ag) ?_;refine zl ?_;refine⟨[0],?_,rfl,rfl,?_,rfl⟩
 .exact zo
 ·(repeat'(first|exact trivial|exact aY (agU _) rfl|refine aJ ?_ ?_|fail))<;>first|rfl|fail
theorem OR{a b A B:List UInt8}{Z:List SV}(hA:(A.drop 0).take a.length=a)(hB:(B.drop 0).take b.length=b):aB ((0+a.length)*1) (aG 0 (aB (0*1) (aG 0 Z)++aB (a.length*1) (aG 0 (A.map SV.u8))))++aB (b.length*1) (aG 0 (B.map SV.u8))=(a++b).map .u8:=by
 have h1:aB (a.length*1) (aG 0 (A.map SV.u8))=a.map .u8:=by rw [fS,<-o0,<-iU,hA]
 have h2:aB (b.length*1) (aG 0 (B.map SV.u8))=b.map .u8:=by rw [fS,<-o0,<-iU,hB]
 rw [h1,h2,uq,wT,jA,cq,fS,ig,bW aq,dU]
theorem uT(a b A B:List UInt8)(h0:0<a.length)(O:a.length<10000000)(hb:b.length<10000000)(hA:(A.drop 0).take a.length=a)(hB:(B.drop 0).take b.length=b)(G:0+a.length<=A.length)(I:0+b.length<=B.length)(f F fb:Bool):aM 19 [.sl 0 0 2 1 f] [an [.sl 1 0 a.length 1 F,.sl 2 0 b.length 1 fb],ak A,ak B] (.sl 3 0 (a.length+b.length) 1 af) [aC 5 (a++b)]:=by
 have e1:au ((0:Int)+(a.length:Nat))=(a.length:Int):=cp;have e2:au (au ((0:Int)+(a.length:Nat))+(b.length:Nat))=((a.length+b.length:Nat):Int):=by rw [e1];simp only [eI];omega
 have e3:decide (au ((0:Int)+(a.length:Nat))<0)=af:=by rw [e1];simp
 have u:decide (au (au ((0:Int)+(a.length:Nat))+(b.length:Nat))<0)=af:=by rw [e2,decide_eq_false_iff_not];omega
 have q:=m57 (a.length+b.length) ag ag;refine aL (fn:=Tryz.f19) ?_;refine zp ?_;refine xe ?_;repeat(first|refine zW (bC e3) ?_|refine aS ?_)
 repeat(first|refine zW (bC u) ?_|refine zf ?_)
 rw [e2];conv=>whnf
 refine zW (aE [] [ab] af q) ?_;refine xe ?_;refine zl ?_;refine⟨[0,1,2,5],?_,rfl,rfl,?_,rfl⟩
 ·(repeat'(fail))<;>first|exact iQ rfl az ag|fail
 ·(repeat'(first|exact trivial|exact aY (cY _) (OR hA hB).symm|refine aJ ?_ ?_|(refine dM ?_ ?_)))<;>first|rfl|exact aY bY az|fail
end Go.Sh
