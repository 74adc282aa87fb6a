/- Steps that are taken often. -/
import Derived.WalkKit
import Derived.RangeFuncNested
import Derived.RangeFuncCalls
import Derived.RangeFuncLeaves
import Derived.OrdersIn
import Derived.TacticsIn
import Derived.WalkLawsBesides
import Derived.Lib.Strings
namespace Go
theorem ax{α:Sort _}(a:α):∃x,x=a:=⟨a,rfl⟩
structure zn(Q:Prop):Prop where
 a:Q
theorem zh{α:Sort _}{p q:α->Prop}{a:α}(h:p a)(k:q a):∃z,p z/\q z:=⟨a,h,k⟩
theorem zH{α:Sort _}{p q:α->Prop}{a:α}(e:p a){Q:Prop}(k:Q)(h:zn Q->q a:=by
 intro zk;conv=>whnf
 exact zk.1):∃z,p z/\q z:=⟨a,e,h ⟨k⟩⟩
theorem zN{a b:Prop}(e:a){Q:Prop}(k:Q)(h:zn Q->b:=by
 intro zk;conv=>whnf
 exact zk.1):a/\b:=⟨e,h ⟨k⟩⟩
theorem zW{b P:Prop}(f:b->P){Q:Prop}(k:Q)(h:zn Q->b:=by
 intro zk;conv=>whnf
 exact zk.1):P:=f (h ⟨k⟩)
theorem zf{Q P:Prop}(k:Q)(h:zn Q->P:=by
 intro zk;first|(refine du rfl ?_;conv=>whnf)|(refine eV rfl ?_;conv=>whnf)|(refine bl rfl ?_;conv=>whnf)|(refine bC rfl ?_;conv=>whnf)|(refine Exists.intro _ (And.intro rfl ?_);conv=>whnf)|(refine And.intro (Nat.le_of_ble_eq_true rfl) ?_;conv=>whnf)|(refine And.intro (by kernel_rfl) ?_;conv=>whnf)|(refine And.intro ⟨rfl,Nat.le_of_ble_eq_true rfl⟩ ?_;conv=>whnf)|(refine And.intro ⟨rfl,rfl⟩ ?_;conv=>whnf)|(refine And.intro ⟨by decide,by decide⟩ ?_;conv=>whnf)|(refine And.intro ⟨Nat.le_of_ble_eq_true rfl,Nat.le_of_ble_eq_true rfl,Nat.le_of_ble_eq_true rfl⟩ ?_;conv=>whnf)
 exact zk.1):P:=h ⟨k⟩
theorem aS{Q P:Prop}(k:Q)(h:zn Q->P:=by
 intro zk;first|(refine du rfl ?_;conv=>whnf)|(refine eV rfl ?_;conv=>whnf)|(refine bl rfl ?_;conv=>whnf)|(refine bC rfl ?_;conv=>whnf)|(refine Exists.intro _ (And.intro rfl ?_);conv=>whnf)|(refine And.intro (Nat.le_of_ble_eq_true rfl) ?_;conv=>whnf)|(refine And.intro (by kernel_rfl) ?_;conv=>whnf)|(refine And.intro ⟨rfl,Nat.le_of_ble_eq_true rfl⟩ ?_;conv=>whnf)|(refine And.intro ⟨rfl,rfl⟩ ?_;conv=>whnf)|(refine And.intro ⟨by decide,by decide⟩ ?_;conv=>whnf)|(refine And.intro ⟨Nat.le_of_ble_eq_true rfl,Nat.le_of_ble_eq_true rfl,Nat.le_of_ble_eq_true rfl⟩ ?_;conv=>whnf)|(refine And.intro (by first|omega|(simp;done)|(simp;omega)|(simp [cM];omega)) ?_;conv=>whnf)
 exact zk.1):P:=h ⟨k⟩
theorem zc{Q P:Prop}(k:Q)(h:zn Q->P:=by
 intro zk;repeat(first|(refine du rfl ?_;conv=>whnf)|(refine eV rfl ?_;conv=>whnf)|(refine bl rfl ?_;conv=>whnf)|(refine bC rfl ?_;conv=>whnf)|(refine Exists.intro _ (And.intro rfl ?_);conv=>whnf)|(refine And.intro (Nat.le_of_ble_eq_true rfl) ?_;conv=>whnf)|(refine And.intro (by kernel_rfl) ?_;conv=>whnf)|(refine And.intro ⟨rfl,Nat.le_of_ble_eq_true rfl⟩ ?_;conv=>whnf)|(refine And.intro ⟨rfl,rfl⟩ ?_;conv=>whnf)|(refine And.intro ⟨by decide,by decide⟩ ?_;conv=>whnf)|(refine And.intro ⟨Nat.le_of_ble_eq_true rfl,Nat.le_of_ble_eq_true rfl,Nat.le_of_ble_eq_true rfl⟩ ?_;conv=>whnf))
 exact zk.1):P:=h ⟨k⟩
theorem zl{Q P:Prop}(k:Q)(h:zn Q->P:=by
 intro zk;repeat(first|(refine du rfl ?_;conv=>whnf)|(refine eV rfl ?_;conv=>whnf)|(refine bl rfl ?_;conv=>whnf)|(refine bC rfl ?_;conv=>whnf)|(refine Exists.intro _ (And.intro rfl ?_);conv=>whnf)|(refine And.intro (Nat.le_of_ble_eq_true rfl) ?_;conv=>whnf)|(refine And.intro (by kernel_rfl) ?_;conv=>whnf)|(refine And.intro ⟨rfl,Nat.le_of_ble_eq_true rfl⟩ ?_;conv=>whnf)|(refine And.intro ⟨rfl,rfl⟩ ?_;conv=>whnf)|(refine And.intro ⟨by decide,by decide⟩ ?_;conv=>whnf)|(refine And.intro ⟨Nat.le_of_ble_eq_true rfl,Nat.le_of_ble_eq_true rfl,Nat.le_of_ble_eq_true rfl⟩ ?_;conv=>whnf)|(refine And.intro (by first|omega|(simp;done)|(simp;omega)|(simp [cM];omega)) ?_;conv=>whnf))
 exact zk.1):P:=h ⟨k⟩
theorem zo{p:Prop}(h:p:=by(repeat'(first|exact trivial|refine And.intro ?_ ?_|(refine wA ?_)|(refine pJ ?_)|(refine dM ?_ ?_)))<;>first|rfl|exact aY (by first|(simp;done)|fail) (by rfl)|exact ke (by first|(simp;done)|fail) (by rfl) rfl):p:=h
theorem ag{p:Prop}(h:p:=by omega):p:=h
theorem aq{p:Prop}(h:p:=by simp):p:=h
theorem aw{p:Prop}(h:p:=by decide):p:=h
theorem az{p:Prop}(h:p:=by rfl):p:=h
theorem aA{p:Prop}(h:p:=by simp;omega):p:=h
theorem aT{p:Prop}(h:p:=by first|rfl|omega|fail):p:=h
theorem bD{p:Prop}(h:p:=by kernel_rfl):p:=h
theorem bI{p:Prop}(h:p:=by simp [qw]):p:=h
theorem bY{p:Prop}(h:p:=by first|(simp;done)|fail):p:=h
theorem cp{p:Prop}(h:p:=by simp only [eI];omega):p:=h
theorem cJ{p:Prop}(h:p:=by simp [ho]):p:=h
theorem dj{p:Prop}(h:p:=by simp [ho,Op.operands]):p:=h
theorem dt{p:Prop}(h:p:=by simp only;omega):p:=h
theorem eP{p:Prop}(h:p:=by first|rfl|omega|(simp;done)|(simp;omega)|fail):p:=h
theorem fG{p:Prop}(h:p:=by simp [ho,Op.operands,Call.operands]):p:=h
theorem gO{p:Prop}(h:p:=by simp only [av]):p:=h
theorem gX{p:Prop}(h:p:=by rw [List.length_map];omega):p:=h
theorem kV{p:Prop}(h:p:=by simpa using h):p:=h
theorem kW{p:Prop}(h:p:=by first|rfl|(simp;done)|fail):p:=h
theorem lu{p:Prop}(h:p:=by rw [List.length_take];omega):p:=h
theorem lv{p:Prop}(h:p:=by simpa using h1):p:=h
theorem lS{p:Prop}(h:p:=by simpa using e):p:=h
theorem mY{p:Prop}(h:p:=by simpa using h2):p:=h
theorem mZ{p:Prop}(h:p:=by simpa [hg]using h):p:=h
theorem m0{p:Prop}(h:p:=by first|rfl|(simp [hl];done)|fail):p:=h
theorem m9{p:Prop}(h:p:=by first|exact @rfl Nat _|omega|(simp;done)|(simp;omega)|exact Nat.le_of_ble_eq_true rfl|(show _*4<=_;omega)|decide|(simp [cM];done)|(simp [cM];omega)|(simp only [cM,List.length_map];omega)|(simp only [Vb,UA,List.length_map,List.length_set];omega)|fail):p:=h
theorem ou{p:Prop}(h:p:=by simpa using hid):p:=h
theorem ov{p:Prop}(h:p:=by simp at hc;omega):p:=h
theorem ox{p:Prop}(h:p:=by rw [decide_eq_false_iff_not];omega):p:=h
theorem pL{p:Prop}(h:p:=by simpa only [av]using k):p:=h
theorem pM{p:Prop}(h:p:=by simp at h):p:=h
theorem pN{p:Prop}(h:p:=by rw [rg,<-vV];exact ht):p:=h
theorem qL{p:Prop}(h:p:=by rw [List.length_append];omega):p:=h
theorem qM{p:Prop}(h:p:=by first|rfl|(simp;omega)):p:=h
theorem sg{p:Prop}(h:p:=by simp [hg]at h):p:=h
theorem sV{p:Prop}(h:p:=by simp [eY];omega):p:=h
theorem t9{p:Prop}(h:p:=by simp [jT]):p:=h
theorem ua{p:Prop}(h:p:=by simpa using hj):p:=h
theorem ub{p:Prop}(h:p:=by simp only [eI,decide_eq_false_iff_not];omega):p:=h
theorem uc{p:Prop}(h:p:=by simpa using hjc):p:=h
theorem ud{p:Prop}(h:p:=by simp at hjc;omega):p:=h
theorem wN{p:Prop}(h:p:=by simpa using hx):p:=h
theorem wO{p:Prop}(h:p:=by simpa using e2):p:=h
theorem wG{p:Prop}(h:p:=by simp [rn]at h):p:=h
theorem wH{p:Prop}(h:p:=by first|rfl|(simp [hl,hwl];done)|fail):p:=h
theorem wJ{p:Prop}(h:p:=by rw [<-hk];simp):p:=h
theorem wL{p:Prop}(h:p:=by first|rfl|(simp [hS];done)|fail):p:=h
theorem wM{p:Prop}(h:p:=by simpa [hrr]using hq):p:=h
theorem AZ{p:Prop}(h:p:=by simpa using hne):p:=h
theorem A2{p:Prop}(h:p:=by simpa using ho):p:=h
theorem A3{p:Prop}(h:p:=by simp at hm;omega):p:=h
theorem A4{p:Prop}(h:p:=by simpa [hg]using h2):p:=h
theorem A5{p:Prop}(h:p:=by rw [List.length_map];exact Nat.le_refl _):p:=h
theorem A6{p:Prop}(h:p:=by rw [htm];simp;omega):p:=h
theorem A7{p:Prop}(h:p:=by rw [hG];exact TL ..):p:=h
theorem A8{p:Prop}(h:p:=by rw [eb];exact g3):p:=h
theorem CC{p:Prop}(h:p:=by simp only [List.length_append];omega):p:=h
theorem CD{p:Prop}(h:p:=by simp only [rbs];omega):p:=h
theorem CE{p:Prop}(h:p:=by simp [iZ]at hw):p:=h
theorem CF{p:Prop}(h:p:=by rw [i1];decide):p:=h
theorem CG{p:Prop}(h:p:=by first|(simp;done)):p:=h
theorem CH{p:Prop}(h:p:=by unfold mC;simp [hno]):p:=h
theorem CI{p:Prop}(h:p:=by rw [List.length_append,lt]):p:=h
theorem CJ{p:Prop}(h:p:=by rw [lt,List.drop_zero]):p:=h
theorem CK{p:Prop}(h:p:=by exact @rfl Nat _):p:=h
theorem EI{p:Prop}(h:p:=by simp [ho,Op.operands,hy]):p:=h
theorem EJ{p:Prop}(h:p:=by simp only [cZ,h]):p:=h
theorem EK{p:Prop}(h:p:=by simpa using Array.mem_of_getElem? ho):p:=h
theorem EL{p:Prop}(h:p:=by rw [hX];exact DS _ _ _):p:=h
theorem EF{p:Prop}(h:p:=by first|(simp [bG,bu,jc];rfl)):p:=h
theorem EG{p:Prop}(h:p:=by rw [decide_eq_true_eq];omega):p:=h
theorem EH{p:Prop}(h:p:=by exact Nat.le_of_ble_eq_true rfl):p:=h
theorem Iy{p:Prop}(h:p:=by rw [<-hq];simp only [Int.natCast_mul,Int.natCast_pow];rfl):p:=h
theorem Iz{p:Prop}(h:p:=by subst e;rw [h]at hc;cases hc):p:=h
theorem IA{p:Prop}(h:p:=by rw [htxs,List.length_append]at hbb;omega):p:=h
theorem IB{p:Prop}(h:p:=by rw [List.length_append,List.length_drop]):p:=h
theorem IC{p:Prop}(h:p:=by rw [<-List.length_drop,hE,hrl];omega):p:=h
theorem ID{p:Prop}(h:p:=by rw [aj2 _ _ (by omega),htxs,List.length_append]):p:=h
theorem IE{p:Prop}(h:p:=by rw [hY,List.replicate_succ',List.append_assoc];simp):p:=h
theorem IF{p:Prop}(h:p:=by rw [hZ];exact BE _ _ _):p:=h
theorem IG{p:Prop}(h:p:=by rw [beq_eq_false_iff_ne];omega):p:=h
theorem II{p:Prop}(h:p:=by first|omega|(simp [hl];done)|fail):p:=h
theorem IJ{p:Prop}(h:p:=by first|(simp [oP,qw];done)|fail):p:=h
theorem IK{p:Prop}(h:p:=by rw [ht,List.length_take];omega):p:=h
theorem IM{p:Prop}(h:p:=by rw [hu,List.length_drop];omega):p:=h
theorem IN{p:Prop}(h:p:=by rw [List.take_take];congr 1;omega):p:=h
theorem IP{p:Prop}(h:p:=by rw [List.drop_take,List.drop_zero]):p:=h
theorem IQ{p:Prop}(h:p:=by rw [show 0+q*1=q by omega];exact hDu):p:=h
theorem IS{p:Prop}(h:p:=by unfold jD;rw [<-hq,<-ht,<-hu,<-hG];simp [hs]):p:=h
theorem IT{p:Prop}(h:p:=by rw [List.length_map];exact ru hX):p:=h
theorem IU{p:Prop}(h:p:=by first|simp [oP,qw]):p:=h
theorem IV{p:Prop}(h:p:=by rw [hW];exact tI _ _):p:=h
theorem IW{p:Prop}(h:p:=by rw [hjw]at hq;simp at hq;omega):p:=h
theorem IX{p:Prop}(h:p:=by unfold e1;simp [gk,iY]):p:=h
theorem IY{p:Prop}(h:p:=by unfold e2;simp [gc,iY]):p:=h
theorem IZ{p:Prop}(h:p:=by first|rfl|(simp;done)|(simp;omega)):p:=h
theorem I0{p:Prop}(h:p:=by rw [List.replicate_succ',List.append_assoc]):p:=h
theorem I3{p:Prop}(h:p:=by rw [hV,List.length_append,List.length_replicate]):p:=h
theorem I4{p:Prop}(h:p:=by rw [fx,fy,fz];exact hin):p:=h
theorem N6{p:Prop}(h:p:=by rw [aD.nil_iff]at h;subst h;simp [aD]):p:=h
theorem N7{p:Prop}(h:p:=by rw [List.length_append,List.length_take];omega):p:=h
theorem N8{p:Prop}(h:p:=by simp only [av];exact⟨rb,hr,by rw [Nat.add_assoc]⟩):p:=h
theorem N9{p:Prop}(h:p:=by obtain⟨p,hp,rfl⟩:=hx;simp [ho,Op.operands];exact⟨p.1,by simpa using hp⟩):p:=h
theorem Oa{p:Prop}(h:p:=by unfold hg at hj0;rcases Nat.lt_or_ge j H0.length with h|h;exact h;rw [List.getElem?_eq_none h]at hj0;simp at hj0):p:=h
theorem NQ{p:Prop}(h:p:=by subst e;rw [hj0]at hi;cases hi;cases hw):p:=h
theorem NR{p:Prop}(h:p:=by rw [List.length_map,List.length_take];omega):p:=h
theorem NS{p:Prop}(h:p:=by first|(show _*4<=_;omega)|fail):p:=h
theorem NT{p:Prop}(h:p:=by rw [List.length_drop,List.length_map];exact Nat.le_refl _):p:=h
theorem NU{p:Prop}(h:p:=by unfold d9;exact Nat.mod_lt _ (by decide)):p:=h
theorem NV{p:Prop}(h:p:=by unfold eC;exact Nat.mod_lt _ (by decide)):p:=h
theorem NW{p:Prop}(h:p:=by first|rfl|(simp [lX];done)|fail):p:=h
theorem NX{p:Prop}(h:p:=by have h:=jc (fF 1 5) (cY S);simp only [List.cons_append,List.nil_append,bu,bG,h];rfl):p:=h
theorem NY{p:Prop}(h:p:=by first|exact Hf _ (by first|(simp [B8,Av,Aw];done)|fail)|fail):p:=h
theorem NZ{p:Prop}(h:p:=by rw [el2];exact Nat.le_trans (Dv _ _) (by rw [List.length_map];exact Nat.le_refl _)):p:=h
theorem N2{p:Prop}(h:p:=by rw [List.getElem?_set_self (by omega)]):p:=h
theorem N4{p:Prop}(h:p:=by rw [mJ,List.length_set,hel];show _+1<=_;omega):p:=h
theorem N5{p:Prop}(h:p:=by show _*64<=_;simp only [List.length_append,List.length_nil];omega):p:=h
theorem XK{p:Prop}(h:p:=by simp only [execOp,ho,he,Instr.storeAt,Instr.sureAddr,Sem.run_bind,Sem.run_pure,Result.andThen_ok,hrun]):p:=h
theorem XL{p:Prop}(h:p:=by simp only [oQ,List.mem_filterMap];exact⟨.tmp t,by simp [ho,Op.operands,Call.operands],rfl⟩):p:=h
theorem XM{p:Prop}(h:p:=by rw [hY,List.length_append,List.length_append,<-hnl,List.length_replicate];rfl):p:=h
theorem XN{p:Prop}(h:p:=by first|((repeat'(first|exact V8|exact gw rfl|(refine pJ ?_)|(refine dM ?_ ?_)));done)):p:=h
theorem XO{p:Prop}(h:p:=by(repeat'(first|exact trivial|refine And.intro ?_ ?_))<;>first|exact gw (by first|rfl|exact hfm.symm|fail)|rfl|exact dM (dh (by first|omega)) rfl):p:=h
theorem XP{p:Prop}(h:p:=by rw [hX];simp only [vF,List.length_nil,Bj];have:=v9 aad.length;omega):p:=h
theorem XQ{p:Prop}(h:p:=by unfold jD at ho;simp only [Bool.and_eq_true,decide_eq_true_eq]at ho;exact ho.1):p:=h
theorem XR{p:Prop}(h:p:=by rw [hK2,<-List.map_drop,List.length_map,List.length_drop,List.take_of_length_le (by simp)]):p:=h
theorem XS{p:Prop}(h:p:=by first|(refine Na.2 ?_;show 8<=(b.getD 0 0%16).toNat;omega)|fail):p:=h
theorem XT{p:Prop}(h:p:=by rw [hY,List.length_append,List.length_append,List.length_replicate];rfl):p:=h
theorem XU{p:Prop}(h:p:=by unfold hg at hj;rcases Nat.lt_or_ge j H1.length with h|h;exact h;rw [List.getElem?_eq_none h]at hj;simp at hj):p:=h
theorem XV{p:Prop}(h:p:=by(repeat'(first|exact trivial|refine And.intro ?_ ?_))<;>first|exact kb _ (jG ds)|rfl):p:=h
theorem XW{p:Prop}(h:p:=by(repeat'(first|exact trivial|refine And.intro ?_ ?_))<;>first|exact Gv rfl rfl rfl _ _ _ _|exact Hv rfl _ _ _|exact kb _ (cY _)|rfl):p:=h
theorem XJ{p:Prop}(h:p:=by rw [fA];exact⟨ow.sm,ow.n,ow.hx,ow.plc,ow.kid,by rw [fb];exact ow.px,ow.k0,ow.k1,ow.d0,ow.d1,by rw [fs_];exact ow.s1,by rw [fs_];exact ow.s2,by rw [fb];exact ow.sb⟩):p:=h
theorem zp{Q P:Prop}(k:Q)(h:zn Q->P:=by
 intro zk;try simp only [List.length_cons,List.length_nil,Nat.zero_add,Nat.reduceAdd]
 refine zW (mV dw fq bD) ?_;exact zk.1):P:=h ⟨k⟩
theorem zq{Q P:Prop}(k:Q)(h:zn Q->P:=by
 intro zk;repeat(first|refine zH (cK rfl az) ?_|refine zH (df rfl az) ?_|refine aS ?_)
 exact zk.1):P:=h ⟨k⟩
theorem zt{Q P:Prop}(k:Q)(h:zn Q->P:=by
 intro zk;conv=>whnf
 first|refine du (by exact hlt) ?_|fail
 conv=>whnf
 exact zk.1):P:=h ⟨k⟩
theorem zu{Q P:Prop}(k:Q)(h:zn Q->P:=by
 intro zk;refine zW (mV dw fq bD) ?_;exact zk.1):P:=h ⟨k⟩
theorem zw{Q P:Prop}(k:Q)(h:zn Q->P:=by
 intro zk;refine aL (fn:=Tryz.f109) ?_;refine zp ?_;refine zc ?_;refine zW (aE [3] [true] true qt) ?_;repeat(first|refine zH (df rfl az) ?_|refine aS ?_)
 refine zW (aE [1] [true] true ql) ?_;repeat(first|refine zW (bC hpx) ?_|refine zf ?_)
 exact zk.1):P:=h ⟨k⟩
theorem zy{Q P:Prop}(k:Q)(h:zn Q->P:=by
 intro zk;conv=>whnf
 first|refine eV az ?_|fail
 conv=>whnf
 exact zk.1):P:=h ⟨k⟩
theorem zA{Q P:Prop}(k:Q)(h:zn Q->P:=by
 intro zk;repeat(first|refine zH (nC (i:=i) aT) ?_|refine zH (cU (i:=i) aT ag) ?_|refine zH (bg (m:=i) az) ?_|refine zN ⟨CK,by first|(simp only [hf,cM,List.length_map];omega)|fail⟩ ?_|refine aS ?_)
 refine⟨⟨i+1,ag⟩,dt,?_⟩;exact zk.1):P:=h ⟨k⟩
theorem zB{Q P:Prop}(k:Q)(h:zn Q->P:=by
 intro zk;refine aL (fn:=Tryz.f10) ?_;refine zp ?_;repeat(first|refine zH (cK rfl wL) ?_)
 refine zW (aE [0,1] [true,true] true q16) ?_;repeat(first|refine zH (df rfl az) ?_|refine zf ?_)
 refine zW (aE [2] [true] true qt) ?_;repeat(first|refine zH (cK rfl wL) ?_|refine zH (df rfl az) ?_|refine zW (bC e1) ?_|refine zW (bC e2) ?_|refine aS ?_)
 exact zk.1):P:=h ⟨k⟩
theorem zC{Q P:Prop}(k:Q)(h:zn Q->P:=by
 intro zk;refine⟨⟨i+1,ag⟩,dt,?_⟩;exact zk.1):P:=h ⟨k⟩
theorem zD{p:Prop}(h:p:=by
 exact bL [0,1,2,3,4,5,6,7,8,9,10,11,12,13,14,15,16,17,18,19,20,21,22,23,24,25,26,27,28,29,30,31,32,33,34,35]):p:=h
theorem zE{Q P:Prop}(k:Q)(h:zn Q->P:=by
 intro zk;try simp only [List.length_cons,List.length_nil,Nat.zero_add,Nat.reduceAdd]
 exact zk.1):P:=h ⟨k⟩
theorem zF{Q P:Prop}(k:Q)(h:zn Q->P:=by
 intro zk;repeat(first|refine zH (cK rfl qM) ?_|refine zW (bl g1) ?_|refine zH (bg (m:=q) aT) ?_|refine aS ?_)
 refine zW (aE [4,5,1,2] [false,false,false,false,true] false (h95 _)) ?_;repeat(first|refine zW (bl g1) ?_|refine zH (bg (m:=q) aT) ?_|refine aS ?_)
 refine zW (aE [6,2] [false,false] true (h96 _)) ?_;exact zk.1):P:=h ⟨k⟩
theorem zG{p:Prop}(h:p:=by
 refine aL (fn:=Tryz.f164) ?_;refine zp ?_;refine zc ?_;refine zW (aE [] [] true q) ?_;exact bE []):p:=h
theorem zI{Q P:Prop}(k:Q)(h:zn Q->P:=by
 intro zk;conv=>whnf
 refine zl ?_;exact zk.1):P:=h ⟨k⟩
theorem zJ{Q P:Prop}(k:Q)(h:zn Q->P:=by
 intro zk;repeat(first|refine zH (df rfl az) ?_|refine aS ?_)
 exact zk.1):P:=h ⟨k⟩
theorem zK{Q P:Prop}(k:Q)(h:zn Q->P:=by
 intro zk;refine zW (cP [] (f86 _ _ _ _ _ _ _ _)) ?_;repeat(first|refine zH (MD wH rfl) ?_|refine zN ⟨by first|(simp [hl,hwl];omega)|fail,EH,NS⟩ ?_|refine aS ?_)
 exact zk.1):P:=h ⟨k⟩
theorem zL{Q P:Prop}(k:Q)(h:zn Q->P:=by
 intro zk;conv=>whnf
 refine zc ?_;exact zk.1):P:=h ⟨k⟩
theorem zM{Q P:Prop}(k:Q)(h:zn Q->P:=by
 intro zk;refine zp ?_;refine zc ?_;exact zk.1):P:=h ⟨k⟩
theorem zO{p:Prop}(h:p:=by
 conv=>whnf
 first|refine du (by exact hlt2) ?_|fail
 conv=>whnf
 repeat(first|refine zH (cU (i:=k) aT ag) ?_|refine zH (bg (m:=k) az) ?_|refine zH (cU (i:=4*(i-8)+k) aT ag) ?_|refine zH (bg (m:=4*(i-8)+k) aT) ?_|refine aS ?_)
 refine⟨⟨k+1,ag⟩,dt,?_⟩;exact bL [0,1,5,3]):p:=h
theorem zP{Q P:Prop}(k:Q)(h:zn Q->P:=by
 intro zk;refine aL (fn:=Tryz.f6) ?_;refine zp ?_;repeat(first|refine zH (cK rfl wL) ?_)
 refine zW (aE [0,1] [true,true] true q16) ?_;repeat(first|refine zH (df rfl az) ?_|refine zW (bC e1) ?_|refine zf ?_)
 refine zW (aE [] [true] false qh) ?_;repeat(first|refine zH (cK rfl wL) ?_)
 exact zk.1):P:=h ⟨k⟩
theorem zQ{p:Prop}(h:p:=by
 exact bE [0,1,2,3,4,5,6,7,8,9,10,11,12,13,14,15,16,17,18,19,20,21,22,23,24,25,26,27,28,29,30,31,32,33,34]):p:=h
theorem zR{p:Prop}(h:p:=by
 refine zp ?_;repeat(first|refine zH (cK rfl wL) ?_|refine zf ?_)
 refine zW (aE [3] [true] true q1) ?_;refine zW (aE [3,1,2] [true,true,true,true] false q) ?_;refine zc ?_;exact bE [0,1,2,3,4]):p:=h
theorem zS{Q P:Prop}(k:Q)(h:zn Q->P:=by
 intro zk;refine Nn (fn:=Tryz.f72) ?_;refine zE ?_;refine zW (mn (J:= [18,19]) dw fq bD) ?_;refine zc ?_;refine zW (aE [7] [true] true qt) ?_;refine zq ?_;rw [hkid,hd0,hd1];exact zk.1):P:=h ⟨k⟩
theorem zT{Q P:Prop}(k:Q)(h:zn Q->P:=by
 intro zk;repeat(first|refine zH (qC (i:=i) aT ag) ?_|refine zH (bg (m:=i) az) ?_|refine aS ?_)
 exact zk.1):P:=h ⟨k⟩
theorem zU{Q P:Prop}(k:Q)(h:zn Q->P:=by
 intro zk;repeat(first|refine zH (qC (i:=t+14) aT ag) ?_|refine zH (bg (m:=t+14) aT) ?_|refine aS ?_)
 rw [g14];refine zW (aE [] [] true q3) ?_;repeat(first|refine zH (qC (i:=t+9) aT ag) ?_|refine zH (bg (m:=t+9) aT) ?_|refine zH (qC (i:=t+1) aT ag) ?_|refine zH (bg (m:=t+1) aT) ?_|refine aS ?_)
 rw [g9,g1];refine zW (aE [] [] true q2) ?_;repeat(first|refine zH (qC (i:=t) aT ag) ?_|refine zH (bg (m:=t) aT) ?_|refine aS ?_)
 exact zk.1):P:=h ⟨k⟩
theorem zV{Q P:Prop}(k:Q)(h:zn Q->P:=by
 intro zk;conv=>whnf
 repeat(first|refine zH (cU (i:=0) az ag) ?_|refine aS ?_)
 exact zk.1):P:=h ⟨k⟩
theorem zX{p:Prop}(h:p:=by
 conv=>whnf
 repeat(first|refine zH (cU (i:=1+bK b+j) ag ag) ?_|refine zH (bg (m:=1+bK b+j) ag) ?_|refine aS ?_)
 refine⟨⟨j+1,ag⟩,dt,?_⟩;exact bL [0,1,2]):p:=h
theorem zY{Q P:Prop}(k:Q)(h:zn Q->P:=by
 intro zk;refine zu ?_;refine zJ ?_;refine zu ?_;refine zc ?_;refine zW (aE [1,2] [false,false] false h48) ?_;exact zk.1):P:=h ⟨k⟩
theorem zZ{p:Prop}(h:p:=by
 refine zc ?_;refine zW (aE [2,5] [false,false,true] false q2) ?_;refine zc ?_;refine zW (aE [] [true] false p2) ?_;refine zW (aE [2,7] [false,false,true] false q3) ?_;repeat(first|refine zH (cK rfl (by first|rfl|(simp [l2,l3,l4];done)|fail)) ?_|refine zH (df rfl (by first|rfl|(simp [l2,l3,l4];done)|fail)) ?_|refine zH (hld) ?_|refine zN ⟨Nat.le_of_ble_eq_true rfl,Nat.le_of_ble_eq_true rfl,Nat.le_of_ble_eq_true rfl,Nat.le_of_ble_eq_true rfl⟩ ?_|refine zN ⟨EH,by first|(simp [l2,l3,l4];done)|fail,EH⟩ ?_|refine aS ?_)
 exact bE [0,6]):p:=h
theorem z0{p:Prop}(h:p:=by
 conv=>whnf
 repeat(first|refine zH (cU (i:=1+j) ag ag) ?_|refine zH (bg (m:=1+j) ag) ?_|refine aS ?_)
 refine⟨⟨j+1,ag⟩,dt,?_⟩;exact bL [0,1,2]):p:=h
theorem z9{p:Prop}(h:p:=by
 refine zu ?_;refine zl ?_;refine⟨rfl,?_⟩;exact bL [0,1,2,3,4,5,6,7,8,9,10,11,12,13,14,15,16,17,18,19,20]):p:=h
theorem ya{Q P:Prop}(k:Q)(h:zn Q->P:=by
 intro zk;refine zt ?_;repeat(first|refine zH (cU (i:=i) aT ag) ?_|refine zH (bg (m:=i) az) ?_|refine zH (cU (i:=i/4*4+(i+1)%4) aT ag) ?_|refine zH (bg (m:=i/4*4+(i+1)%4) aT) ?_|refine zH (cU (i:=i/4*4+(i+2)%4) aT ag) ?_|refine zH (bg (m:=i/4*4+(i+2)%4) aT) ?_|refine zH (cU (i:=i/4*4+(i+3)%4) aT ag) ?_|refine zH (bg (m:=i/4*4+(i+3)%4) aT) ?_|refine aS ?_)
 exact zk.1):P:=h ⟨k⟩
theorem yb{Q P:Prop}(k:Q)(h:zn Q->P:=by
 intro zk;repeat(first|refine zW (bC e1) ?_|refine zf ?_)
 refine zW (aE [] [true] false qh) ?_;refine zc ?_;refine zW (aE [5,4,2] [false,true,true,true] false ((qc _))) ?_;refine zW (aE [0,1,6,3] [true,true,true,true,true] false qb) ?_;refine zc ?_;refine zW (aE [8,4,7] [false,true,true,true] false ((qd _))) ?_;exact zk.1):P:=h ⟨k⟩
theorem ye{Q P:Prop}(k:Q)(h:zn Q->P:=by
 intro zk;refine zl ?_;refine zW (aE [7,2,1] [false,true,true,true] false ((qc _))) ?_;refine zl ?_;rw [e3];conv=>whnf
 refine zW (aE [6,8,2,0] [false,true,true,true,true] false ((q47 _ _))) ?_;refine zc ?_;exact zk.1):P:=h ⟨k⟩
theorem yi{Q P:Prop}(k:Q)(h:zn Q->P:=by
 intro zk;repeat(first|refine zH (qC (i:=t) aT ag) ?_|refine zH (bg (m:=t) az) ?_|refine aS ?_)
 exact zk.1):P:=h ⟨k⟩
theorem yj{Q P:Prop}(k:Q)(h:zn Q->P:=by
 intro zk;repeat(first|refine zH (cK rfl az) ?_|refine zf ?_)
 exact zk.1):P:=h ⟨k⟩
theorem yl{Q P:Prop}(k:Q)(h:zn Q->P:=by
 intro zk;repeat(first|refine zH (cK rfl az) ?_)
 exact zk.1):P:=h ⟨k⟩
theorem ym{Q P:Prop}(k:Q)(h:zn Q->P:=by
 intro zk;conv=>whnf
 repeat(first|refine zW (bl e1) ?_|refine zW (cO rfl) ?_|refine aS ?_)
 rw [acC (j:=22) hx2 rfl aq];exact zk.1):P:=h ⟨k⟩
theorem yn{Q P:Prop}(k:Q)(h:zn Q->P:=by
 intro zk;refine zW (aE [0,1,2,3,4] [false,false,false,false,false] true qk) ?_;refine zc ?_;refine zW (afF (zv:= .pnil) 6 rfl (by kernel_rfl:Tryz.prog.underlying 143=some (.map 24 209)) (by kernel_rfl:Tryz.prog.underlying 24=some (.int .u64)) rfl rfl rfl bD hR) ?_;refine zc ?_;refine zW (aE [13] [true,false,true] false ((q8 false))) ?_;refine zc ?_;refine bp.toAr (A:=tE (kQ s b kid K).a) (B:=sH (kQ s b kid K).a++tE (kQ s b kid K).b) (C:=sH (kQ s b kid K).b++ [.b false]) (d:=K) (f:=false) 15 14 15 7 rfl rfl rfl rfl rfl (Ls _ _) (Lt _ _) ?_;exact zk.1):P:=h ⟨k⟩
theorem yo{Q P:Prop}(k:Q)(h:zn Q->P:=by
 intro zk;conv=>whnf
 repeat(first|refine zW (bl hl1) ?_|refine zW (iN hl1) ?_|refine zW (bl hl2) ?_|refine zH (nC (i:=16*k+i) aT) ?_|refine zH (cU (i:=16*k+i) aT ag) ?_|refine zH (bg (m:=16*k+i) az) ?_|refine zH (cU (i:=i) kW ag) ?_|refine zH (bg (m:=i) az) ?_|refine zN ⟨CK,by first|(simp only [hf,hkl,cM,List.length_map];omega)|fail⟩ ?_|refine aS ?_)
 refine⟨⟨i+1,ag,ag⟩,dt,?_⟩;exact zk.1):P:=h ⟨k⟩
theorem yq{Q P:Prop}(k:Q)(h:zn Q->P:=by
 intro zk;rw [e];refine aL (fn:=Tryz.f187) ?_;refine zp ?_;refine zW (aE [] [] true q0) ?_;refine⟨_,Tf hnz,?_⟩;refine zL ?_;exact zk.1):P:=h ⟨k⟩
theorem yr{p:Prop}(h:p:=by
 refine zI ?_;refine⟨⟨j+1,ag⟩,dt,?_⟩;dsimp only;rw [hYs];exact bL [0,3]):p:=h
theorem yt{Q P:Prop}(k:Q)(h:zn Q->P:=by
 intro zk;conv=>whnf
 first|refine du (by exact hlt2) ?_|fail
 conv=>whnf
 exact zk.1):P:=h ⟨k⟩
theorem yu{Q P:Prop}(k:Q)(h:zn Q->P:=by
 intro zk;conv=>whnf
 repeat(first|refine zH (lR wH) ?_|refine zH (MD wH rfl) ?_|refine zH (bg (m:=4*(i+1)) aT) ?_|refine zH (bg (m:=4*(i+1)+4) aT) ?_|refine zH (lQ (i:=4*(i+1)) aT ag) ?_|refine zW (bl hlt) ?_|refine zN ⟨by first|(simp [hl,hwl];omega)|fail,EH,NS⟩ ?_|refine aS ?_)
 exact zk.1):P:=h ⟨k⟩
theorem yv{p:Prop}(h:p:=by
 refine zl ?_;refine⟨⟨j+1,hc⟩,dt,?_⟩;dsimp only;exact bL [0,1,2,3,4,5,6]):p:=h
theorem yw{Q P:Prop}(k:Q)(h:zn Q->P:=by
 intro zk;refine zW (cP [] (FV (yB i) ((au ((k:Int)+4)).tmod 8) ((k+4)%8) (H7 k 4 ag ag) ag)) ?_;refine zc ?_;refine zW (cP [] (FV (yB i) ((au ((k:Int)+5)).tmod 8) ((k+5)%8) (H7 k 5 ag ag) ag)) ?_;refine zc ?_;refine zW (cP [] (FV (yB i) ((au ((k:Int)+6)).tmod 8) ((k+6)%8) (H7 k 6 ag ag) ag)) ?_;refine zc ?_;refine zW (cP [] (FV (yB i) ((au ((k:Int)+7)).tmod 8) ((k+7)%8) (H7 k 7 ag ag) ag)) ?_;exact zk.1):P:=h ⟨k⟩
theorem yx{Q P:Prop}(k:Q)(h:zn Q->P:=by
 intro zk;conv=>whnf
 first|refine du (by exact hge) ?_|fail
 exact zk.1):P:=h ⟨k⟩
theorem yy{Q P:Prop}(k:Q)(h:zn Q->P:=by
 intro zk;refine zW (dY [0] [ak K,al (kC s kid 0 48 S),al (iC 1 48 16 t 32),al [.fn 50 [.p 6 0,.p 10 0]],al [.fn 52 [.p 6 0,.p 7 0]],al [.p 11 0],al (zd 12),aC 179 (aO (K.take 16) 4 44)] (.agg [.fn 54 [.p 8 0,.p 9 0],.fn 55 [.p 7 0,.p 9 0,.p 8 0]]) q18) ?_;refine zl ?_;refine zW (aE [13,2,1] [false,true,true,true] false ((qc _))) ?_;refine zl ?_;rw [e3];conv=>whnf
 refine zW (aE [6,14,2,8,9,7,10,0,11,12] [false,true,true,false,false,true,false,true,false,true,true] false ((q47 _ _))) ?_;exact zk.1):P:=h ⟨k⟩
theorem yz{Q P:Prop}(k:Q)(h:zn Q->P:=by
 intro zk;refine aL (fn:=Tryz.f39) ?_;refine zp ?_;refine zW (aE [] [true] false f114) ?_;exact zk.1):P:=h ⟨k⟩
theorem yA{Q P:Prop}(k:Q)(h:zn Q->P:=by
 intro zk;refine zp ?_;refine zl ?_;refine zW (aE [0,1,2] [false,false,false] true q1) ?_;refine zl ?_;refine zW (aE [0,1,2] [false,false,false] true q2) ?_;refine zl ?_;exact zk.1):P:=h ⟨k⟩
theorem yC{Q P:Prop}(k:Q)(h:zn Q->P:=by
 intro zk;refine aL (fn:=Tryz.f12) ?_;refine zE ?_;refine zW (mn (J:= [2]) dw fq bD) ?_;refine zc ?_;exact zk.1):P:=h ⟨k⟩
theorem yD{p:Prop}(h:p:=by
 exact h.elim):p:=h
theorem yE{Q P:Prop}(k:Q)(h:zn Q->P:=by
 intro zk;conv=>whnf
 repeat(first|refine zH (cK rfl az) ?_|refine aS ?_)
 rw [show bN (bN (bN (bA 1 3 M s m1 g1 ep l2.length) (0+3) (.b true)) (0+4) (.agg (SB.box (bN (ln ep2 (.sl 5 0 ds.length 2 f)) (0+17) (.sl 7 0 ds.length 2 false))).cells)) (0+23) .slnil=bA 1 3 (.sl 7 0 ds.length 2 false) s true 5 ep2 l2.length from rfl,show bN (ln ep2 (.sl 5 0 ds.length 2 f)) (0+17) (.sl 7 0 ds.length 2 false)=ln ep2 (.sl 7 0 ds.length 2 false)from rfl];refine zW (aE [7] [false] true q4) ?_;exact zk.1):P:=h ⟨k⟩
theorem yF{Q P:Prop}(k:Q)(h:zn Q->P:=by
 intro zk;conv=>whnf
 first|refine eV (by exact hlt) ?_|fail
 exact zk.1):P:=h ⟨k⟩
theorem yG{Q P:Prop}(k:Q)(h:zn Q->P:=by
 intro zk;refine⟨⟨k+1,ag⟩,dt,?_⟩;exact zk.1):P:=h ⟨k⟩
theorem yH{p:Prop}(h:p:=by
 exact bL [0,1,2,3,4]):p:=h
theorem yI{p:Prop}(h:p:=by
 refine aL (fn:=Tryz.f26) ?_;refine zM ?_;exact bE [0]):p:=h
theorem yJ{Q P:Prop}(k:Q)(h:zn Q->P:=by
 intro zk;refine aL (fn:=Tryz.f141) ?_;refine zM ?_;refine zW (dY [0,5] [al (lE s p b g 5 D.length f sm tp cm),ak D] (.i 0) q) ?_;refine zc ?_;refine oN [5] [ak D,aC 5 Y] (.agg (.u16 s:: .u64 kid:: .sl 9 0 k 1 true::X.map .u8)) (q1) rfl rfl ⟨⟨rfl,az⟩,bU,bU,EF,?_⟩;refine zL ?_;refine zW (aE [9,6,6] [true,true,true,true] false q3) ?_;exact zk.1):P:=h ⟨k⟩
theorem yK{p:Prop}(h:p:=by
 repeat(first|refine zH (cK rfl qM) ?_|refine zW (bl g1) ?_|refine zW (cO g1) ?_|refine zf ?_)
 refine zW (aE [] [] true h94) ?_;refine zW (aE [] [] true h54) ?_;repeat(first|refine zH (bg (m:=q) aT) ?_|refine aS ?_)
 refine zW (aE [4,5,7,2] [false,false,false,false,true] false (h53 _)) ?_;refine zc ?_;exact bE [0,1,2,8]):p:=h
theorem yL{Q P:Prop}(k:Q)(h:zn Q->P:=by
 intro zk;dsimp only;rw [hz];exact zk.1):P:=h ⟨k⟩
theorem yM{p:Prop}(h:p:=by
 refine zN ⟨Nat.le_of_ble_eq_true rfl,by show 0+ps.length*1<=(ps.map cA).length;rw [List.length_map];omega,by show(1+ps.length)*24<=_;omega⟩ ?_;rw [hrow,Nat.add_comm 1 ps.length];refine zW (aE [5,2,3] [false,false,false,true] false q3) ?_;refine zW (aE [0] [false,true] false q2) ?_;refine zc ?_;refine zW (aE [8,7,6] [false,false,false,true] false q4) ?_;exact bE [0,1,2,9]):p:=h
theorem yN{p:Prop}(h:p:=by
 conv=>whnf
 first|refine du (by exact hlt3) ?_|fail
 conv=>whnf
 refine zA ?_;dsimp only;rw [<-hs];exact bL [0,1]):p:=h
theorem yO{p:Prop}(h:p:=by
 refine aL (fn:=Tryz.f13) ?_;refine zp ?_;refine zW (aE [] [] true q66) ?_;repeat(first|refine zH (cK rfl az) ?_|refine zH (df rfl az) ?_|refine zW (bl e1) ?_|refine zW (cO e1) ?_|refine zW (bC e2) ?_|refine zf ?_)
 refine zW (aE [0,0] [false,false,true] false q) ?_;refine zq ?_;exact bE [0,3]):p:=h
theorem yP{Q P:Prop}(k:Q)(h:zn Q->P:=by
 intro zk;refine⟨⟨t+1,ag⟩,dt,?_⟩;dsimp only;exact zk.1):P:=h ⟨k⟩
theorem yQ{Q P:Prop}(k:Q)(h:zn Q->P:=by
 intro zk;refine zW (cP [] h16) ?_;repeat(first|refine zH (Fm rfl) ?_|refine zH (bg (m:=1+bK b+bX b) aT) ?_|refine aS ?_)
 exact zk.1):P:=h ⟨k⟩
theorem yR{Q P:Prop}(k:Q)(h:zn Q->P:=by
 intro zk;refine aL (fn:=Tryz.f48) ?_;refine zp ?_;exact zk.1):P:=h ⟨k⟩
theorem yT{p:Prop}(h:p:=by
 repeat(first|refine zH (nC (i:=i) aT) ?_|refine zH (bg (m:=i) az) ?_|refine zH (cU (i:=16*n+i) aT ag) ?_|refine zH (bg (m:=16*n+i) aT) ?_|refine zN ⟨CK,by first|(simp only [hf,hw,cM,List.length_map];omega)|fail⟩ ?_|refine aS ?_)
 refine zC ?_;exact yH):p:=h
theorem yU{Q P:Prop}(k:Q)(h:zn Q->P:=by
 intro zk;refine⟨⟨i+1+1,ag⟩,dt,?_⟩;exact zk.1):P:=h ⟨k⟩
theorem yV{p:Prop}(h:p:=by
 refine⟨_,LZ hdz,?_⟩;conv=>whnf
 repeat(first|refine zH (D4 (i:=i) aT) ?_|refine zH (bg (m:=i) az) ?_|refine zN ⟨CK,by first|(simp only [hfln,Vb,UA,List.length_map,List.length_set];omega)|fail⟩ ?_|refine aS ?_)
 refine zC ?_;dsimp only;rw [<-hs];exact bL [0,1,2]):p:=h
theorem yW{Q P:Prop}(k:Q)(h:zn Q->P:=by
 intro zk;refine zS ?_;refine zW (aE [0,1,2,3,4] [false,false,false,false,false] true qk) ?_;refine zc ?_;refine zW (afE (zv:= .pnil) 6 rfl (by kernel_rfl:Tryz.prog.underlying 143=some (.map 24 209)) (by kernel_rfl:Tryz.prog.underlying 24=some (.int .u64)) rfl rfl rfl bD hj aq hjl) ?_;refine zc ?_;refine wu rfl ?_;refine zW (wo (pre:= [_,_,_]) dw bD) ?_;exact zk.1):P:=h ⟨k⟩
theorem yX{Q P:Prop}(k:Q)(h:zn Q->P:=by
 intro zk;refine zq ?_;refine zW (aE [0,1] [false,false] true (hf84 _ _ _ _)) ?_;exact zk.1):P:=h ⟨k⟩
theorem yY{p:Prop}(h:p:=by
 refine aL (fn:=Tryz.f7) ?_;refine zp ?_;refine zW (aE [0,2] [true,true] true q20) ?_;refine yb ?_;exact bE [0,1,2,3,9]):p:=h
theorem yZ{Q P:Prop}(k:Q)(h:zn Q->P:=by
 intro zk;repeat(first|refine zH (cK rfl qM) ?_|refine zf ?_)
 refine zW (aE [] [] true h94) ?_;refine zW (aE [] [] true h54) ?_;refine zc ?_;refine zW (aE [4,5,6,2] [false,false,false,false,true] false h53) ?_;repeat(first|refine zH (cK rfl qM) ?_)
 refine zW (aE [4,5,1,7] [false,false,false,false,true] false h95) ?_;exact zk.1):P:=h ⟨k⟩
theorem y5{p:Prop}(h:p:=by
 refine zI ?_;rw [hr1];exact bE [0]):p:=h
theorem y8{Q P:Prop}(k:Q)(h:zn Q->P:=by
 intro zk;conv=>whnf
 refine zW (Tx dw bD) ?_;exact zk.1):P:=h ⟨k⟩
theorem y9{p:Prop}(h:p:=by
 refine yt ?_;repeat(first|refine zH (cU (i:=k) aT ag) ?_|refine zH (bg (m:=k) az) ?_|refine zH (cU (i:=4*(i-4)+k) aT ag) ?_|refine zH (bg (m:=4*(i-4)+k) aT) ?_|refine aS ?_)
 refine yG ?_;exact bL [0,1,5,3]):p:=h
theorem xb{Q P:Prop}(k:Q)(h:zn Q->P:=by
 intro zk;refine zY ?_;repeat(first|refine zH (cK rfl az) ?_|refine zW (bl hlt) ?_|refine zf ?_)
 refine zW (cP [] (f88 _ _ _ _)) ?_;exact zk.1):P:=h ⟨k⟩
theorem xc{p:Prop}(h:p:=by
 refine aL (fn:=Tryz.f47) ?_;refine zp ?_;repeat(first|refine zH (cK rfl wL) ?_|refine zf ?_)
 refine zW (aE [3] [true] true q1) ?_;refine zW (aE [3,1,2] [true,true,true] false q) ?_;refine zc ?_;exact bE [0,1,2,3]):p:=h
theorem xd{Q P:Prop}(k:Q)(h:zn Q->P:=by
 intro zk;refine zc ?_;refine zW (du (by rw [hcn];rfl)) ?_;repeat(first|refine zH (cU (i:=i) aT ag) ?_|refine zH (bg (m:=i) az) ?_|refine aS ?_)
 refine zW (cP [] (f83 k ag)) ?_;repeat(first|refine zH (nC (i:=i) aT) ?_|refine zH (bg (m:=i) az) ?_|refine aS ?_)
 refine yG ?_;exact zk.1):P:=h ⟨k⟩
theorem xe{Q P:Prop}(k:Q)(h:zn Q->P:=by
 intro zk;refine zW (pC dw fq bD 3) ?_;exact zk.1):P:=h ⟨k⟩
theorem xf{Q P:Prop}(k:Q)(h:zn Q->P:=by
 intro zk;refine aL (fn:=Tryz.f95) ?_;refine zp ?_;refine zl ?_;rw [hbk,hz0];exact zk.1):P:=h ⟨k⟩
theorem xh{p:Prop}(h:p:=by
 refine aL (fn:=Tryz.f60) ?_;refine zp ?_;refine zW (aE [] [true] false h46) ?_;refine zW (aE [2,0] [false,false,true] false h50) ?_;repeat(first|refine zH (cK rfl az) ?_|refine zH (df rfl az) ?_|refine zf ?_)
 exact bE [0,2,3]):p:=h
theorem xl{Q P:Prop}(k:Q)(h:zn Q->P:=by
 intro zk;refine⟨⟨1,ag⟩,dt,?_⟩;dsimp only;exact zk.1):P:=h ⟨k⟩
theorem xm{Q P:Prop}(k:Q)(h:zn Q->P:=by
 intro zk;refine zW (du hm) ?_;repeat(first|refine zH (bg (m:=1) az) ?_|refine zH (bg (m:=2) az) ?_|refine zH (bg (m:=3) az) ?_|refine zH (bg (m:=0) az) ?_|refine aS ?_)
 refine zW (aE [1,2] [false,false] true (hf84 _ _ _ _)) ?_;repeat(first|refine zH (df rfl az) ?_|refine zH (bg (m:=0) az) ?_|refine aS ?_)
 exact zk.1):P:=h ⟨k⟩
theorem xn{Q P:Prop}(k:Q)(h:zn Q->P:=by
 intro zk;conv=>whnf
 repeat(first|refine zH (lR m0) ?_|refine zH (MD m0 rfl) ?_|refine zH (oG (m:=0) rfl az) ?_|refine zH (oG (m:=4) rfl az) ?_|refine zH (lQ (i:=0) az ag) ?_|refine zN ⟨Nat.le_of_ble_eq_true rfl,Nat.le_of_ble_eq_true rfl⟩ ?_|refine aS ?_)
 exact zk.1):P:=h ⟨k⟩
theorem xo{Q P:Prop}(k:Q)(h:zn Q->P:=by
 intro zk;refine aL (fn:=Tryz.f23) ?_;refine zp ?_;refine zW (aE [] [true] false q0) ?_;refine zW (aE [1] [true,true] false q1) ?_;repeat(first|refine zW (bl hs) ?_)
 refine zW (aE [0] [true,true,true] false q2) ?_;refine zW (aE [6,7,5,2,3] [true,true,true,true,true,true] false q3) ?_;exact zk.1):P:=h ⟨k⟩
theorem xp{p:Prop}(h:p:=by
 exact bL [0,1,2,3,4,5,6]):p:=h
theorem xq{Q P:Prop}(k:Q)(h:zn Q->P:=by
 intro zk;conv=>whnf
 first|refine eV (by exact hge) ?_|fail
 exact zk.1):P:=h ⟨k⟩
theorem xr{Q P:Prop}(k:Q)(h:zn Q->P:=by
 intro zk;refine aL (fn:=Tryz.f21) ?_;refine mV dw fq bD ?_;exact zk.1):P:=h ⟨k⟩
theorem xu{Q P:Prop}(k:Q)(h:zn Q->P:=by
 intro zk;refine aL (fn:=Tryz.f17) ?_;refine mV dw fq bD ?_;exact zk.1):P:=h ⟨k⟩
theorem xv{Q P:Prop}(k:Q)(h:zn Q->P:=by
 intro zk;rw [e];refine aL (fn:=Tryz.f169) ?_;refine zp ?_;refine zW (cP [] (Rb _)) ?_;refine zW (cP [] (Rb _)) ?_;exact zk.1):P:=h ⟨k⟩
theorem xw{Q P:Prop}(k:Q)(h:zn Q->P:=by
 intro zk;rw [e];refine aL (fn:=Tryz.f173) ?_;refine zp ?_;refine zW (cP [] (Rc _)) ?_;refine zW (cP [] (Rc _)) ?_;exact zk.1):P:=h ⟨k⟩
theorem xy{p:Prop}(h:p:=by
 refine aL (fn:=Tryz.f24) ?_;refine zp ?_;refine zW (aE [] [true] false q69) ?_;refine zl ?_;refine zW (aE [0,0] [false,false,true] false q) ?_;refine zW (aE [3,1] [false,false,true] false q2) ?_;exact bE [0,1,4]):p:=h
theorem xz{Q P:Prop}(k:Q)(h:zn Q->P:=by
 intro zk;refine zW (cP [] (ae5 _)) ?_;repeat(first|refine zW (cO rfl) ?_|refine aS ?_)
 rw [hg];exact zk.1):P:=h ⟨k⟩
theorem xA{p:Prop}(h:p:=by
 exact bL [0,1,2]):p:=h
theorem xC{Q P:Prop}(k:Q)(h:zn Q->P:=by
 intro zk;refine aL (fn:=Tryz.f70) ?_;refine zM ?_;refine zW (aE [0,1,2,3,4] [false,false,false,false,false] true q) ?_;exact zk.1):P:=h ⟨k⟩
theorem xD{p:Prop}(h:p:=by
 refine aL (fn:=Tryz.f77) ?_;refine zM ?_;refine zW (aE [0,1,2] [false,false,false] true q) ?_;repeat(first|refine zH (df rfl m0) ?_|refine aS ?_)
 exact bE [0,1,2,3]):p:=h
theorem xE{Q P:Prop}(k:Q)(h:zn Q->P:=by
 intro zk;conv=>whnf
 repeat(first|refine zH (cK rfl az) ?_|refine zH (df rfl az) ?_|refine zW (bl e1) ?_|refine zH (D0 hx aq) ?_|refine aS ?_)
 exact zk.1):P:=h ⟨k⟩
theorem xF{p:Prop}(h:p:=by
 refine⟨⟨m,ag⟩,dt,?_⟩;dsimp only;rw [hk2,ht];exact bL [0,1,2,3]):p:=h
theorem xG{p:Prop}(h:p:=by
 refine aL (fn:=Tryz.f8) ?_;refine zp ?_;refine zW (aE [] [true] false p1) ?_;refine zW (aE [] [true] false q69) ?_;refine zl ?_;refine zW (aE [0,1] [false,false,true] false q2) ?_;exact bE [0,3]):p:=h
theorem xH{p:Prop}(h:p:=by
 conv=>whnf
 repeat(first|refine zW (bl e1) ?_|refine zf ?_)
 refine zW (dY [9] [an (_:List SV),ao 5 (_:List SV)] (.agg (nZ a.s a.p a.b _ 10 _ true)) q) ?_;refine zl ?_;refine⟨⟨_+1,him⟩,dt,?_⟩;exact bL [0,1,2,3,4,5,6,7,8,10]):p:=h
theorem xI{Q P:Prop}(k:Q)(h:zn Q->P:=by
 intro zk;refine zC ?_;dsimp only;exact zk.1):P:=h ⟨k⟩
theorem xJ{p:Prop}(h:p:=by
 refine zW (aE [4,5,6,0,1,2] [false,false,false,false,false,false,true] false q) ?_;repeat(first|refine zH (cK rfl m0) ?_|refine zH (df rfl m0) ?_|refine aS ?_)
 exact bE [0,1,2]):p:=h
theorem xL{Q P:Prop}(k:Q)(h:zn Q->P:=by
 intro zk;refine zw ?_;repeat(first|refine zH (df rfl az) ?_|refine zW (bC hgn) ?_|refine zH (Cc hca hcb) ?_|refine zH (GX hca) ?_|refine zW (bl htw) ?_|refine zW (bC htw) ?_|refine zW (iN htw) ?_|refine zW (cO htw) ?_|refine zW (bC (hg2 htw)) ?_|refine zW (bC hlt) ?_|refine zW (bC hgt) ?_|refine aS ?_)
 exact zk.1):P:=h ⟨k⟩
theorem xM{p:Prop}(h:p:=by
 refine zW (aE [] [] true qc) ?_;refine zc ?_;refine zN ⟨by show 0+(t+16)*1<=(Y.map SV.u64).length;rw [List.length_map];omega,Nat.le_refl 1,by show(t+16+1)*8<=_;omega⟩ ?_;refine zc ?_;refine yP ?_;rw [hYs];exact bL [0,1,2,3,6]):p:=h
theorem xN{Q P:Prop}(k:Q)(h:zn Q->P:=by
 intro zk;refine zW (cP [] (f86 _ _ _ _ _ _ _ _)) ?_;exact zk.1):P:=h ⟨k⟩
theorem xO{Q P:Prop}(k:Q)(h:zn Q->P:=by
 intro zk;refine⟨⟨m+1,ag⟩,dt,?_⟩;dsimp only;exact zk.1):P:=h ⟨k⟩
theorem xP{p:Prop}(h:p:=by
 refine aL (fn:=Tryz.f142) ?_;refine zp ?_;repeat(first|refine zW (bC e1) ?_|refine zW (bC e2) ?_|refine zf ?_)
 refine zW (aE [0] [true] false q) ?_;refine zc ?_;exact bE [0]):p:=h
theorem xQ{Q P:Prop}(k:Q)(h:zn Q->P:=by
 intro zk;conv=>whnf
 repeat(first|refine zH (df rfl az) ?_|refine zH (lR wH) ?_|refine zH (bg (m:=i) aT) ?_|refine zH (lQ (i:=4*i) aT ag) ?_|refine zW (bC hlt) ?_|refine aS ?_)
 exact zk.1):P:=h ⟨k⟩
theorem xR{p:Prop}(h:p:=by
 refine wu rfl ?_;refine zW (wo (pre:= [_,_,_,_,_]) dw bD) ?_;refine zW (aE [0] [false,true] false q1) ?_;refine zc ?_;refine aje 15 rfl ?_;refine zW (Tx dw bD) ?_;exact yM):p:=h
theorem xU{p:Prop}(h:p:=by
 refine zq ?_;exact bE []):p:=h
theorem xV{Q P:Prop}(k:Q)(h:zn Q->P:=by
 intro zk;refine aL (fn:=Tryz.f55) ?_;refine zM ?_;rw [e1];conv=>whnf
 repeat(first|refine zW (cO e2) ?_|refine aS ?_)
 refine zW (aE [0,1,2,5,7] [false,true,true,true,true,true] false ((q2 _))) ?_;refine zl ?_;exact zk.1):P:=h ⟨k⟩
theorem xW{Q P:Prop}(k:Q)(h:zn Q->P:=by
 intro zk;repeat(first|refine zH (cK rfl az) ?_|refine zH (lR wH) ?_|refine zH (bg (m:=i+1-4) aT) ?_|refine zH (lQ (i:=4*(i+1-4)) aT ag) ?_|refine aS ?_)
 refine zK ?_;exact zk.1):P:=h ⟨k⟩
theorem xX{p:Prop}(h:p:=by
 refine aL (fn:=Tryz.f144) ?_;refine zp ?_;refine zW (aE [0] [false,true] false q) ?_;refine zJ ?_;refine zW (aE [1,3] [false,false,true] false q2) ?_;exact bE [0,4]):p:=h
theorem xY{p:Prop}(h:p:=by
 refine zT ?_;rw [ga,gx];refine zW (aE [] [] true qc) ?_;repeat(first|refine zH (D4 (i:=i) aT) ?_|refine zH (bg (m:=i) az) ?_|refine aS ?_)
 rw [hse];refine xI ?_;exact yH):p:=h
theorem xZ{Q P:Prop}(k:Q)(h:zn Q->P:=by
 intro zk;refine zp ?_;refine zW (aE [0,1,2,3,4,5,6,7,8] [false,false,false,false,false,false,true,false,false,false,true] false q) ?_;refine zc ?_;exact zk.1):P:=h ⟨k⟩
theorem x8{Q P:Prop}(k:Q)(h:zn Q->P:=by
 intro zk;refine zu ?_;refine zc ?_;refine zW (afD 6 rfl rfl (by kernel_rfl:Tryz.prog.underlying 143=some (.map 24 209)) (by kernel_rfl:Tryz.prog.underlying 24=some (.int .u64)) rfl rfl rfl rfl hR) ?_;refine wu rfl ?_;refine zW (wo (pre:= [_,_,_]) dw bD) ?_;exact zk.1):P:=h ⟨k⟩
theorem x9{p:Prop}(h:p:=by
 refine⟨⟨i+1,ag,ag⟩,dt,?_⟩;exact xA):p:=h
theorem vu{Q P:Prop}(k:Q)(h:zn Q->P:=by
 intro zk;repeat(first|refine zN ⟨ag,aw⟩ ?_)
 exact zk.1):P:=h ⟨k⟩
theorem Ih{Q P:Prop}(k:Q)(h:zn Q->P:=by
 intro zk;rw [agK ag];conv=>whnf
 first|refine eV (by exact hlt2) ?_|fail
 conv=>whnf
 exact zk.1):P:=h ⟨k⟩
theorem Ey{p:Prop}(h:p:=by
 exact⟨[0,1,2,3,4,5],rfl,rfl,zo,rfl⟩):p:=h
theorem Cy{p:Prop}(h:p:=by
 refine zq ?_;exact bE [0,1,2,3]):p:=h
theorem wD{Q P:Prop}(k:Q)(h:zn Q->P:=by
 intro zk;refine zW (pC dw fq bD 5) ?_;exact zk.1):P:=h ⟨k⟩
theorem Nr{Q P:Prop}(k:Q)(h:zn Q->P:=by
 intro zk;refine zw ?_;repeat(first|refine zW (bC hgn) ?_|refine zH (Cc hca hcb) ?_|refine zH (GX hca) ?_|refine zW (bl hg2) ?_|refine aS ?_)
 exact zk.1):P:=h ⟨k⟩
theorem Wx{Q P:Prop}(k:Q)(h:zn Q->P:=by
 intro zk;refine aL (fn:=Tryz.f198) ?_;refine zp ?_;refine zW (aE [] [] true q1) ?_;refine⟨_,Tf hnz,?_⟩;conv=>whnf
 refine zW (aE [] [] true q2) ?_;refine zW (aE [] [] true q3) ?_;exact zk.1):P:=h ⟨k⟩
theorem Ii{Q P:Prop}(k:Q)(h:zn Q->P:=by
 intro zk;refine aL (fn:=Tryz.f78) ?_;refine zp ?_;exact zk.1):P:=h ⟨k⟩
theorem Ij{p:Prop}(h:p:=by
 refine zW (aE [] [] true q2) ?_;refine zW (aE [] [] true q3) ?_;exact bE []):p:=h
theorem Wy{p:Prop}(h:p:=by
 refine aL (fn:=Tryz.f5) ?_;refine zp ?_;refine zW (aE [0] [false,true] false q) ?_;refine zJ ?_;refine zW (aE [] [true] false p1) ?_;exact zZ):p:=h
theorem Ns{p:Prop}(h:p:=by
 rw [HE (j:=21) (y:=⟨x1,x2,x3,x4,Ef now,true⟩) hx3 rfl aw rfl aq,List.set_set,Pq hx];rfl):p:=h
theorem Wz{p:Prop}(h:p:=by
 rw [List.append_assoc,List.getElem?_append_left aA,List.getElem?_take_of_lt ag,List.getElem?_take_of_lt ag,List.getElem?_take_of_lt ag,List.getElem?_drop,List.getElem?_drop];exact hsame i (.inl h1)):p:=h
theorem kU{p:Prop}(h:p:=by
 exact bE [0,1,2]):p:=h
theorem WA{p:Prop}(h:p:=by
 refine aL (fn:=Tryz.f9) ?_;refine zp ?_;refine zW (aE [] [true] false p1) ?_;refine zW (aE [0,1] [false,false,true] false q2) ?_;exact bE [0,2]):p:=h
theorem WB{Q P:Prop}(k:Q)(h:zn Q->P:=by
 intro zk;refine zp ?_;refine zW (dY [0,1,2,3,4,5,6,7,8] [an (bA 1 3 M dv true g ep 0),an [],an X,an [.fn 28 [.p 4 0]],an [.u8 nn],al (db 0 6 s b (fV z) (fv 7 z)),some (.ext (.lit mo)),al (cT s b 8 z),aC 5 (dG z)] (.tup [.pnil,.i 6]) q) ?_;refine zc ?_;exact zk.1):P:=h ⟨k⟩
theorem WC{p:Prop}(h:p:=by
 rw [<-hY];refine zt ?_;repeat(first|refine zH (AI (m:=8*k) aT) ?_|refine aS ?_)
 refine⟨⟨k,ag⟩,dt,?_⟩;exact bL [0,1,2,3,4,5,6,9]):p:=h
theorem Nt{p:Prop}(h:p:=by
 refine yx ?_;refine zI ?_;refine zW (aE [0,1,2,6] [false,true,false,false] true q139) ?_;exact yv):p:=h
theorem Nu{p:Prop}(h:p:=by
 refine yx ?_;refine zI ?_;refine zW (aE [0,1,2,6] [false,true,false,false] true q140) ?_;exact yv):p:=h
theorem zat{p:Prop}(h:p:=by
 rw [a1];refine zW (aE [3] [false,true] false q3) ?_;refine zW (aE [0] [false,true] false q2) ?_;refine zl ?_;rw [a2];refine zW (aE [6] [false,true] false q4) ?_;exact bE [0,1,7]):p:=h
theorem WD{Q P:Prop}(k:Q)(h:zn Q->P:=by
 intro zk;refine zu ?_;repeat(first|refine zW (bl g0) ?_)
 refine zu ?_;repeat(first|refine zH (df rfl az) ?_|refine zH (ahn nz) ?_|refine zH (bg (m:=i) aT) ?_|refine zH (ace hc aq) ?_|refine aS ?_)
 exact zk.1):P:=h ⟨k⟩
theorem Nv{Q P:Prop}(k:Q)(h:zn Q->P:=by
 intro zk;conv=>whnf
 repeat(first|refine zH (df rfl az) ?_|refine zW (bl e1) ?_|refine zH (afm ho aq) ?_|refine aS ?_)
 exact zk.1):P:=h ⟨k⟩
theorem Nw{Q P:Prop}(k:Q)(h:zn Q->P:=by
 intro zk;refine ym ?_;conv=>whnf
 repeat(first|refine zN ⟨CK,by first|(simp [hil];omega)|fail⟩ ?_|refine aS ?_)
 exact zk.1):P:=h ⟨k⟩
theorem Nx{p:Prop}(h:p:=by
 exact⟨_,by simp [execOp,ho,resolve,invoke,builtin,Builtin.len_,he,eS hu,goInt];rfl,gO⟩):p:=h
theorem Ny{Q P:Prop}(k:Q)(h:zn Q->P:=by
 intro zk;repeat(first|refine zH (nC (i:=i) (by first|rfl|(simp;done))) ?_|refine zH (bg (m:=i) (by first|rfl)) ?_|refine aS ?_)
 exact zk.1):P:=h ⟨k⟩
theorem Ik{Q P:Prop}(k:Q)(h:zn Q->P:=by
 intro zk;conv=>whnf
 refine zW (cP [] (f67 c)) ?_;refine⟨bD,?_⟩;conv=>whnf
 exact zk.1):P:=h ⟨k⟩
theorem Wj{p:Prop}(h:p:=by
 refine zL ?_;refine zN ⟨by show 0+t*1<=(Y.map SV.u64).length;rw [List.length_map];omega,Nat.le_refl 1,by show(t+1)*8<=_;omega⟩ ?_;refine yP ?_;rw [hws];exact bL [0,1,2,3,6]):p:=h
theorem Wk{Q P:Prop}(k:Q)(h:zn Q->P:=by
 intro zk;refine aL (fn:=Tryz.f129) ?_;refine zM ?_;refine zW (aE [] [true] false f145) ?_;refine zW (aE [] [true] false f146) ?_;refine zW (aE [] [] true qp) ?_;refine zc ?_;exact zk.1):P:=h ⟨k⟩
theorem AX{Q P:Prop}(k:Q)(h:zn Q->P:=by
 intro zk;conv=>whnf
 repeat(first|refine zW (bC e1) ?_)
 exact zk.1):P:=h ⟨k⟩
theorem Wl{p:Prop}(h:p:=by
 refine zc ?_;refine zW (aE [0,5,3,1,4] [false,false,false,false,false,true] false q) ?_;refine zl ?_;refine yU ?_;dsimp only;rw [hos,<-hT];exact bL [0,1,7,6]):p:=h
theorem Cx{Q P:Prop}(k:Q)(h:zn Q->P:=by
 intro zk;refine⟨_,by simp only [CQ,Op.intDiv,if_neg hn];rfl,?_⟩;exact zk.1):P:=h ⟨k⟩
theorem oY{Q P:Prop}(k:Q)(h:zn Q->P:=by
 intro zk;refine zu ?_;refine zc ?_;exact zk.1):P:=h ⟨k⟩
theorem Wm{p:Prop}(h:p:=by
 rw [e];refine aL (fn:=Tryz.f132) ?_;refine zp ?_;refine yl ?_;refine zW (aE [0] [false] true q) ?_;exact bE [0]):p:=h
theorem Wn{p:Prop}(h:p:=by
 refine zc ?_;refine zW (aE [7,5,1] [false,true,true,true] false qc) ?_;refine zW (aE [6,8,2,0] [false,true,true,true,true] false qs) ?_;refine zl ?_;exact bE [0,1,2,10]):p:=h
theorem Wo{p:Prop}(h:p:=by
 refine Nat.or_lt_two_pow hs ?_;refine Nat.lt_of_lt_of_le (m:=2^8) ?_ (Nat.pow_le_pow_right aw ag);first|(rw [UInt8.toNat_toUInt32];exact hb)|(rw [UInt8.toNat_toUInt64];exact hb)):p:=h
theorem Ie{Q P:Prop}(k:Q)(h:zn Q->P:=by
 intro zk;rw [<-hY];refine zL ?_;first|refine eV (by exact hcd) ?_|fail
 refine zL ?_;exact zk.1):P:=h ⟨k⟩
theorem Wp{p:Prop}(h:p:=by
 refine aL (fn:=Tryz.f40) ?_;refine zM ?_;refine zW (aE [0,2,1] [false,false,false,true] false q) ?_;exact bE [0,1,3]):p:=h
theorem jy{p:Prop}(h:p:=by
 exact bE [0,1]):p:=h
theorem Ew{Q P:Prop}(k:Q)(h:zn Q->P:=by
 intro zk;refine zW (pC dw fq bD 1) ?_;refine zc ?_;exact zk.1):P:=h ⟨k⟩
theorem nH{Q P:Prop}(k:Q)(h:zn Q->P:=by
 intro zk;dsimp only;conv=>whnf
 exact zk.1):P:=h ⟨k⟩
theorem Wq{p:Prop}(h:p:=by
 repeat(first|refine zH (cK rfl az) ?_|refine zH (df rfl az) ?_|refine zW (bC g15) ?_|refine zW (bC g14) ?_|refine zW (bl g13) ?_|refine aS ?_)
 exact bE []):p:=h
theorem Nq{Q P:Prop}(k:Q)(h:zn Q->P:=by
 intro zk;refine aL (fn:=Tryz.f168) ?_;refine zp ?_;refine xe ?_;exact zk.1):P:=h ⟨k⟩
theorem Wr{p:Prop}(h:p:=by
 refine zW (aE [] [] true r2) ?_;refine zc ?_;refine zW (aE [] [] true r3) ?_;refine zl ?_;refine zW (aE [] [] true r4) ?_;refine zl ?_;exact jy):p:=h
theorem Ws{Q P:Prop}(k:Q)(h:zn Q->P:=by
 intro zk;refine aL (fn:=Tryz.f96) ?_;refine zp ?_;repeat(first|refine zW (bl h1) ?_|refine zW (cO h1) ?_|refine zW (bl h2) ?_|refine zW (cO h2) ?_|refine zf ?_)
 exact zk.1):P:=h ⟨k⟩
theorem t7{p:Prop}(h:p:=by
 exact bL [0,1,2,3,4,5]):p:=h
theorem Wt{p:Prop}(h:p:=by
 rw [hbk,hz0];refine zW (aE [0,8] [false,false,true] false q) ?_;refine zl ?_;refine yU ?_;dsimp only;rw [hos,<-hT];exact bL [0,1,10,9]):p:=h
theorem Ig{Q P:Prop}(k:Q)(h:zn Q->P:=by
 intro zk;refine aL (fn:=Tryz.f56) ?_;exact zk.1):P:=h ⟨k⟩
theorem Wu{Q P:Prop}(k:Q)(h:zn Q->P:=by
 intro zk;refine aL (fn:=Tryz.f104) ?_;refine zM ?_;refine zW (aE [] [] true q0) ?_;refine zW (aE [0,1,2,3,4] [false,false,false,false,false] true q) ?_;exact zk.1):P:=h ⟨k⟩
theorem Wv{Q P:Prop}(k:Q)(h:zn Q->P:=by
 intro zk;refine aL (fn:=Tryz.f165) ?_;refine zp ?_;refine zW (aE [] [] true qf) ?_;refine zl ?_;refine zW (aE [] [] true q1) ?_;refine zl ?_;exact zk.1):P:=h ⟨k⟩
theorem Ww{Q P:Prop}(k:Q)(h:zn Q->P:=by
 intro zk;conv=>whnf
 repeat(first|refine zH (cK rfl az) ?_|refine zH (df rfl az) ?_|refine zW (bl e1) ?_|refine zH (D0 hxj aq) ?_|refine aS ?_)
 refine zW (aE [1] [true] true q2) ?_;exact zk.1):P:=h ⟨k⟩
theorem Ex{Q P:Prop}(k:Q)(h:zn Q->P:=by
 intro zk;repeat(first|refine zH (cK rfl az) ?_|refine aS ?_)
 exact zk.1):P:=h ⟨k⟩
theorem zaZ{p:Prop}(h:p:=by
 conv=>whnf
 refine yi ?_;rw [hke,hwe];refine zW (aE [5] [false,true] false q) ?_;refine zc ?_;refine yP ?_;exact bL [0,1,2,3,4,6]):p:=h
theorem Np{p:Prop}(h:p:=by
 rw [Array.getD_eq_getD_getElem?,Array.getElem?_setIfInBounds_self_of_lt hdN];exact hv v ht):p:=h
theorem Wc{p:Prop}(h:p:=by
 refine Nat.lt_of_le_of_lt (Nat.mod_le _ _) ?_;rw [Nat.shiftLeft_eq,show 8*(m+1)=8*m+8 by omega,Nat.pow_add];exact Nat.mul_lt_mul_of_pos_right ih aw):p:=h
theorem Wd{p:Prop}(h:p:=by
 rw [Ky h];simp only [dz,if_true];rw [if_pos (by rw [List.length_append,List.length_append,h1];show _<=_+(23+_);omega),List.drop_left' h1];rfl):p:=h
theorem Ic{Q P:Prop}(k:Q)(h:zn Q->P:=by
 intro zk;repeat(first|refine zW (bl e1) ?_|refine zW (cO e1) ?_|refine zW (bC e2) ?_)
 exact zk.1):P:=h ⟨k⟩
theorem We{Q P:Prop}(k:Q)(h:zn Q->P:=by
 intro zk;rw [List.append_assoc,List.getElem?_append_right aA,List.getElem?_append_left aA,List.getElem?_take_of_lt ag,List.getElem?_take_of_lt aA,List.getElem?_drop,List.getElem?_drop];exact zk.1):P:=h ⟨k⟩
theorem AW{p:Prop}(h:p:=by
 refine zM ?_;exact bE []):p:=h
theorem Wf{Q P:Prop}(k:Q)(h:zn Q->P:=by
 intro zk;refine aL (fn:=Tryz.f49) ?_;refine oY ?_;refine zW (aE [] [true,true,true,true,true,true,true,true,true,true,true,true] true f80) ?_;exact zk.1):P:=h ⟨k⟩
theorem Wg{Q P:Prop}(k:Q)(h:zn Q->P:=by
 intro zk;refine aL (fn:=Tryz.f143) ?_;refine zM ?_;refine zW (aE [0] [true] false q) ?_;refine zc ?_;refine zW (cP [] (ae4 _ _)) ?_;exact zk.1):P:=h ⟨k⟩
theorem r9{Q P:Prop}(k:Q)(h:zn Q->P:=by
 intro zk;refine zu ?_;refine zl ?_;exact zk.1):P:=h ⟨k⟩
theorem Wh{Q P:Prop}(k:Q)(h:zn Q->P:=by
 intro zk;conv=>whnf
 repeat(first|refine zW (bl e1) ?_)
 rw [e2];conv=>whnf
 repeat(first|refine zH (D0 hx aq) ?_|refine aS ?_)
 refine zW (aE [] [] true q) ?_;exact zk.1):P:=h ⟨k⟩
theorem EC{Q P:Prop}(k:Q)(h:zn Q->P:=by
 intro zk;refine⟨⟨2,ag⟩,dt,?_⟩;dsimp only;exact zk.1):P:=h ⟨k⟩
theorem zbb{Q P:Prop}(k:Q)(h:zn Q->P:=by
 intro zk;conv=>whnf
 first|refine du (by exact hge2) ?_|fail
 conv=>whnf
 refine zT ?_;refine zW (aE [] [] true qp) ?_;refine⟨_,LZ hnz,?_⟩;conv=>whnf
 exact zk.1):P:=h ⟨k⟩
theorem CA{Q P:Prop}(k:Q)(h:zn Q->P:=by
 intro zk;repeat(first|refine zW (bl e1) ?_|refine zf ?_)
 exact zk.1):P:=h ⟨k⟩
theorem NH{Q P:Prop}(k:Q)(h:zn Q->P:=by
 intro zk;refine zW (dY [0] [ak key,al (cD.map .u8++ [.sl 5 0 44 4 false]),aC 179 w] (.tup [.p 4 0,.i 0]) hn) ?_;exact zk.1):P:=h ⟨k⟩
theorem NI{Q P:Prop}(k:Q)(h:zn Q->P:=by
 intro zk;refine zW (dY [0] [ak key,al (cD.map .u8++ [.sl 5 0 60 4 false]),aC 179 w] (.tup [.p 4 0,.i 0]) hn) ?_;exact zk.1):P:=h ⟨k⟩
theorem WZ{Q P:Prop}(k:Q)(h:zn Q->P:=by
 intro zk;first|(refine du (by exact(by simp only [decide_eq_true_eq,decide_eq_false_iff_not,hpk];omega:decide (au (((b.getD 0 0/16).toNat:Int)-7)>0)=true)) ?_;conv=>whnf)|fail
 refine zl ?_;exact zk.1):P:=h ⟨k⟩
theorem W0{Q P:Prop}(k:Q)(h:zn Q->P:=by
 intro zk;first|(refine du (by exact(by simp only [decide_eq_true_eq,decide_eq_false_iff_not,hpc];omega:decide (au (((b.getD 0 0%16).toNat:Int)-7)>0)=true)) ?_;conv=>whnf)|fail
 refine zl ?_;exact zk.1):P:=h ⟨k⟩
theorem Xa{Q P:Prop}(k:Q)(h:zn Q->P:=by
 intro zk;conv=>whnf
 repeat(first|refine zH (cK rfl az) ?_|refine zH (df rfl az) ?_|refine zW (bl e1) ?_|refine zH (Zv hd aq) ?_|refine aS ?_)
 rw [hq,e3];exact zk.1):P:=h ⟨k⟩
theorem Ip{Q P:Prop}(k:Q)(h:zn Q->P:=by
 intro zk;rw [<-hY];refine zL ?_;first|refine du (by exact hcd) ?_|fail
 exact zk.1):P:=h ⟨k⟩
theorem Xb{Q P:Prop}(k:Q)(h:zn Q->P:=by
 intro zk;conv=>whnf
 refine zW (du (by exact hlt2)) ?_;refine zW (cP [] (f82 (yB i) k ag)) ?_;refine zc ?_;refine yw ?_;refine zW (cP [] (f82 99 k ag)) ?_;exact zk.1):P:=h ⟨k⟩
theorem Iq{p:Prop}(h:p:=by
 first|refine du (by exact hlt2) ?_|fail
 exact yr):p:=h
theorem NJ{Q P:Prop}(k:Q)(h:zn Q->P:=by
 intro zk;refine aL (fn:=Tryz.f31) ?_;refine zp ?_;exact zk.1):P:=h ⟨k⟩
theorem Ir{Q P:Prop}(k:Q)(h:zn Q->P:=by
 intro zk;rw [vK hj,Array.getElem?_toList,u6 _ _ _ ag];exact zk.1):P:=h ⟨k⟩
theorem Xc{Q P:Prop}(k:Q)(h:zn Q->P:=by
 intro zk;refine aL (fn:=Tryz.f68) ?_;refine zE ?_;refine zW (mn (J:= [20]) dw fq bD) ?_;refine yj ?_;exact zk.1):P:=h ⟨k⟩
theorem NK{Q P:Prop}(k:Q)(h:zn Q->P:=by
 intro zk;repeat(first|refine zH (cK rfl az) ?_|refine zH (df rfl az) ?_|refine zf ?_)
 exact zk.1):P:=h ⟨k⟩
theorem t8{p:Prop}(h:p:=by
 simp only [eI];omega):p:=h
theorem sf{p:Prop}(h:p:=by
 exact bL [0,1,2,3]):p:=h
theorem NL{Q P:Prop}(k:Q)(h:zn Q->P:=by
 intro zk;rw [e];refine aL (fn:=Tryz.f142) ?_;exact zk.1):P:=h ⟨k⟩
theorem Xd{p:Prop}(h:p:=by
 dsimp only;rw [show(S.pt 0).dv=0 from dvA,show(S.pt 1).dv=1 from dvB,show(S.pt 2).dv=2 from dvC',dvA,dvB,dvC'];exact q):p:=h
theorem Xe{p:Prop}(h:p:=by
 refine zbb ?_;rw [gx,hsh];refine zl ?_;rw [hm2];refine xO ?_;rw [hs];exact bL [0,1,2,3,6]):p:=h
theorem Xf{p:Prop}(h:p:=by
 exact rN (gn hl hb) aq (aec ho (nF ft hu) fe.sz (bq hx) (gb hb) rfl h1 (bq hy) (gb hb2) h2 rfl h3) hk):p:=h
theorem Xg{p:Prop}(h:p:=by
 exact bE [0,1,2,3,4,5,6,7,8,9,10,11,12,13,14,15,16,17,18,19,20,21,22,23,24,25,26,27,28,29,30,31,32,33,34,36,37]):p:=h
theorem Xh{p:Prop}(h:p:=by
 simp only [execOp,ho,he,Instr.sliceAt,Instr.slice,Option.map_none,Sem.run_bind,eS hu,Result.andThen_ok,hb,ml hs,Sem.run_pure]):p:=h
theorem gH{p:Prop}(h:p:=by
 exact bE [0]):p:=h
theorem NM{Q P:Prop}(k:Q)(h:zn Q->P:=by
 intro zk;conv=>whnf
 refine⟨⟨aq,aq,by simp [cM];omega,ag⟩,?_⟩;conv=>whnf
 exact zk.1):P:=h ⟨k⟩
theorem WJ{Q P:Prop}(k:Q)(h:zn Q->P:=by
 intro zk;refine zt ?_;repeat(first|refine zH (bg (m:=4*i-4) aT) ?_|refine zH (bg (m:=4*i) aT) ?_|refine aS ?_)
 exact zk.1):P:=h ⟨k⟩
theorem WK{Q P:Prop}(k:Q)(h:zn Q->P:=by
 intro zk;refine zI ?_;refine xe ?_;refine zl ?_;refine zW (cP [] (De k hk)) ?_;refine zl ?_;refine zW (du (by simpa using pk)) ?_;refine zl ?_;exact zk.1):P:=h ⟨k⟩
theorem Im{Q P:Prop}(k:Q)(h:zn Q->P:=by
 intro zk;conv=>whnf
 repeat(first|refine zW (bC e1) ?_|refine zf ?_)
 exact zk.1):P:=h ⟨k⟩
theorem WL{Q P:Prop}(k:Q)(h:zn Q->P:=by
 intro zk;refine⟨az,rfl,?_⟩;refine y8 ?_;repeat(first|refine zH (cK rfl az) ?_|refine zH (df rfl az) ?_|refine zW (bl hne) ?_|refine aS ?_)
 exact zk.1):P:=h ⟨k⟩
theorem vv{Q P:Prop}(k:Q)(h:zn Q->P:=by
 intro zk;refine zW (aE [] [] true aaG) ?_;exact zk.1):P:=h ⟨k⟩
theorem vw{Q P:Prop}(k:Q)(h:zn Q->P:=by
 intro zk;refine zW (aE [] [] true aaH) ?_;exact zk.1):P:=h ⟨k⟩
theorem WM{Q P:Prop}(k:Q)(h:zn Q->P:=by
 intro zk;refine aL (fn:=Tryz.f74) ?_;refine zp ?_;refine zW (aE [0,1] [true,true] true q) ?_;refine zc ?_;exact zk.1):P:=h ⟨k⟩
theorem Cz{Q P:Prop}(k:Q)(h:zn Q->P:=by
 intro zk;rw [List.getElem?_append_right aA];exact zk.1):P:=h ⟨k⟩
theorem ND{Q P:Prop}(k:Q)(h:zn Q->P:=by
 intro zk;refine zW (dY [0] [ak K,al (kC s kid 0 16 S)] (.agg [.fn 44 [.p 6 0],.fn 47 [.p 6 0]]) q18) ?_;exact zk.1):P:=h ⟨k⟩
theorem NF{Q P:Prop}(k:Q)(h:zn Q->P:=by
 intro zk;refine zW (dY [0] [ak K,al (kC s kid 0 32 S)] (.agg [.fn 44 [.p 6 0],.fn 47 [.p 6 0]]) q18) ?_;exact zk.1):P:=h ⟨k⟩
theorem Io{p:Prop}(h:p:=by
 refine zW (aE [] [] true (qn _)) ?_;exact Cy):p:=h
theorem NG{p:Prop}(h:p:=by
 refine⟨_,e3,?_⟩;refine zL ?_;refine zC ?_;exact xp):p:=h
theorem WN{p:Prop}(h:p:=by
 refine zW (aE [0,1,2] [false,false,false] true qb) ?_;refine zJ ?_;refine yP ?_;rw [hs];exact t7):p:=h
theorem WO{Q P:Prop}(k:Q)(h:zn Q->P:=by
 intro zk;refine aL (fn:=Tryz.f33) ?_;refine zE ?_;refine zW (mn (J:= [0,9]) dw fq bD) ?_;exact zk.1):P:=h ⟨k⟩
theorem WQ{Q P:Prop}(k:Q)(h:zn Q->P:=by
 intro zk;refine zt ?_;refine zl ?_;rw [hbk,hz0];refine zW (aE [0,7] [false,false,true] false q) ?_;refine zl ?_;refine xl ?_;rw [hos];exact zk.1):P:=h ⟨k⟩
theorem WR{Q P:Prop}(k:Q)(h:zn Q->P:=by
 intro zk;conv=>whnf
 repeat(first|refine zW (bl e1) ?_|refine zH (D0 hx aq) ?_|refine aS ?_)
 refine zW (aE [1] [true] true q) ?_;refine zc ?_;exact zk.1):P:=h ⟨k⟩
theorem WS{Q P:Prop}(k:Q)(h:zn Q->P:=by
 intro zk;refine aL (fn:=Tryz.f42) ?_;refine zE ?_;refine zW (mn (J:= [3]) dw fq bD) ?_;exact zk.1):P:=h ⟨k⟩
theorem EA{p:Prop}(h:p:=by
 exact bE [0,1,2,3,4,5,6,7,8,9]):p:=h
theorem wE{p:Prop}(h:p:=by
 refine yL ?_;exact yH):p:=h
theorem WT{Q P:Prop}(k:Q)(h:zn Q->P:=by
 intro zk;refine zt ?_;refine zc ?_;refine zW (aE [0,5,1,4] [false,false,false,false,true] false q) ?_;refine zl ?_;refine xl ?_;rw [hos];exact zk.1):P:=h ⟨k⟩
theorem WU{Q P:Prop}(k:Q)(h:zn Q->P:=by
 intro zk;rw [<-hm];refine aL (fn:=Tryz.f14) ?_;refine zp ?_;repeat(first|refine zW (bl e1) ?_)
 exact zk.1):P:=h ⟨k⟩
theorem WV{p:Prop}(h:p:=by
 refine zW (cP [] (f91 (vt (kR p q (127-m))).1 (vt (kR p q (127-m))).2 q.1 q.2)) ?_;refine zJ ?_;exact xF):p:=h
theorem WW{Q P:Prop}(k:Q)(h:zn Q->P:=by
 intro zk;rw [<-hm];refine aL (fn:=Tryz.f64) ?_;refine zp ?_;repeat(first|refine zW (bl e1) ?_)
 exact zk.1):P:=h ⟨k⟩
theorem WX{p:Prop}(h:p:=by
 rw [Nat.shiftLeft_eq,Nat.mod_eq_of_lt];exact Nat.lt_of_lt_of_le (Nat.mul_lt_mul_of_pos_right hx aw) aw):p:=h
theorem WY{p:Prop}(h:p:=by
 exact⟨e,d,g,ct,by rw [ee];exact g1,g2,A8,by rw [es,eb];exact g4,g5,by rw [efs];exact hfs _ g6,g7⟩):p:=h
theorem EB{p:Prop}(h:p:=by
 exact absurd (hi.1.trans hj.1.symm) hne):p:=h
theorem Ez{Q P:Prop}(k:Q)(h:zn Q->P:=by
 intro zk;repeat(first|refine zW (bC e1) ?_|refine aS ?_)
 exact zk.1):P:=h ⟨k⟩
theorem WE{p:Prop}(h:p:=by
 exact⟨by rw [ee];exact this.p,by rw [es];exact this.d,by rw [eb];exact this.g,by rw [ef];exact this.c,this.k0,this.k1⟩):p:=h
theorem Nz{p:Prop}(h:p:=by
 rw [lO _ _ ag];exact hs.fresh id ag):p:=h
theorem WG{Q P:Prop}(k:Q)(h:zn Q->P:=by
 intro zk;refine zW (dY [0,1,2,3,4] [al (bA 1 3 M s m1 g1 ep l2.length),ao 164 (aI l2),an X,an [.fn 28 [.p 4 0]],an [.u8 nn]] (.tup []) q3) ?_;refine zc ?_;exact zk.1):P:=h ⟨k⟩
theorem WH{p:Prop}(h:p:=by
 refine yA ?_;refine zW (aE [0,1,2] [false,false,false] true q3) ?_;refine zc ?_;exact kU):p:=h
theorem Il{Q P:Prop}(k:Q)(h:zn Q->P:=by
 intro zk;refine yt ?_;refine zA ?_;dsimp only;rw [<-hs];exact zk.1):P:=h ⟨k⟩
theorem NA{Q P:Prop}(k:Q)(h:zn Q->P:=by
 intro zk;refine xN ?_;repeat(first|refine zH (bg (m:=3) az) ?_|refine aS ?_)
 exact zk.1):P:=h ⟨k⟩
theorem WI{Q P:Prop}(k:Q)(h:zn Q->P:=by
 intro zk;refine zy ?_;repeat(first|refine zN ⟨ag,by first|(simp [hel];done)|fail,EH⟩ ?_|refine zf ?_)
 rw [hvc];exact zk.1):P:=h ⟨k⟩
theorem NB{Q P:Prop}(k:Q)(h:zn Q->P:=by
 intro zk;refine Nn (fn:=Tryz.f12) ?_;exact zk.1):P:=h ⟨k⟩
theorem NC{Q P:Prop}(k:Q)(h:zn Q->P:=by
 intro zk;refine aL (fn:=Tryz.f37) ?_;exact zk.1):P:=h ⟨k⟩
theorem Iv{Q P:Prop}(k:Q)(h:zn Q->P:=by
 intro zk;refine⟨⟨3,ag⟩,dt,?_⟩;dsimp only;exact zk.1):P:=h ⟨k⟩
theorem Xs{p:Prop}(h:p:=by
 refine zF ?_;repeat(first|refine zW (bl g1) ?_|refine zW (cO g1) ?_|refine zf ?_)
 exact kU):p:=h
theorem gI{p:Prop}(h:p:=by
 exact bE []):p:=h
theorem Iw{p:Prop}(h:p:=by
 rw [hfin];refine zy ?_;exact jy):p:=h
theorem Xt{p:Prop}(h:p:=by
 refine zp ?_;refine zW (aE [0] [true,true] false q) ?_;refine zq ?_;exact bE [0,3,1]):p:=h
theorem Xu{p:Prop}(h:p:=by
 exact bL [0,1,2,3,4,5,6,7,8,9,10,11,12,13,14,15,16,17,18,19,20,21,22,23,24,25,26,27,28]):p:=h
theorem Xv{Q P:Prop}(k:Q)(h:zn Q->P:=by
 intro zk;rw [List.getElem?_take_of_lt ag,List.getElem?_drop,List.getElem?_drop,List.getElem?_take_of_lt aA,List.getElem?_drop,hsame i (.inr h2)];exact zk.1):P:=h ⟨k⟩
theorem ED{p:Prop}(h:p:=by
 refine yL ?_;exact bL [0,1]):p:=h
theorem Xw{p:Prop}(h:p:=by
 refine xN ?_;repeat(first|refine zH (bg (m:=0) az) ?_|refine aS ?_)
 exact Ey):p:=h
theorem Xx{p:Prop}(h:p:=by
 refine xN ?_;repeat(first|refine zH (bg (m:=1) az) ?_|refine aS ?_)
 exact Ey):p:=h
theorem Xy{p:Prop}(h:p:=by
 refine xN ?_;repeat(first|refine zH (bg (m:=2) az) ?_|refine aS ?_)
 exact Ey):p:=h
theorem Xz{Q P:Prop}(k:Q)(h:zn Q->P:=by
 intro zk;refine aL (fn:=Tryz.f162) ?_;refine zp ?_;refine zl ?_;rw [hbk,hz0];exact zk.1):P:=h ⟨k⟩
theorem XA{Q P:Prop}(k:Q)(h:zn Q->P:=by
 intro zk;refine aL (fn:=Tryz.f73) ?_;refine zM ?_;refine zW (aE [1] [true] true q1) ?_;exact zk.1):P:=h ⟨k⟩
theorem XB{p:Prop}(h:p:=by
 exact hS i k bi bk ri rk hne (by rw [hgo hij];exact hi) (by rw [hgo hkj];exact hk) hri hrk hw q p ⟨hfi,hfk⟩):p:=h
theorem XC{p:Prop}(h:p:=by
 refine aL (fn:=Tryz.f41) ?_;exact AW):p:=h
theorem EE{p:Prop}(h:p:=by
 exact bL [0,1,2,3,4,5,6,7]):p:=h
theorem XD{p:Prop}(h:p:=by
 refine aL (fn:=Tryz.f93) ?_;exact AW):p:=h
theorem wF{Q P:Prop}(k:Q)(h:zn Q->P:=by
 intro zk;unfold eG og kp;dsimp only;exact zk.1):P:=h ⟨k⟩
theorem XE{p:Prop}(h:p:=by
 refine aL (fn:=Tryz.f44) ?_;exact zR):p:=h
theorem XF{p:Prop}(h:p:=by
 refine aL (fn:=Tryz.f47) ?_;exact zR):p:=h
theorem XG{p:Prop}(h:p:=by
 refine zc ?_;refine zW (aE [0] [false,true] false q1) ?_;refine zl ?_;exact zat):p:=h
theorem Ix{p:Prop}(h:p:=by
 refine yL ?_;exact bL [0,1,2,0]):p:=h
theorem XH{Q P:Prop}(k:Q)(h:zn Q->P:=by
 intro zk;first|refine du (by exact hlt) ?_|fail
 refine zL ?_;refine zW (aE [1,0] [false,false,true] false q99) ?_;refine zc ?_;exact zk.1):P:=h ⟨k⟩
theorem AY{p:Prop}(h:p:=by
 exact bE [0,1,2,3,4]):p:=h
theorem XI{Q P:Prop}(k:Q)(h:zn Q->P:=by
 intro zk;refine zt ?_;repeat(first|refine zH (hld) ?_|refine aS ?_)
 refine bp.weak (ab5 9 4 rfl hmem rfl) ?_;refine r9 ?_;exact zk.1):P:=h ⟨k⟩
theorem Xi{Q P:Prop}(k:Q)(h:zn Q->P:=by
 intro zk;repeat(first|refine zH (wm (i:=t) aT ag) ?_|refine zH (bg (m:=t) az) ?_|refine aS ?_)
 exact zk.1):P:=h ⟨k⟩
theorem NN{Q P:Prop}(k:Q)(h:zn Q->P:=by
 intro zk;rw [Array.getD_eq_getD_getElem?,Array.getElem?_append_left (by simpa using htl)];exact zk.1):P:=h ⟨k⟩
theorem Xj{Q P:Prop}(k:Q)(h:zn Q->P:=by
 intro zk;repeat(first|refine zH (cU (i:=i) aT ag) ?_|refine zH (bg (m:=i) az) ?_|refine aS ?_)
 exact zk.1):P:=h ⟨k⟩
theorem Xk{Q P:Prop}(k:Q)(h:zn Q->P:=by
 intro zk;refine zu ?_;repeat(first|refine zH (df rfl (by first|rfl|(simp [hkl];done)|fail)) ?_|refine aS ?_)
 refine zu ?_;exact zk.1):P:=h ⟨k⟩
theorem NO{p:Prop}(h:p:=by
 exact⟨⟨rfl,aY aq (by simp [hn])⟩,trivial⟩):p:=h
theorem pK{p:Prop}(h:p:=by
 simpa using this):p:=h
theorem Is{Q P:Prop}(k:Q)(h:zn Q->P:=by
 intro zk;refine zW (aE [0,1,2] [false,false,false] true qa) ?_;exact zk.1):P:=h ⟨k⟩
theorem NP{p:Prop}(h:p:=by
 simp only [av];exact⟨_,gN _ _ _,rfl⟩):p:=h
theorem It{p:Prop}(h:p:=by
 exact dB (by simpa using this) hk):p:=h
theorem CB{p:Prop}(h:p:=by
 exact absurd hs aw):p:=h
theorem Xl{Q P:Prop}(k:Q)(h:zn Q->P:=by
 intro zk;conv=>whnf
 refine zN ⟨by show _<=(E.map SV.u8).length;rw [List.length_map];omega,aw,by show _*1<=_;omega,aw⟩ ?_;exact zk.1):P:=h ⟨k⟩
theorem Xm{p:Prop}(h:p:=by
 refine zW (aE [] [] true q2) ?_;refine zq ?_;exact bE [0,1,2,3,4,5,6,7]):p:=h
theorem Xn{p:Prop}(h:p:=by
 repeat(first|refine zW (bC e1) ?_|refine zW (bl e2) ?_|refine zf ?_)
 exact gI):p:=h
theorem Xo{p:Prop}(h:p:=by
 repeat(first|refine zW (bC e1) ?_|refine zW (bC e2) ?_|refine zf ?_)
 exact gI):p:=h
theorem Iu{p:Prop}(h:p:=by
 exact bL [0,1,2,3,4,5,6,6+1]):p:=h
theorem Xp{p:Prop}(h:p:=by
 refine zI ?_;refine xO ?_;rw [hs];exact bL [0,1,2,3,4,5,6+2]):p:=h
theorem Xq{p:Prop}(h:p:=by
 repeat(first|refine zW (bC g1) ?_|refine zW (iN g1) ?_|refine zf ?_)
 exact kU):p:=h
theorem Xr{p:Prop}(h:p:=by
 refine zt ?_;refine yi ?_;refine⟨_,LZ hdz,?_⟩;exact zaZ):p:=h
end Go
