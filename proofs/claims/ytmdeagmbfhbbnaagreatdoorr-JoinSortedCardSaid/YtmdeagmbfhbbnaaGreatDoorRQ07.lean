/- Plans: which literals are taken, and in which order. No program. -/
import Derived.Test.YtmdeagmbfhbbnaaGreatDoorRQ06
import Derived.Lib.SlicesCompact
import Derived.Shelf.Sort.Plain
import Derived.Lib.RowBridge
import Derived.Shelf.Slices.CompactS
import Derived.Shelf.Slices.In.SortNone
import Derived.Test.YtmdeagmbfhbbnaaGreatDoorRQ04
import Derived.Test.YtmdeagmbfhbbnaaGreatDoorRQ05
import Derived.Shelf.Slices.Cells
set_option linter.all false
namespace Go.Proofs.YtmdeagmbfhbbnaaGreatDoorR
open Go.Abs
def okX(x:Lt):Prop:=(x.kind=2→x.L.all okV=true∧x.R.all okV=true)∧(x.kind=1→ ∀u∈x.at_.args,u.all okV=true)
def Vq(s:Stp)(x:Lt):Prop:=match s with
 | .test y=>y=x∧x.kind=2
 | .bind n t=>x.kind=2∧x.op=1∧((x.L.kind=3∧n=x.L.name∧t=x.R)∨(x.R.kind=3∧n=x.R.name∧t=x.L))
 | .atom a=>x.kind=1∧x.neg=false∧a=x.at_
def ZbS(A:List Am)(σ:Bnd)(x:Lt):Prop:=
 if x.kind=2 then∃v∈(YQ x.L σ).1,∃w∈(YQ x.R σ).1,XL x.op v w=true
 else if x.kind=1∧x.neg=false then∃a∈A,a.sg=x.at_.sg∧ZN.apps σ x.at_.args=a.args else True
section
variable {n:List UInt8} {x:Lt}
theorem Yu:n∈ZJ x↔if x.kind=2 then n∈nmT x.L∨n∈nmT x.R else n∈nmT.nms x.at_.args:=by
 unfold ZJ;split
 ·simp[Zb3]
 ·rw[nms_eq];simp only[Qz,Zb3]
variable {S:List (List UInt8)}
theorem ZbO{l:List (List UInt8)}:Va S l=true↔ ∀n∈l,n∈S:=by simp[Va]
theorem WB{t:Tm}:Va S (Z8 t)=true↔ ∀n∈nmT t,n∈S:=by
 rw[ZbO];exact⟨fun h n hn=>h n ((Zb3 t n).2 hn),fun h n hn=>h n ((Zb3 t n).1 hn)⟩
theorem J5{t:Tm}(hk:t.kind=3)(hV:t.all okV=true):nmT t=[t.name]:=by
 cases t with
 |mk k n s l=>simp only[Tm.kind]at hk;subst hk;rw[Zdo hV];simp[nmT,nmT.nms,Tm.name]
variable {s:Stp}
theorem ZhF(h:Vq s x)(ho:okX x):n∈varS s↔n∈ZJ x:=by
 rw[Yu];cases s with
 |test y=>obtain⟨rfl,hk⟩:=h;rw[if_pos hk];simp[varS]
 |bind m t=>
  obtain⟨hk,_,h⟩:=h;rw[if_pos hk];rcases h with⟨h1,rfl,rfl⟩|⟨h1,rfl,rfl⟩
  ·rw[J5 h1 (ho.1 hk).1];simp[varS]
  ·rw[J5 h1 (ho.1 hk).2];simp only[varS,Qk,Qy,or_false];exact or_comm
 |atom a=>obtain⟨hk,_,rfl⟩:=h;rw[if_neg om];rfl
theorem Zll(ho:okX x)(h:Y0 S x=some s):Vq s x∧Ready S s:=by
 unfold Y0 at h;split at h
 ·rename_i hk;split at h
  ·rename_i hb;cases h;rw[Qi,WB,WB]at hb;exact⟨⟨rfl,hk⟩,fun n hn=>by rcases Qj.1 hn with hn|hn;all_goals first|exact hb.1 n hn|exact hb.2 n hn⟩
  ·rename_i hb;rw[Qi,WB,WB]at hb;split at h
   ·rename_i hc;obtain⟨c1,c2,c3⟩:=hc;rw[WB]at c2;have hn:¬x.L.name∈S:=fun hn=>hb ⟨fun n h=>by rw[J5 c3 (ho.1 hk).1]at h;simp at h;subst h;exact hn,c2⟩
    split at h
    ·rename_i he;exact absurd he (ZkP (ho.1 hk).1 c3)
    ·cases h;exact⟨⟨hk,c1,.inl ⟨c3,rfl,rfl⟩⟩,hn,c2⟩
   ·split at h
    ·rename_i hc;obtain⟨c1,c2,c3⟩:=hc;rw[WB]at c2;have hn:¬x.R.name∈S:=fun hn=>hb ⟨c2,fun n h=>by rw[J5 c3 (ho.1 hk).2]at h;simp at h;subst h;exact hn⟩
     split at h
     ·rename_i he;exact absurd he (ZkP (ho.1 hk).2 c3)
     ·cases h;exact⟨⟨hk,c1,.inr ⟨c3,rfl,rfl⟩⟩,hn,c2⟩
    ·cases h
 ·cases h
theorem ZnU(ho:okX x)(h:JU x=some s):Vq s x∧Ready S s:=by
 unfold JU at h;split at h
 ·rename_i hk;cases h;exact⟨⟨hk.1,hk.2,rfl⟩,ho.2 hk.1⟩
 ·cases h
theorem Zd6{f:Lt→Option Stp}:∀{l:List Lt} {s:Stp} {x:Lt} {r:List Lt},ZaD f l=some (s,x,r)→f x=some s∧l.Perm (x::r)
 |y::l,s,x,r,h=>by
  simp only[ZaD]at h;split at h
  ·rename_i e;cases h;exact⟨e,.refl _⟩
  ·simp only[Ul]at h;obtain⟨⟨s',x',r'⟩,hp,he⟩:=h;simp only[Qa3]at he;obtain⟨rfl,rfl,rfl⟩:=he;obtain⟨h1,h2⟩:=Zd6 hp;exact⟨h1,(h2.cons y).trans (.swap _ _ _)⟩
theorem Zb7{f:Lt→Option Stp}:∀{l:List Lt},ZaD f l=none→ ∀x∈l,f x=none
 |y::l,h,x,hx=>by
  simp only[ZaD]at h;split at h
  ·cases h
  ·rename_i e;rw[Option.map_eq_none_iff]at h;rcases Qk.1 hx with rfl|hx
   ·exact e
   ·exact Zb7 h x hx
theorem ZhR{l:List Lt}{r:List Lt}(ho:∀x∈l,okX x)(h:Vf S l=some (s,x,r)):Vq s x∧Ready S s∧l.Perm (x::r):=by
 unfold Vf at h;cases e:ZaD (Y0 S) l with
 |some p=>
  rw[e]at h;cases h;obtain⟨h1,h2⟩:=Zd6 e;have:=Zll (ho x (h2.mem_iff.2 sm)) h1;exact⟨this.1,this.2,h2⟩
 |none=>
  rw[e]at h;obtain⟨h1,h2⟩:=Zd6 h;have:=ZnU (S:=S) (ho x (h2.mem_iff.2 sm)) h1;exact⟨this.1,this.2,h2⟩
theorem rdy_congr:∀(p:List Stp) {S T:List (List UInt8)},(∀n,n∈S↔n∈T)→Rdy S p→Rdy T p
 |[],_,_,_,_=>trivial
 |s::p,S,T,h,hr=>⟨Zab h hr.1,rdy_congr p (fun n=>by simp[h n]) hr.2⟩
theorem plan_spec:∀(f:Nat) (S:List (List UInt8)) (l:List Lt),(∀x∈l,okX x)→ ∃T:List Lt,l.Perm (T++(planF f S l).2.2)∧Fa2 Vq (planF f S l).1 T∧Rdy S (planF f S l).1∧
  (∀n,n∈(planF f S l).2.1↔n∈S∨n∈T.flatMap ZJ)∧(l.length≤f→Vf (planF f S l).2.1 (planF f S l).2.2=none)
 |0,S,l,_=>⟨[],.refl _,.nil,trivial,fun n=>by simp[planF],fun h=>by
   cases l with
   |nil=>rfl
   |cons _ _=>simp at h⟩
 |f+1,S,l,ho=>by
  simp only[planF];split
  ·rename_i h0;exact⟨[],.refl _,.nil,trivial,fun n=>by simp,fun _=>h0⟩
  ·rename_i s x r h0;obtain⟨h1,h2,h3⟩:=ZhR ho h0;have hox:=ho x (h3.mem_iff.2 sm);obtain⟨T,a1,a2,a3,a4,a5⟩:=plan_spec f (S++ZJ x) r fun y hy=>ho y (h3.mem_iff.2 (by simp[hy]))
   refine⟨x::T,h3.trans (a1.cons x),.cons h1 a2,⟨h2,rdy_congr _ (fun n=>?_) a3⟩,fun n=>?_,fun hl=>a5 ?_⟩
   ·simp[ZhF h1 hox]
   ·rw[a4];simp[or_assoc]
   ·have:=h3.length_eq;simp only[Qo]at this;omega
theorem ZpQ{A:List Am}{σ:Bnd}(hσ:ZP σ)(h:Vq s x)(ho:okX x)(hd:∀n∈ZJ x,n∈Zq σ):Zby A σ s↔ZbS A σ x:=by
 unfold ZbS;cases s with
 |test y=>obtain⟨rfl,hk⟩:=h;rw[if_pos hk];rfl
 |atom a=>
  obtain⟨hk,hn,rfl⟩:=h;rw[if_neg om,if_pos ⟨hk,hn⟩];rfl
 |bind m t=>
  obtain⟨hk,hop,h⟩:=h;have hord:∀{v w:Tm},Zu v=true→Zu w=true→(XL x.op v w=true↔v=w):=fun hv hw=>by
   rw[hop,←JW hv hw];simp[XL]
  have hd':∀n,n∈nmT x.L∨n∈nmT x.R→n∈Zq σ:=fun n hn=>hd n (by rw[Yu,if_pos hk];exact hn)
  rw[if_pos hk];rcases h with⟨h1,rfl,rfl⟩|⟨h1,rfl,rfl⟩
  ·obtain⟨u,hu⟩:=Yh.2 (hd' x.L.name (.inl (by rw[J5 h1 (ho.1 hk).1];simp)));have hvu:=hσ.look hu;have hR:∀v∈(YQ x.R σ).1,Zu v=true:=fun v hv=>Zba hσ (fun n hn=>hd' n (.inr hn)) hv
   simp only[Zby,ZiD hσ h1 hu,Ql,exists_eq_left,hu,Qq];constructor
   ·rintro⟨v,hv,rfl⟩;exact⟨u,hv,(hord hvu hvu).2 rfl⟩
   ·rintro⟨w,hw,h2⟩;have:=(hord hvu (hR w hw)).1 h2;exact⟨w,hw,this⟩
  ·obtain⟨u,hu⟩:=Yh.2 (hd' x.R.name (.inr (by rw[J5 h1 (ho.1 hk).2];simp)));have hvu:=hσ.look hu;have hL:∀v∈(YQ x.L σ).1,Zu v=true:=fun v hv=>Zba hσ (fun n hn=>hd' n (.inl hn)) hv
   simp only[Zby,ZiD hσ h1 hu,Ql,exists_eq_left,hu,Qq];constructor
   ·rintro⟨v,hv,rfl⟩;exact⟨u,hv,(hord hvu hvu).2 rfl⟩
   ·rintro⟨w,hw,h2⟩;have:=(hord (hL w hw) hvu).1 h2;exact⟨w,hw,this.symm⟩
theorem ZmP{A:List Am}{σ:Bnd}(hσ:ZP σ):∀{p:List Stp} {T:List Lt},Fa2 Vq p T→(∀x∈T,okX x)→(∀n∈T.flatMap ZJ,n∈Zq σ)→((∀s∈p,Zby A σ s)↔ ∀x∈T,ZbS A σ x)
 |_,_,.nil,_,_=>by simp
 |_,_,.cons (a:=s) (b:=x) h t,ho,hd=>by
  rw[QS]at hd;have ih:=ZmP (A:=A) hσ t (fun y hy=>ho y (by simp[hy])) (fun n hn=>hd n (QK _ hn));have h1:=ZpQ (A:=A) hσ h (ho x sm) (fun n hn=>hd n (QC _ hn));simp only[Qk,forall_eq_or_imp,ih,h1]
theorem fa_vars:∀{p:List Stp} {T:List Lt},Fa2 Vq p T→(∀x∈T,okX x)→ ∀n,n∈p.flatMap varS↔n∈T.flatMap ZJ
 |_,_,.nil,_,_=>by simp
 |_,_,.cons h t,ho,n=>by
  simp only[QS,Qj,ZhF h (ho _ sm),fa_vars t (fun y hy=>ho y (by simp[hy])) n]
theorem ZeE{l:List Lt}{p:List Stp}(ho:∀x∈l,okX x)(h:VP S l=some p):
  Rdy S p∧(∀n,n∈S∨n∈p.flatMap varS↔n∈S∨n∈l.flatMap ZJ)∧
  ∀(A:List Am) (σ:Bnd),ZP σ→(∀n∈l.flatMap ZJ,n∈Zq σ)→((∀s∈p,Zby A σ s)↔ ∀x∈l,ZbS A σ x):=by
 obtain⟨T,a1,a2,a3,a4,a5⟩:=plan_spec l.length S l ho;unfold VP at h;simp only at h;split at h
 ·rename_i hall;cases h;have hnone:=a5 (Qe _);have hr:∀x∈(planF l.length S l).2.2,¬x.kind=2∧(∀n∈ZJ x,n∈(planF l.length S l).2.1)∧ ¬(x.kind=1∧x.neg=false):=fun x hx=>by
   have h1:=QA.1 hall x hx;simp only[XV,Qi,G9,beq_eq_false_iff_ne,ZbO]at h1;refine⟨h1.1,h1.2,fun hk=>?_⟩;simp only[Vf,Qbh]at hnone;have:=Zb7 hnone.2 x hx;simp only[JU,if_pos hk]at this;cases this
  have hoT:∀x∈T,okX x:=fun x hx=>ho x (a1.mem_iff.2 (QC _ hx))
  refine⟨a3,fun n=>?_,fun A σ hσ hd=>?_⟩
  ·rw[fa_vars a2 hoT n];constructor
   ·rintro(h|h)
    ·exact .inl h
    ·obtain⟨x,hx,h⟩:=Qz.1 h;exact .inr (Qz.2 ⟨x,a1.mem_iff.2 (QC _ hx),h⟩)
   ·rintro(h|h)
    ·exact .inl h
    ·obtain⟨x,hx,h⟩:=Qz.1 h;rcases Qj.1 (a1.mem_iff.1 hx)with hx|hx
     ·exact .inr (Qz.2 ⟨x,hx,h⟩)
     ·exact(a4 n).1 ((hr x hx).2.1 n h)
  ·rw[ZmP hσ a2 hoT fun n hn=>hd n (by
    obtain⟨x,hx,h⟩:=Qz.1 hn;exact Qz.2 ⟨x,a1.mem_iff.2 (QC _ hx),h⟩)]
   constructor
   ·intro h x hx;rcases Qj.1 (a1.mem_iff.1 hx)with hx|hx
    ·exact h x hx
    ·have:=hr x hx;rw[ZbS,if_neg this.1,if_neg this.2.2];trivial
   ·intro h x hx;exact h x (a1.mem_iff.2 (QC _ hx))
 ·cases h
end
def WL(b:UInt8):Bool:=b==40||b==41||b==44
theorem tok_split:∀(p q r s:List UInt8),(∀b∈p,WL b=false)→(∀b∈q,WL b=false)→(∀b r',r=b::r'→WL b=true)→(∀b s',s=b::s'→WL b=true)→p++r=q++s→p=q∧r=s
 |[],[],r,s,_,_,_,_,h=>⟨rfl,h⟩
 |[],b::q,r,s,_,hq,hr,_,h=>by
  have:=hr b (q++s) (by simpa using h);rw[hq b sm]at this;cases this
 |a::p,[],r,s,hp,_,_,hs,h=>by
  have:=hs a (p++r) (by simpa using h.symm);rw[hp a sm]at this;cases this
 |a::p,b::q,r,s,hp,hq,hr,hs,h=>by
  simp only[Q9,Ub]at h;obtain⟨h1,h2⟩:=tok_split p q r s (fun b hb=>hp b (by simp[hb])) (fun b hb=>hq b (by simp[hb])) hr hs h.2;exact⟨by rw[h.1,h1],h2⟩
theorem Zn8{b:UInt8}(h:isIn (b.toNat:Int)=true):WL b=false:=by
 rcases b.toNat_lt with _;simp only[isIn,isLow,isUp,Ze4,Gn,Qi,decide_eq_true_eq,beq_iff_eq]at h;simp only[WL,QaE,beq_eq_false_iff_ne];refine⟨⟨?_,?_⟩,?_⟩<;>(rintro rfl;simp at h)
theorem und_take:∀(s:List UInt8),∀b∈s.take (und s),b=95
 |[],b,h=>by simp at h
 |c::r,b,h=>by
  simp only[und]at h;split at h
  ·rename_i hc;simp only[Qam,Qk]at h;rcases h with rfl|h
   ·have:(b.toNat:Int)=95:=by simpa using hc
    exact UInt8.toNat_inj.1 (by show b.toNat=95;omega)
   ·exact und_take r b h
  ·simp at h
section
variable {s:List UInt8}
theorem Xv(h:sym s=true):(∀b∈s,WL b=false)∧ ∃b r,s=b::r∧(b=95∨isLow (b.toNat:Int)=true):=by
 simp only[sym,Qi,decide_eq_true_eq]at h;obtain⟨⟨⟨h1,h2⟩,h3⟩,_⟩:=h;simp only[wd,Qi,QA]at h3;refine⟨fun b hb=>?_,?_⟩
 ·rw[←QX (und s) s]at hb;rcases Qj.1 hb with hb|hb
  ·rw[und_take s b hb];rfl
  ·exact Zn8 (h3.1 b hb)
 ·cases s with
  |nil=>simp at h1
  |cons b r=>
   refine⟨b,r,rfl,?_⟩;simp only[und]at h2;split at h2
   ·rename_i hc;left
    have:(b.toNat:Int)=95:=by simpa using hc
    exact UInt8.toNat_inj.1 (by show b.toNat=95;omega)
   ·right;simpa[bt]using h2
open Go.Lib in
theorem Zeb(u:Nat):∀b∈decDigits u,48≤b.toNat∧b.toNat≤57:=by
 induction u using Nat.strongRecOn with
 |_ u ih=>
  intro b hb;rw[decDigits]at hb;split at hb
  ·rename_i h;simp only[Ql]at hb;subst hb;rw[UInt8.toNat_ofNat'];omega
  ·rcases Qj.1 hb with hb|hb
   ·exact ih (u / 10) om b hb
   ·simp only[Ql]at hb;subst hb;rw[UInt8.toNat_ofNat'];omega
open Go.Lib in
theorem Zse(u:Nat):decDigits u≠[]:=by
 rw[decDigits];split<;>simp
def Zsi(l:List UInt8):Nat:=l.foldl (fun n b=>10*n+(b.toNat - 48)) 0
open Go.Lib in
theorem Zi6(u:Nat):Zsi (decDigits u)=u:=by
 induction u using Nat.strongRecOn with
 |_ u ih=>
  rw[decDigits];split
  ·simp only[Zsi,Uu,Qbp,UInt8.toNat_ofNat'];omega
  ·have:=ih (u / 10) om;simp only[Zsi,U6,Uu,Qbp]at this⊢;rw[this,UInt8.toNat_ofNat'];omega
open Go.Lib in
theorem ZmI{u v:Nat}(h:decDigits u=decDigits v):u=v:=by rw[←Zi6 u,h,Zi6]
open Go.Lib in
theorem ZeH(u:Nat):∃b r,decDigits u=b::r∧48≤b.toNat∧b.toNat≤57:=by
 cases h:decDigits u with
 |nil=>exact absurd h (Zse u)
 |cons b r=>exact⟨b,r,rfl,Zeb u b (by rw[h];simp)⟩
theorem VO(n:Int):(∀b∈Lib.itoa n,WL b=false)∧ ∃b r,Lib.itoa n=b::r∧(b=45∨(48≤b.toNat∧b.toNat≤57)):=by
 have hd:∀b:UInt8,48≤b.toNat∧b.toNat≤57→WL b=false:=fun b hb=>by
  simp only[WL,QaE,beq_eq_false_iff_ne];refine⟨⟨?_,?_⟩,?_⟩<;>(rintro rfl;simp at hb)
 unfold Lib.itoa;split
 ·refine⟨fun b hb=>?_,45,_,rfl,.inl rfl⟩;rcases Qk.1 hb with rfl|hb
  ·rfl
  ·exact hd b (Zeb _ b hb)
 ·refine⟨fun b hb=>hd b (Zeb _ b hb),?_⟩;obtain⟨b,r,h1,h2⟩:=ZeH n.toNat;exact⟨b,r,h1,.inr h2⟩
theorem ZkK{m n:Int}(h:Lib.itoa m=Lib.itoa n):m=n:=by
 unfold Lib.itoa at h;split at h<;>split at h
 ·have:=ZmI (by simpa using h);omega
 ·obtain⟨b,r,h1,h2⟩:=ZeH n.toNat;rw[h1]at h;simp only[Ub]at h;rw[←h.1]at h2;simp at h2
 ·obtain⟨b,r,h1,h2⟩:=ZeH m.toNat;rw[h1]at h;simp only[Ub]at h;rw[h.1]at h2;simp at h2
 ·have:=ZmI h;omega
theorem Zds(n:Int)(h:sym s=true):Lib.itoa n≠s:=fun e=>by
 obtain⟨_,b,r,h1,h2⟩:=VO n;obtain⟨_,c,q,h3,h4⟩:=Xv h;rw[h1,h3]at e;simp only[Ub]at e;obtain⟨rfl,_⟩:=e;simp only[isLow,Qi,decide_eq_true_eq]at h4;rcases h2 with rfl|h2
 ·rcases h4 with h4|h4
  ·cases h4
  ·simp at h4
 ·rcases h4 with rfl|h4
  ·simp at h2
  ·omega
variable {t:Tm}
theorem ZeG(h:okv t=true):(t.kind=1∧t.name=[]∧t.args=[])∨(t.kind=2∧t.num=0∧sym t.name=true∧t.args=[])∨(t.kind=4∧t.num=0∧sym t.name=true∧t.args≠[]):=by
 simp only[okv,Qi,plain,Gn,beq_iff_eq]at h;obtain⟨hk,hs⟩:=h;have nil:∀{l:List Tm},l.length≤0→l=[]:=fun h=>by simpa using h
 rcases hk with(hk|hk)|hk
 ·left
  simp only[shape,hk,if_true,nargs,Qi,decide_eq_true_eq,beq_iff_eq]at hs;exact⟨hk,hs.1.2,nil om⟩
 ·right;left
  simp only[shape,hk,Int.reduceEq,if_false,if_true,nargs,named,Qi,decide_eq_true_eq,beq_iff_eq]at hs;exact⟨hk,hs.1.1.1,hs.1.2,nil om⟩
 ·right;right
  simp only[shape,hk,Int.reduceEq,if_false,if_true,nargs,named,Qi,decide_eq_true_eq,beq_iff_eq]at hs;refine⟨hk,hs.1.1.1,hs.1.2,fun e=>?_⟩;rw[e]at hs;simp at hs
theorem Wy(x:List UInt8)(r:List (List UInt8)):Lib.joinTail [44] (x::r)=44::Lib.join (x::r) [44]:=by
 rw[Lib.join_cons];simp[Lib.joinTail]
def Hd(r:List UInt8):Prop:=∀b r',r=b::r'→b=41∨b=44
theorem Hd.stop{r:List UInt8}(h:Hd r):∀b r',r=b::r'→WL b=true:=fun b r' e=>by
 rcases h b r' e with rfl|rfl<;>rfl
theorem Hd.nil:Hd []:=fun _ _ e=>by cases e
theorem Hd.close(r:List UInt8):Hd (41::r):=fun _ _ e=>by cases e;exact .inl rfl
theorem Hd.tail(l:List (List UInt8))(r:List UInt8):Hd (Lib.joinTail [44] l++41::r):=by
 cases l with
 |nil=>exact Hd.close r
 |cons x l=>rw[Wy];exact fun _ _ e=>by cases e;exact .inr rfl
theorem join_split:∀(p q:List Tm) (r s:List UInt8),(∀t∈p,∀u∈q,∀r s,Hd r→Hd s→txt t++r=txt u++s→t=u∧r=s)→p≠[]→q≠[]→
  Lib.join (p.map txt) [44]++41::r=Lib.join (q.map txt) [44]++41::s→p=q∧r=s
 |[],_,_,_,_,h,_,_=>absurd rfl h
 |_,[],_,_,_,_,h,_=>absurd rfl h
 |t::p,u::q,r,s,ih,_,_,h=>by
  rw[Qs,Qs,Lib.join_cons,Lib.join_cons,Q7,Q7]at h;obtain⟨h1,h2⟩:=ih t sm u sm _ _ (Hd.tail _ _) (Hd.tail _ _) h;subst h1;cases p with
  |nil=>
   cases q with
   |nil=>simp[Lib.joinTail]at h2;exact⟨rfl,h2⟩
   |cons x q=>rw[Qs,Wy]at h2;simp[Lib.joinTail]at h2
  |cons y p=>
   cases q with
   |nil=>rw[Qs,Wy]at h2;simp[Lib.joinTail]at h2
   |cons x q=>
    rw[Qs,Qs,Wy,Wy,Q9,Q9,Ub]at h2;have:=join_split (y::p) (x::q) r s (fun t ht u hu=>ih t (by simp at ht⊢;right;exact ht) u (by simp at hu⊢;right;exact hu)) sm sm h2.2;exact⟨by rw[this.1],this.2⟩
theorem ZlC{u:Tm}(h1:t.kind=u.kind)(h2:t.num=u.num)(h3:t.name=u.name)(h4:t.args=u.args):t=u:=by
 cases t;cases u;simp only[Tm.kind,Tm.num,Tm.name,Tm.args]at*;subst h1 h2 h3 h4;rfl
theorem Za1(h:t.kind=1):txt t=Lib.itoa t.num:=by rw[Zbp,if_pos h]
theorem ZaM(h:t.kind=2):txt t=t.name:=by rw[Zbp,if_neg om,if_neg om]
theorem Zbd(h:t.kind=4)(r:List UInt8):txt t++r=t.name++(40::(Lib.join (t.args.map txt) [44]++41::r)):=by
 rw[Zbp,if_neg om,if_pos h];simp
theorem Zep(t:Tm):∀(u:Tm) (r s:List UInt8),t.all okv=true→u.all okv=true→Hd r→Hd s→txt t++r=txt u++s→t=u∧r=s:=by
 intro u r s ht hu hr hs h;have h40:∀x:List UInt8,∀b r',(40::x)=b::r'→WL b=true:=fun x b r' e=>by cases e;rfl
 rcases ZeG (Y1 ht)with⟨k1,k2,k3⟩|⟨k1,k2,k3,k4⟩|⟨k1,k2,k3,k4⟩<;>rcases ZeG (Y1 hu)with⟨l1,l2,l3⟩|⟨l1,l2,l3,l4⟩|⟨l1,l2,l3,l4⟩
 ·rw[Za1 k1,Za1 l1]at h;obtain⟨e1,e2⟩:=tok_split _ _ _ _ (VO _).1 (VO _).1 hr.stop hs.stop h;exact⟨ZlC (by rw[k1,l1]) (ZkK e1) (by rw[k2,l2]) (by rw[k3,l3]),e2⟩
 ·rw[Za1 k1,ZaM l1]at h;exact absurd (tok_split _ _ _ _ (VO _).1 (Xv l3).1 hr.stop hs.stop h).1 (Zds _ l3)
 ·rw[Za1 k1,Zbd l1]at h;exact absurd (tok_split _ _ _ _ (VO _).1 (Xv l3).1 hr.stop (h40 _) h).1 (Zds _ l3)
 ·rw[ZaM k1,Za1 l1]at h;exact absurd (tok_split _ _ _ _ (Xv k3).1 (VO _).1 hr.stop hs.stop h).1.symm (Zds _ k3)
 ·rw[ZaM k1,ZaM l1]at h;obtain⟨e1,e2⟩:=tok_split _ _ _ _ (Xv k3).1 (Xv l3).1 hr.stop hs.stop h;exact⟨ZlC (by rw[k1,l1]) (by rw[k2,l2]) e1 (by rw[k4,l4]),e2⟩
 ·rw[ZaM k1,Zbd l1]at h;have:=(tok_split _ _ _ _ (Xv k3).1 (Xv l3).1 hr.stop (h40 _) h).2;rcases hr _ _ this with e|e<;>cases e
 ·rw[Zbd k1,Za1 l1]at h;exact absurd (tok_split _ _ _ _ (Xv k3).1 (VO _).1 (h40 _) hs.stop h).1.symm (Zds _ k3)
 ·rw[Zbd k1,ZaM l1]at h;have:=(tok_split _ _ _ _ (Xv k3).1 (Xv l3).1 (h40 _) hs.stop h).2;rcases hs _ _ this.symm with e|e<;>cases e
 ·rw[Zbd k1,Zbd l1]at h;obtain⟨e1,e2⟩:=tok_split _ _ _ _ (Xv k3).1 (Xv l3).1 (h40 _) (h40 _) h;obtain⟨e3,e4⟩:=join_split t.args u.args r s (fun x hx y hy r s=>Zep x y r s (Xn ht hx) (Xn hu hy)) k4 l4 (List.cons.inj e2).2;exact⟨ZlC (by rw[k1,l1]) (by rw[k2,l2]) e1 e3,e4⟩
termination_by SizeOf.sizeOf t
decreasing_by exact Tm.Xm hx
theorem Zdc(h:Zu t=true):t.all okv=true:=by
 simp only[Zu,Xy,Qi]at h;have:=Zcf plain shape t;rw[h.1,h.2.2,Bool.and_self]at this;exact this
theorem Zq6{u:Tm}(ht:Zu t=true)(hu:Zu u=true)(h:txt t=txt u):t=u:=
 (Zep t u [] [] (Zdc ht) (Zdc hu) Hd.nil Hd.nil (by rw[h])).1
theorem ZoO{a b:Am}(ha:Yv a=true)(hb:Yv b=true)(h:JZ a=JZ b):a=b:=by
 obtain⟨a1,_,a3⟩:=Za5 ha;obtain⟨b1,_,b3⟩:=Za5 hb;rw[QA]at a3 b3;have e:a.pred++(40::(Lib.join (a.args.map txt) [44]++[41]))=b.pred++(40::(Lib.join (b.args.map txt) [44]++[41])):=by
  simpa[JZ]using h
 obtain⟨e1,e2⟩:=tok_split _ _ _ _ (Xv a1).1 (Xv b1).1 (fun b r e=>by cases e;rfl) (fun b r e=>by cases e;rfl) e;have e3:=(List.cons.inj e2).2;have first:∀(t:Tm) (l:List Tm),Zu t=true→ ∃c r,Lib.join ((t::l).map txt) [44]=c::r∧WL c=false:=fun t l ht=>by
  have ho:=Zdc ht;have key:∀x:List UInt8,(∀b∈x,WL b=false)→(∃b r,x=b::r)→ ∀y,∃c r,x++y=c::r∧WL c=false:=fun x hx ⟨b,r,e⟩ y=>⟨b,r++y,by rw[e];rfl,hx b (by rw[e];simp)⟩
  rw[Qs,Lib.join_cons];rcases ZeG (Y1 ho)with⟨k1,k2,k3⟩|⟨k1,k2,k3,k4⟩|⟨k1,k2,k3,k4⟩
  ·rw[Za1 k1];obtain⟨h1,b,r,h2,_⟩:=VO t.num;exact key _ h1 ⟨b,r,h2⟩ _
  ·rw[ZaM k1];obtain⟨h1,b,r,h2,_⟩:=Xv k3;exact key _ h1 ⟨b,r,h2⟩ _
  ·rw[Zbd k1];obtain⟨h1,b,r,h2,_⟩:=Xv k3;exact key _ h1 ⟨b,r,h2⟩ _
 cases a with
 |mk ap al=>
 cases b with
 |mk bp bl=>
 simp only at e1 e3 a3 b3;subst e1;congr 1
 cases al with
 |nil=>
  cases bl with
  |nil=>rfl
  |cons u m=>
   obtain⟨c,r,h1,h2⟩:=first u m (b3 u sm)
   rw[h1,Uy,Lib.join_nil]at e3;simp only[QY,Q9,Ub]at e3;rw[←e3.1]at h2;cases h2
 |cons t l=>
  cases bl with
  |nil=>
   obtain⟨c,r,h1,h2⟩:=first t l (a3 t sm)
   rw[h1,Uy,Lib.join_nil]at e3;simp only[QY,Q9,Ub]at e3;rw[e3.1]at h2;cases h2
  |cons u m=>exact(join_split _ _ [] [] (fun x hx y hy r s=>Zep x y r s (Zdc (a3 x hx)) (Zdc (b3 y hy))) sm sm e3).1
end
theorem ZdM{m n:Nat}(h:newV m=newV n):m=n:=by
 simp only[newV,Ub,true_and]at h;have:=ZkK h;omega
theorem Xq{α:Type} [DecidableEq α]:∀{p q:List α},p.Nodup→(∀x∈p,x∈q)→p.length≤q.length
 |[],_,_,_=>Un _
 |x::p,q,hn,h=>by
  rw[Gm]at hn;have hx:=h x sm;have:=Xq (q:=q.erase x) hn.2 fun y hy=>(List.mem_erase_of_ne (fun e=>hn.1 (by rw[←e];exact hy))).2 (h y (by simp[hy]))
  rw[List.length_erase_of_mem hx]at this;have:=List.length_pos_of_mem hx;simp only[Qo];omega
theorem ZkH(S:List (List UInt8)):∀f n,n≤Zbh S f n
 |0,n=>Qe _
 |f+1,n=>by
  simp only[Zbh];split
  ·have:=ZkH S f (n+1);omega
  ·exact Qe _
theorem Zko{S:List (List UInt8)}:∀{f n},newV (Zbh S f n)∈S→ ∀i,i≤f→newV (n+i)∈S
 |0,n,h,i,hi=>by
  have:i=0:=by omega
  subst this;exact h
 |f+1,n,h,i,hi=>by
  simp only[Zbh]at h;split at h
  ·rename_i h0;cases i with
   |zero=>exact h0
   |succ i=>have:=Zko h i om;rwa [show n+1+i=n+(i+1) by omega]at this
  ·rename_i h0;exact absurd h h0
theorem Zi8(S:List (List UInt8))(n:Nat):n<XD S n:=by have:=ZkH S (S.length+1) (n+1);unfold XD;omega
theorem ZhG(S:List (List UInt8))(n:Nat):newV (XD S n)∉S:=fun h=>by
 have h1:=Zko h;have h2:((List.range (S.length+2)).map fun i=>newV (n+1+i)).length≤S.length:=by
  refine Xq ?_ fun x hx=>?_
  ·refine List.Pairwise.map _ (fun a b hab e=>?_) Qaz;have:=ZdM e;omega
  ·obtain⟨i,hi,rfl⟩:=Qb.1 hx;rw[Gg]at hi;exact h1 i om
 rw[Qv,MS]at h2;omega
def ZbH(σ:Bnd):Tm→Tm→Prop
 | .mk k n s l,v=>if k=5∨k=6 then v∈(YQ (.mk k n s l) σ).1 else if k=3 then Zz s σ=some v else k=v.kind∧n=v.num∧s=v.name∧covs σ l v.args
where covs (σ:Bnd):List Tm→List Tm→Prop
 |[],q=>q=[]
 |t::r,q=>match q with
  |[]=>False
  |v::q=>ZbH σ t v∧covs σ r q
def Zlu(A:List Am)(σ:Bnd)(x:Lt):Prop:=
 if x.kind=2 then∃v∈(YQ x.L σ).1,∃w∈(YQ x.R σ).1,XL x.op v w=true
 else if x.kind=1 then(if x.neg=false then∃a∈A,a.sg=x.at_.sg∧ZbH.covs σ x.at_.args a.args else∃q,ZbH.covs σ x.at_.args q)else True
theorem Ws{P:Tm→Prop}{Q:List Tm→Prop}(h1:∀k n s l,Q l→P (.mk k n s l))(h2:Q [])(h3:∀t r,P t→Q r→Q (t::r)):(∀t,P t)∧ ∀l,Q l:=by
 have h:∀t,P t:=fun t=>Tm.rec (motive_1:=P) (motive_2:=Q) h1 h2 (fun t r ht hr=>h3 t r ht hr) t
 exact⟨h,fun l=>by induction l with
  |nil=>exact h2
  |cons t r ih=>exact h3 t r (h t) ih⟩
section
variable {s:List UInt8} {S:List (List UInt8)}
theorem WY{k n:Int}{l:List Tm}{c:Nat}(h:k=5∨k=6):flT S (.mk k n s l) c=(.mk 3 0 (newV (XD S c)) [],XD S c,[(XD S c,.mk k n s l)]):=by
 rw[flT,if_pos h]
theorem WX{k n:Int}{l:List Tm}{c:Nat}(h:¬(k=5∨k=6)):flT S (.mk k n s l) c=(.mk k n s (flT.flTs S l c).1,(flT.flTs S l c).2.1,(flT.flTs S l c).2.2):=by
 rw[flT,if_neg h]
theorem ZpR(S:List (List UInt8)):(∀t c,c≤(flT S t c).2.1∧ ∀d∈(flT S t c).2.2,c<d.1∧d.1≤(flT S t c).2.1∧newV d.1∉S)∧
  ∀l c,c≤(flT.flTs S l c).2.1∧ ∀d∈(flT.flTs S l c).2.2,c<d.1∧d.1≤(flT.flTs S l c).2.1∧newV d.1∉S:=by
 refine Ws (fun k n s l ih c=>?_) (fun c=>⟨Qe _,fun d hd=>by cases hd⟩) fun t r h1 h2 c=>?_
 ·by_cases hk:k=5∨k=6
  ·rw[WY hk];have:=Zi8 S c;refine⟨by simp only;omega,fun d hd=>?_⟩;simp only[Ql]at hd;subst hd;exact⟨this,Qe _,ZhG S c⟩
  ·rw[WX hk];exact ih c
 ·simp only[flT.flTs];have a1:=h1 c;have a2:=h2 (flT S t c).2.1;refine⟨om,fun d hd=>?_⟩;rcases Qj.1 hd with hd|hd
  ·have:=a1.2 d hd;exact⟨this.1,om,this.2.2⟩
  ·have:=a2.2 d hd;exact⟨om,this.2.1,this.2.2⟩
theorem ZiR(S:List (List UInt8)):(∀t c n,(n∈nmT (flT S t c).1∨ ∃d∈(flT S t c).2.2,n∈nmT d.2)↔(n∈nmT t∨ ∃d∈(flT S t c).2.2,n=newV d.1))∧
  ∀l c n,(n∈nmT.nms (flT.flTs S l c).1∨ ∃d∈(flT.flTs S l c).2.2,n∈nmT d.2)↔(n∈nmT.nms l∨ ∃d∈(flT.flTs S l c).2.2,n=newV d.1):=by
 refine Ws (fun k n s l ih c m=>?_) (fun c m=>by simp[flT.flTs,nmT.nms]) fun t r h1 h2 c m=>?_
 ·by_cases hk:k=5∨k=6
  ·rw[WY hk];simp[nmT,nmT.nms];exact or_comm
  ·rw[WX hk];have:=ih c m;simp only[nmT,Qj,or_assoc]at this⊢;rw[this]
 ·simp only[flT.flTs,nmT.nms,Qj];have a1:=h1 c m;have a2:=h2 (flT S t c).2.1 m;constructor
  ·rintro((h|h)|⟨d,hd|hd,h⟩)
   ·rcases a1.1 (.inl h)with h|⟨d,hd,h⟩
    all_goals first|exact .inl (.inl h)|exact .inr ⟨d,.inl hd,h⟩
   ·rcases a2.1 (.inl h)with h|⟨d,hd,h⟩
    all_goals first|exact .inl (.inr h)|exact .inr ⟨d,.inr hd,h⟩
   ·rcases a1.1 (.inr ⟨d,hd,h⟩)with h|⟨d,hd,h⟩
    all_goals first|exact .inl (.inl h)|exact .inr ⟨d,.inl hd,h⟩
   ·rcases a2.1 (.inr ⟨d,hd,h⟩)with h|⟨d,hd,h⟩
    all_goals first|exact .inl (.inr h)|exact .inr ⟨d,.inr hd,h⟩
  ·rintro((h|h)|⟨d,hd|hd,h⟩)
   ·rcases a1.2 (.inl h)with h|⟨d,hd,h⟩
    all_goals first|exact .inl (.inl h)|exact .inr ⟨d,.inl hd,h⟩
   ·rcases a2.2 (.inl h)with h|⟨d,hd,h⟩
    all_goals first|exact .inl (.inr h)|exact .inr ⟨d,.inr hd,h⟩
   ·rcases a1.2 (.inr ⟨d,hd,h⟩)with h|⟨d,hd,h⟩
    all_goals first|exact .inl (.inl h)|exact .inr ⟨d,.inl hd,h⟩
   ·rcases a2.2 (.inr ⟨d,hd,h⟩)with h|⟨d,hd,h⟩
    all_goals first|exact .inl (.inr h)|exact .inr ⟨d,.inr hd,h⟩
theorem ZsY(S:List (List UInt8)):(∀t c,t.all okV=true→(flT S t c).1.all okV=true∧ ∀d∈(flT S t c).2.2,d.2.all okV=true)∧
  ∀l c,(∀u∈l,u.all okV=true)→(∀u∈(flT.flTs S l c).1,u.all okV=true)∧ ∀d∈(flT.flTs S l c).2.2,d.2.all okV=true:=by
 refine Ws (fun k n s l ih c h=>?_) (fun c _=>⟨fun u hu=>(by cases hu),fun d hd=>by cases hd⟩) fun t r h1 h2 c h=>?_
 ·by_cases hk:k=5∨k=6
  ·rw[WY hk];exact⟨by simp[Tm.all,Tm.all.alls,okV,Tm.kind,Tm.args,Tm.name,newV],fun d hd=>by simp only[Ql]at hd;subst hd;exact h⟩
  ·rw[WX hk];have h':=ih c fun u hu=>Xn h hu
   refine⟨?_,h'.2⟩;rw[Tm.all_eq,Qi,Tm.VI,QA];refine⟨?_,h'.1⟩;by_cases hk3:k=3
   ·subst hk3;have e:=Zdo h;subst e;exact Y1 h
   ·simp[okV,Tm.kind,hk3]
 ·simp only[flT.flTs];have a1:=h1 c (h t sm);have a2:=h2 (flT S t c).2.1 fun u hu=>h u (by simp[hu])
  refine⟨fun u hu=>?_,fun d hd=>?_⟩
  ·rcases Qk.1 hu with rfl|hu
   all_goals first|exact a1.1|exact a2.1 u hu
  ·rcases Qj.1 hd with hd|hd
   all_goals first|exact a1.2 d hd|exact a2.2 d hd
def ZgC(σ τ:Bnd)(ds:List (Nat×Tm)):Prop:=∀d∈ds,∃w∈(YQ d.2 σ).1,Zz (newV d.1) τ=some w
theorem Zp6(S:List (List UInt8)){σ τ:Bnd}(hx:YI σ τ):(∀t c,t.all okV=true→(∀n∈nmT t,n∈Zq σ)→ZgC σ τ (flT S t c).2.2→ZbH σ t (ZN τ (flT S t c).1))∧
  ∀l c,(∀u∈l,u.all okV=true)→(∀n∈nmT.nms l,n∈Zq σ)→ZgC σ τ (flT.flTs S l c).2.2→ZbH.covs σ l (ZN.apps τ (flT.flTs S l c).1):=by
 refine Ws (fun k n s l ih c hV hn hd=>?_) (fun c _ _ _=>by simp[flT.flTs,ZbH.covs,ZN.apps]) fun t r h1 h2 c hV hn hd=>?_
 ·by_cases hk:k=5∨k=6
  ·rw[WY hk]at hd⊢;obtain⟨w,hw,hl⟩:=hd _ (Ql.2 rfl);rw[ZbH,if_pos hk,WA hl];exact hw
  ·rw[WX hk]at hd⊢;rw[ZbH,if_neg hk];by_cases h3:k=3
   ·subst h3;obtain⟨v,hv⟩:=Yh.2 (hn s Zia);rw[if_pos rfl,WA (hx s v hv)];exact hv
   ·rw[if_neg h3,Jv h3,←Jg];refine⟨rfl,rfl,rfl,ih c (fun u hu=>Xn hV hu) (fun m hm=>hn m ?_) hd⟩;rw[nmT];exact QK _ hm
 ·simp only[flT.flTs]at hd⊢;simp only[ZbH.covs,ZN.apps];simp only[nmT.nms,Qj]at hn;exact⟨h1 c (hV t sm) (fun m hm=>hn m (.inl hm)) fun d h=>hd d (QC _ h),
   h2 _ (fun u hu=>hV u (by simp[hu])) (fun m hm=>hn m (.inr hm)) fun d h=>hd d (QK _ h)⟩
def Za4(S:List (List UInt8))(τ:Bnd)(c:Nat):Prop:=∀m,c<m→newV m∉S→newV m∉Zq τ
theorem Zj4(S:List (List UInt8)){σ:Bnd}(hσ:ZP σ):(∀t c τ v,ZP τ→YI σ τ→Za4 S τ c→t.all okV=true→(∀n∈nmT t,n∈Zq σ)→ZbH σ t v→
   ∃τ',ZP τ'∧YI τ τ'∧(∀n,n∈Zq τ'↔n∈Zq τ∨ ∃d∈(flT S t c).2.2,n=newV d.1)∧ZN τ' (flT S t c).1=v∧ZgC σ τ' (flT S t c).2.2)∧
  ∀l c τ q,ZP τ→YI σ τ→Za4 S τ c→(∀u∈l,u.all okV=true)→(∀n∈nmT.nms l,n∈Zq σ)→ZbH.covs σ l q→
   ∃τ',ZP τ'∧YI τ τ'∧(∀n,n∈Zq τ'↔n∈Zq τ∨ ∃d∈(flT.flTs S l c).2.2,n=newV d.1)∧ZN.apps τ' (flT.flTs S l c).1=q∧ZgC σ τ' (flT.flTs S l c).2.2:=by
 refine Ws (fun k n s l ih c τ v hg hx hf hV hn hc=>?_) (fun c τ q hg hx hf _ _ hc=>⟨τ,hg,YI.refl _,fun n=>by simp[flT.flTs],by simp[ZbH.covs]at hc;simp[flT.flTs,ZN.apps,hc],fun d hd=>by cases hd⟩)
  fun t r h1 h2 c τ q hg hx hf hV hn hc=>?_
 ·by_cases hk:k=5∨k=6
  ·rw[WY hk];rw[ZbH,if_pos hk]at hc;have hfree:=hf _ (Zi8 S c) (ZhG S c);have hl:Zz (newV (XD S c)) (Wp (newV (XD S c)) v τ)=some v:=by rw[Vu,if_pos rfl]
   refine⟨Wp (newV (XD S c)) v τ,hg.ext hfree (Zba hσ hn hc),YI.ext hfree v,fun m=>?_,WA hl,fun d hd=>?_⟩
   ·rw[Zd0];simp[or_comm]
   ·simp only[Ql]at hd;subst hd;exact⟨v,hc,hl⟩
  ·rw[WX hk];rw[ZbH,if_neg hk]at hc;by_cases h3:k=3
   ·subst h3;have e:=Zdo hV;subst e;rw[if_pos rfl]at hc;exact⟨τ,hg,YI.refl _,fun m=>by simp[flT.flTs],WA (hx s v hc),fun d hd=>by cases hd⟩
   ·rw[if_neg h3]at hc;obtain⟨τ',g,x,d,a,w⟩:=ih c τ v.args hg hx hf (fun u hu=>Xn hV hu) (fun m hm=>hn m (by rw[nmT];exact QK _ hm)) hc.2.2.2;refine⟨τ',g,x,d,?_,w⟩;rw[Jv h3,←Jg,a,hc.1,hc.2.1,hc.2.2.1];cases v;rfl
 ·simp only[flT.flTs];simp only[nmT.nms,Qj]at hn;cases q with
  |nil=>simp only[ZbH.covs]at hc
  |cons v q=>
   simp only[ZbH.covs]at hc;obtain⟨τ1,g1,x1,d1,a1,w1⟩:=h1 c τ v hg hx hf (hV t sm) (fun m hm=>hn m (.inl hm)) hc.1;have hnum:=(ZpR S).1 t c;have hf1:Za4 S τ1 (flT S t c).2.1:=fun m hm hS hd=>by
    rcases(d1 _).1 hd with h|⟨d,hd,e⟩
    ·exact hf m om hS h
    ·have:=ZdM e;have:=(hnum.2 d hd).2.1;omega
   obtain⟨τ2,g2,x2,d2,a2,w2⟩:=h2 (flT S t c).2.1 τ1 q g1 (hx.trans x1) hf1 (fun u hu=>hV u (by simp[hu])) (fun m hm=>hn m (.inr hm)) hc.2;refine⟨τ2,g2,x1.trans x2,fun m=>?_,?_,fun d hd=>?_⟩
   ·rw[d2,d1];simp only[Qj];constructor
    ·rintro((h|⟨d,hd,h⟩)|⟨d,hd,h⟩);all_goals first|exact .inl h|exact .inr ⟨d,.inl hd,h⟩|exact .inr ⟨d,.inr hd,h⟩
    ·rintro(h|⟨d,hd|hd,h⟩);all_goals first|exact .inl (.inl h)|exact .inl (.inr ⟨d,hd,h⟩)|exact .inr ⟨d,hd,h⟩
   ·simp only[ZN.apps,a2];congr 1
    rw[←a1];refine(Zft x2 fun m hm=>(d1 m).2 ?_).symm;rcases((ZiR S).1 t c m).1 (.inl hm)with h|h
    ·exact .inl (Zfr hx (hn m (.inl h)))
    ·exact .inr h
   ·rcases Qj.1 hd with hd|hd
    ·obtain⟨w,hw,hl⟩:=w1 d hd;exact⟨w,hw,x2 _ _ hl⟩
    ·exact w2 d hd
end
theorem Zlk(S:List (List UInt8)):(∀t c,∀d∈(flT S t c).2.2,∀n∈nmT d.2,n∈nmT t)∧ ∀l c,∀d∈(flT.flTs S l c).2.2,∀n∈nmT d.2,n∈nmT.nms l:=by
 refine Ws (fun k n s l ih c d hd m hm=>?_) (fun c d hd=>by cases hd) fun t r h1 h2 c d hd m hm=>?_
 ·by_cases hk:k=5∨k=6
  ·rw[WY hk]at hd;simp only[Ql]at hd;subst hd;exact hm
  ·rw[WX hk]at hd;rw[nmT];exact QK _ (ih c d hd m hm)
 ·simp only[flT.flTs]at hd;simp only[nmT.nms,Qj];rcases Qj.1 hd with hd|hd
  ·exact .inl (h1 c d hd m hm)
  ·exact .inr (h2 _ d hd m hm)
theorem Zam(S:List (List UInt8)):∀(l:List Tm) (c:Nat),(flT.flTs S l c).1.length=l.length
 |[],_=>rfl
 |t::r,c=>by simp only[flT.flTs,Qo,Zam S r]
def dfX(S:List (List UInt8))(x:Lt)(c:Nat):List (Nat×Tm):=if x.kind=1 then(flT.flTs S x.at_.args c).2.2 else []
def dfL(S:List (List UInt8)):List Lt→Nat→List (Nat×Tm)
 |[],_=>[]
 |x::r,c=>dfX S x c++dfL S r (flX S x c).2
section
variable {c:Nat} {x:Lt} {S:List (List UInt8)}
theorem JB(h:x.kind=1):flX S x c=({x with at_:=⟨x.at_.pred,(flT.flTs S x.at_.args c).1⟩}::(dfX S x c).map Vl,(flT.flTs S x.at_.args c).2.1):=by
 rw[flX,if_pos h,dfX,if_pos h]
theorem Jc(h:¬x.kind=1):flX S x c=([x],c)∧dfX S x c=[]:=by
 rw[flX,if_neg h,dfX,if_neg h];exact⟨rfl,rfl⟩
variable {n:List UInt8} {d:Nat×Tm}
theorem Zgy:n∈ZJ (Vl d)↔n=newV d.1∨n∈nmT d.2:=by
 rw[Yu,if_pos (show(Vl d).kind=2 from rfl)];simp[Vl,nmT,nmT.nms]
theorem ZoR{ds:List (Nat×Tm)}:n∈(ds.map Vl).flatMap ZJ↔ ∃d∈ds,n=newV d.1∨n∈nmT d.2:=by
 simp only[Qz,Qb];constructor
 ·rintro⟨y,⟨d,hd,rfl⟩,h⟩;exact⟨d,hd,Zgy.1 h⟩
 ·rintro⟨d,hd,h⟩;exact⟨_,⟨d,hd,rfl⟩,Zgy.2 h⟩
theorem Zpj(S:List (List UInt8))(x:Lt)(c:Nat)(n:List UInt8):n∈(flX S x c).1.flatMap ZJ↔n∈ZJ x∨ ∃d∈dfX S x c,n=newV d.1:=by
 by_cases h:x.kind=1
 ·have hv:=(ZiR S).2 x.at_.args c n;rw[JB h,QS,Qj,Yu,Yu,if_neg (show¬x.kind=2 by omega),if_neg (show¬x.kind=2 by omega),ZoR,dfX,if_pos h];constructor
  ·rintro(h|⟨d,hd,h|h⟩)
   ·exact hv.1 (.inl h)
   ·exact .inr ⟨d,hd,h⟩
   ·exact hv.1 (.inr ⟨d,hd,h⟩)
  ·rintro(h|⟨d,hd,h⟩)
   ·rcases hv.2 (.inl h)with h|⟨d,hd,h⟩
    all_goals first|exact .inl h|exact .inr ⟨d,hd,.inr h⟩
   ·exact .inr ⟨d,hd,.inl h⟩
 ·obtain⟨h1,h2⟩:=Jc (S:=S) (c:=c) h;rw[h1,h2];simp
theorem ZbW(S:List (List UInt8)):∀(l:List Lt) (c:Nat) (n:List UInt8),n∈(flL S l c).flatMap ZJ↔n∈l.flatMap ZJ∨ ∃d∈dfL S l c,n=newV d.1
 |[],c,n=>by simp[flL,dfL]
 |x::r,c,n=>by
  have h1:=Zpj S x c n;have h2:=ZbW S r (flX S x c).2 n;simp only[flL,dfL,Ur,QS,Qj,h1,h2];constructor
  ·rintro((h|⟨d,hd,h⟩)|(h|⟨d,hd,h⟩));all_goals first|exact .inl (.inl h)|exact .inr ⟨d,.inl hd,h⟩|exact .inl (.inr h)|exact .inr ⟨d,.inr hd,h⟩
  ·rintro((h|h)|⟨d,hd|hd,h⟩);all_goals first|exact .inl (.inl h)|exact .inr (.inl h)|exact .inl (.inr ⟨d,hd,h⟩)|exact .inr (.inr ⟨d,hd,h⟩)
theorem ZrF(c:Nat)(h:okX x):∀y∈(flX S x c).1,okX y:=by
 by_cases hk:x.kind=1
 ·have hf:=(ZsY S).2 x.at_.args c (h.2 hk);rw[JB hk];intro y hy;rcases Qk.1 hy with rfl|hy
  ·exact⟨h.1,fun _=>hf.1⟩
  ·obtain⟨d,hd,rfl⟩:=Qb.1 hy;rw[dfX,if_pos hk]at hd;exact⟨fun _=>⟨by simp[Vl,Tm.all,Tm.all.alls,okV,Tm.kind,Tm.args,Tm.name,newV],hf.2 d hd⟩,fun e=>by cases e⟩
 ·rw[(Jc (S:=S) (c:=c) hk).1];intro y hy;simp only[Ql]at hy;subst hy;exact h
theorem ZfK{S:List (List UInt8)}:∀{l:List Lt} (c:Nat),(∀x∈l,okX x)→ ∀y∈flL S l c,okX y
 |[],_,_,y,hy=>by cases hy
 |x::r,c,h,y,hy=>by
  simp only[flL]at hy;rcases Qj.1 hy with hy|hy
  ·exact ZrF c (h x sm) y hy
  ·exact ZfK _ (fun z hz=>h z (by simp[hz])) y hy
theorem ZmF(S:List (List UInt8))(x:Lt)(c:Nat):c≤(flX S x c).2∧ ∀d∈dfX S x c,c<d.1∧d.1≤(flX S x c).2∧newV d.1∉S:=by
 by_cases h:x.kind=1
 ·have:=(ZpR S).2 x.at_.args c;rw[JB h,dfX,if_pos h];exact this
 ·obtain⟨h1,h2⟩:=Jc (S:=S) (c:=c) h;rw[h1,h2];exact⟨Qe _,fun d hd=>by cases hd⟩
theorem ZmC(S:List (List UInt8)):∀(l:List Lt) (c:Nat),∀d∈dfL S l c,c<d.1∧newV d.1∉S
 |[],c,d,hd=>by cases hd
 |x::r,c,d,hd=>by
  have h1:=ZmF S x c;simp only[dfL]at hd;rcases Qj.1 hd with hd|hd
  ·exact⟨(h1.2 d hd).1,(h1.2 d hd).2.2⟩
  ·have:=ZmC S r _ d hd;exact⟨om,this.2⟩
variable {σ τ:Bnd} {A:List Am}
theorem Zma(hτ:ZP τ)(hx:YI σ τ)(hn:∀n∈nmT d.2,n∈Zq σ)(hd:newV d.1∈Zq τ):ZbS A τ (Vl d)↔ ∃w∈(YQ d.2 σ).1,Zz (newV d.1) τ=some w:=by
 obtain⟨u,hu⟩:=Yh.2 hd;have he:=ZiD hτ (t:=.mk 3 0 (newV d.1) []) rfl hu;have h2:YQ d.2 σ=YQ d.2 τ:=XR d.2 fun n h=>Ve hx (hn n h)
 have hv:∀v∈(YQ d.2 τ).1,Zu v=true:=fun v hv=>Zba hτ (fun n h=>Zfr hx (hn n h)) hv
 have huv:=hτ.look hu;unfold ZbS;rw[if_pos (show(Vl d).kind=2 from rfl),h2];simp only[Vl,he,Ql,exists_eq_left,hu,Qq];constructor
 ·rintro⟨w,hw,h⟩;refine⟨w,hw,(JW huv (hv w hw)).1 ?_⟩;simpa[XL]using h
 ·rintro⟨w,hw,rfl⟩;refine⟨u,hw,?_⟩;simp[XL,(JW huv huv).2 rfl]
theorem ZnT(hτ:ZP τ)(hx:YI σ τ)(ho:okX x)(hn:∀n∈ZJ x,n∈Zq σ)(hd:∀d∈dfX S x c,newV d.1∈Zq τ)
  (h:∀y∈(flX S x c).1,ZbS A τ y):Zlu A σ x:=by
 unfold Zlu;by_cases h2:x.kind=2
 ·have hc:∀n,n∈nmT x.L∨n∈nmT x.R→Zz n σ=Zz n τ:=fun n h=>Ve hx (hn n (by rw[Yu,if_pos h2];exact h))
  rw[(Jc (S:=S) (c:=c) (x:=x) om).1]at h;have:=h x sm;rw[ZbS,if_pos h2]at this;rw[if_pos h2,XR x.L fun n h=>hc n (.inl h),XR x.R fun n h=>hc n (.inr h)];exact this
 rw[if_neg h2];by_cases h1:x.kind=1
 ·have hn':∀n∈nmT.nms x.at_.args,n∈Zq σ:=fun n h=>hn n (by rw[Yu,if_neg h2];exact h)
  rw[JB h1]at h;have hdf:ZgC σ τ (flT.flTs S x.at_.args c).2.2:=fun d hm=>by
   have hm':d∈dfX S x c:=by rw[dfX,if_pos h1];exact hm
   exact(Zma hτ hx (fun n h=>hn' n ((Zlk S).2 _ c d hm n h)) (hd d hm')).1 (h _ (Qx _ (Qb.2 ⟨d,hm',rfl⟩)))
  have hs:=(Zp6 S hx).2 x.at_.args c (ho.2 h1) hn' hdf;rw[if_pos h1];split
  ·rename_i hneg;have:=h _ List.mem_cons_self;rw[ZbS,if_neg h2,if_pos ⟨h1,hneg⟩]at this;obtain⟨a,ha,hsg,he⟩:=this;refine⟨a,ha,?_,?_⟩
   ·rw[hsg];simp[Am.sg,Zam]
   ·rw[←he];exact hs
  ·exact⟨_,hs⟩
 ·rw[if_neg h1];trivial
theorem Zh4(hσ:ZP σ)(hτ:ZP τ)(hx:YI σ τ)(hf:Za4 S τ c)(ho:okX x)(hn:∀n∈ZJ x,n∈Zq σ)(h:Zlu A σ x):
  ∃τ',ZP τ'∧YI τ τ'∧(∀n,n∈Zq τ'↔n∈Zq τ∨ ∃d∈dfX S x c,n=newV d.1)∧ ∀ρ,ZP ρ→YI τ' ρ→ ∀y∈(flX S x c).1,ZbS A ρ y:=by
 unfold Zlu at h;by_cases h2:x.kind=2
 ·obtain⟨e1,e2⟩:=Jc (S:=S) (c:=c) (x:=x) om;rw[e1,e2];rw[if_pos h2]at h;refine⟨τ,hτ,YI.refl _,fun n=>by simp,fun ρ _ hρ y hy=>?_⟩;simp only[Ql]at hy;subst hy;have hc:∀n,n∈nmT y.L∨n∈nmT y.R→Zz n σ=Zz n ρ:=fun n h=>Ve (hx.trans hρ) (hn n (by rw[Yu,if_pos h2];exact h))
  rw[ZbS,if_pos h2,←XR y.L fun n h=>hc n (.inl h),←XR y.R fun n h=>hc n (.inr h)];exact h
 rw[if_neg h2]at h;by_cases h1:x.kind=1
 ·rw[if_pos h1]at h;have hn':∀n∈nmT.nms x.at_.args,n∈Zq σ:=fun n h=>hn n (by rw[Yu,if_neg h2];exact h)
  have hq:∃q,ZbH.covs σ x.at_.args q∧(x.neg=false→ ∃a∈A,a.sg=x.at_.sg∧q=a.args):=by
   split at h
   ·obtain⟨a,ha,hs,hc⟩:=h;exact⟨_,hc,fun _=>⟨a,ha,hs,rfl⟩⟩
   ·rename_i hneg;obtain⟨q,hc⟩:=h;exact⟨q,hc,fun e=>absurd e hneg⟩
  obtain⟨q,hc,hA⟩:=hq;obtain⟨τ',g,x',d,a,w⟩:=(Zj4 S hσ).2 x.at_.args c τ q hτ hx hf (ho.2 h1) hn' hc;have hdf:dfX S x c=(flT.flTs S x.at_.args c).2.2:=by rw[dfX,if_pos h1]
  refine⟨τ',g,x',by rw[hdf];exact d,fun ρ hρ xρ y hy=>?_⟩;rw[JB h1]at hy;rcases Qk.1 hy with rfl|hy
  ·unfold ZbS;rw[if_neg h2];split
   ·rename_i hk;obtain⟨b,hb,hs,hqe⟩:=hA hk.2;refine⟨b,hb,?_,?_⟩
    ·rw[hs];simp[Am.sg,Zam]
    ·rw[←hqe,←a];refine(Zgq _ fun n hm=>Ve xρ ((d n).2 ?_)).symm;rcases((ZiR S).2 x.at_.args c n).1 (.inl hm)with h|h
     ·exact .inl (Zfr hx (hn' n h))
     ·exact .inr h
   ·trivial
  ·obtain⟨e,he,rfl⟩:=Qb.1 hy;rw[hdf]at he;obtain⟨v,hv,hl⟩:=w e he;exact(Zma hρ ((hx.trans x').trans xρ) (fun n h=>hn' n ((Zlk S).2 _ c e he n h)) (Yh.1 ⟨v,xρ _ _ hl⟩)).2 ⟨v,hv,xρ _ _ hl⟩
 ·obtain⟨e1,e2⟩:=Jc (S:=S) (c:=c) (x:=x) h1;rw[e1,e2];refine⟨τ,hτ,YI.refl _,fun n=>by simp,fun ρ _ _ y hy=>?_⟩;simp only[Ql]at hy;subst hy;rw[ZbS,if_neg h2,if_neg (fun h=>h1 h.1)];trivial
theorem ZhP{A:List Am}{S:List (List UInt8)}{σ τ:Bnd}(hτ:ZP τ)(hx:YI σ τ):∀{l:List Lt} {c:Nat},(∀x∈l,okX x)→(∀n∈l.flatMap ZJ,n∈Zq σ)→(∀d∈dfL S l c,newV d.1∈Zq τ)→
  (∀y∈flL S l c,ZbS A τ y)→ ∀x∈l,Zlu A σ x
 |[],_,_,_,_,_,x,hm=>by cases hm
 |y::r,c,ho,hn,hd,h,x,hm=>by
  simp only[dfL,flL,QS,Qj]at hn hd h;rcases Qk.1 hm with rfl|hm
  ·exact ZnT hτ hx (ho x sm) (fun n h=>hn n (.inl h)) (fun d h=>hd d (.inl h)) fun z hz=>h z (.inl hz)
  ·exact ZhP hτ hx (fun z hz=>ho z (by simp[hz])) (fun n h=>hn n (.inr h)) (fun d h=>hd d (.inr h)) (fun z hz=>h z (.inr hz)) x hm
theorem ZdY{A:List Am}{S:List (List UInt8)}{σ:Bnd}(hσ:ZP σ):∀{l:List Lt} {c:Nat} {τ:Bnd},ZP τ→YI σ τ→Za4 S τ c→(∀x∈l,okX x)→(∀n∈l.flatMap ZJ,n∈Zq σ)→(∀x∈l,Zlu A σ x)→
  ∃τ',ZP τ'∧YI τ τ'∧(∀n,n∈Zq τ'↔n∈Zq τ∨ ∃d∈dfL S l c,n=newV d.1)∧ ∀y∈flL S l c,ZbS A τ' y
 |[],_,τ,hτ,_,_,_,_,_=>⟨τ,hτ,YI.refl _,fun n=>by simp[dfL],fun y hy=>by cases hy⟩
 |x::r,c,τ,hτ,hx,hf,ho,hn,h=>by
  simp only[QS,Qj]at hn;obtain⟨τ1,g1,x1,d1,s1⟩:=Zh4 hσ hτ hx hf (ho x sm) (fun n h=>hn n (.inl h)) (h x sm);have hnum:=ZmF S x c;have hf1:Za4 S τ1 (flX S x c).2:=fun m hm hS hd=>by
   rcases(d1 _).1 hd with h|⟨d,hd,e⟩
   ·exact hf m om hS h
   ·have:=ZdM e;have:=(hnum.2 d hd).2.1;omega
  obtain⟨τ2,g2,x2,d2,s2⟩:=ZdY hσ g1 (hx.trans x1) hf1 (fun z hz=>ho z (by simp[hz])) (fun n h=>hn n (.inr h)) fun z hz=>h z (by simp[hz])
  refine⟨τ2,g2,x1.trans x2,fun n=>?_,fun y hy=>?_⟩
  ·rw[d2,d1];simp only[dfL,Qj];constructor
   ·rintro((h|⟨d,hd,h⟩)|⟨d,hd,h⟩);all_goals first|exact .inl h|exact .inr ⟨d,.inl hd,h⟩|exact .inr ⟨d,.inr hd,h⟩
   ·rintro(h|⟨d,hd|hd,h⟩);all_goals first|exact .inl (.inl h)|exact .inl (.inr ⟨d,hd,h⟩)|exact .inr ⟨d,hd,h⟩
  ·simp only[flL]at hy;rcases Qj.1 hy with hy|hy
   ·exact s1 τ2 g2 x2 y hy
   ·exact s2 y hy
/-! Join. -/
def XY(K:List (List UInt8))(b:Bnd):Prop:=ZP b∧ ∀n,n∈Zq b↔n∈K
theorem ZrH(K:List (List UInt8)):Zg1 (XY K) YJ:=by
 have hd:∀{x y:Bnd},XY K x→XY K y→Zq x=Zq y:=fun hx hy=>Zio hx.1.asc hy.1.asc fun n=>by rw[hx.2,hy.2]
 have hl:∀{x y:Bnd},XY K x→XY K y→x.length=y.length:=fun hx hy=>by have:=congrArg List.length (hd hx hy);simpa[Zq]using this
 have hnm:∀{x:Bnd},XY K x→ ∀u∈x.map Prod.snd,u.Nm:=fun hx u hu=>by obtain⟨q,hq,rfl⟩:=Qb.1 hu;exact JG (hx.1.val q hq)
 have he:∀{x y:Bnd},XY K x→XY K y→YJ x y=cmpT.cmps (x.map Prod.snd) (y.map Prod.snd):=fun hx hy=>by
  unfold YJ;rw[hl hx hy,ZaB,Jo]
 refine⟨⟨fun b=>ser.sers (b.map Prod.snd),fun x y hx hy=>?_⟩,fun x y hx hy h=>?_⟩
 ·rw[he hx hy,lex_sers _ _ (hnm hx) (hnm hy) (by simp[hl hx hy])]
 ·rw[he hx hy]at h;have h1:=cmps_zero (hnm hx) (hnm hy) h;have h2:=hd hx hy;refine QaZ fun i=>?_
  have a1:(x.map Prod.snd)[i]? =(y.map Prod.snd)[i]?:=by rw[h1]
  have a2:(x.map Prod.fst)[i]? =(y.map Prod.fst)[i]?:=congrArg (fun l:List (List UInt8)=>l[i]?) h2;rw[QZ,QZ]at a1 a2;cases e1:x[i]?<;>cases e2:y[i]?<;>rw[e1,e2]at a1 a2<;>simp at a1 a2;exact congrArg some (Qa9 a2 a1)
def Z7(l:List Lt)(b:Bnd):List (List UInt8):=l.flatMap ZJ++Zq b
def Sol(A:List Am)(l:List Lt)(b σ:Bnd):Prop:=XY (Z7 l b) σ∧YI b σ∧ ∀x∈l,Zlu A σ x
theorem Zoh(hA:∀a∈A,Yv a=true){l:List Lt}{b:Bnd}(ho:∀x∈l,okX x)(hb:ZP b){p:List Stp}{out:List Bnd}(hp:VP (Zq b) (XQ l (Z7 l b))=some p)(hr:WZ A p [b]=(out,0)):
  (XM YJ (out.map (Jb (Z7 l b)))).Pairwise (fun x y=>YJ x y<0)∧ ∀σ,σ∈XM YJ (out.map (Jb (Z7 l b)))↔Sol A l b σ:=by
 let S:=Z7 l b++l.flatMap fun x=>(Yy x).flatMap Z8
 have hF:XQ l (Z7 l b)=flL S l 0:=rfl;have hoF:∀y∈flL S l 0,okX y:=ZfK 0 ho;rw[hF]at hp;obtain⟨m1,m2,m3⟩:=ZeE hoF hp;have hrun:=Zm4 hA p (Zq b) [b] out (fun c hc=>by simp only[Ql]at hc;subst hc;exact⟨hb,fun n=>Iff.rfl⟩) m1 hr;have hdom:∀n,(n∈Zq b∨n∈p.flatMap varS)↔n∈Z7 l b∨ ∃d∈dfL S l 0,n=newV d.1:=fun n=>by
  rw[m2,ZbW S l 0 n];simp only[Z7,Qj];constructor
  ·rintro(h|h|h);all_goals first|exact .inl (.inr h)|exact .inl (.inl h)|exact .inr h
  ·rintro((h|h)|h);all_goals first|exact .inr (.inl h)|exact .inl h|exact .inr (.inr h)
 have hout:∀c,c∈out↔ZP c∧YI b c∧(∀n,n∈Zq c↔n∈Z7 l b∨ ∃d∈dfL S l 0,n=newV d.1)∧ ∀y∈flL S l 0,ZbS A c y:=fun c=>by
  rw[hrun c];simp only[Ql,exists_eq_left];have hvar:(∀n,n∈Zq c↔n∈Z7 l b∨ ∃d∈dfL S l 0,n=newV d.1)→ ∀n∈(flL S l 0).flatMap ZJ,n∈Zq c:=fun hd n hn=>by
   refine(hd n).2 ?_;rcases(ZbW S l 0 n).1 hn with h|h
   ·exact .inl (QC _ h)
   ·exact .inr h
  constructor
  ·rintro⟨g,x,d,s⟩;have d':∀n,n∈Zq c↔n∈Z7 l b∨ ∃d∈dfL S l 0,n=newV d.1:=fun n=>(d n).trans (hdom n)
   exact⟨g,x,d',(m3 A c g (hvar d')).1 s⟩
  ·rintro⟨g,x,d,s⟩;exact⟨g,x,fun n=>(d n).trans (hdom n).symm,(m3 A c g (hvar d)).2 s⟩
 have hres:∀c∈out,XY (Z7 l b) (Jb (Z7 l b) c):=fun c hc=>by
  obtain⟨g,x,d,s⟩:=(hout c).1 hc;refine⟨g.filter _,fun n=>?_⟩;rw[ZdB];exact⟨fun h=>h.1,fun h=>⟨h,(d n).2 (.inl h)⟩⟩
 have hG:∀y∈out.map (Jb (Z7 l b)),XY (Z7 l b) y:=fun y hy=>by
  obtain⟨c,hc,rfl⟩:=Qb.1 hy;exact hres c hc
 refine⟨(ZrH _).set_asc hG,fun σ=>?_⟩;rw[(ZrH _).set_mem hG,Qb];constructor
 ·rintro⟨c,hc,rfl⟩;obtain⟨g,x,d,s⟩:=(hout c).1 hc;have hsd:=hres c hc;refine⟨hsd,fun n v hn=>?_,ZhP g (Zkr _ _) ho (fun n hn=>(hsd.2 n).2 (QC _ hn)) (fun d' hd'=>(d _).2 (.inr ⟨d',hd',rfl⟩)) s⟩;rw[Zaz,if_pos (show n∈Z7 l b from QK _ (Yh.1 ⟨v,hn⟩))];exact x n v hn
 ·rintro⟨⟨g,d⟩,x,s⟩;have hf:Za4 S σ 0:=fun m _ hm hd=>hm (QC _ ((d _).1 hd))
  obtain⟨τ,gτ,xτ,dτ,sτ⟩:=ZdY g g (YI.refl σ) hf ho (fun n hn=>(d n).2 (QC _ hn)) s;refine⟨τ,(hout τ).2 ⟨gτ,x.trans xτ,fun n=>by rw[dτ,d],sτ⟩,?_⟩;refine Zgv (gτ.filter _) g (fun n v hn=>?_) fun n hn=>?_
  ·rw[Zaz]at hn;split at hn
   ·rename_i hk;obtain⟨w,hw⟩:=Yh.2 ((d n).2 hk);rw[xτ n w hw]at hn;cases hn;exact hw
   ·cases hn
  ·rw[ZdB];exact⟨(d n).1 hn,Zfr xτ hn⟩
end
def bareT:Tm→List (List UInt8)
 | .mk k _ s l=>if k=5∨k=6 then []else(if k=3 then [s]else [])++bares l
where bares:List Tm→List (List UInt8)
 |[]=>[]
 |t::r=>bareT t++bares r
inductive Rch (S:List (List UInt8)) (l:List Lt):List UInt8→Prop
 |base {n}:n∈S→Rch S l n
 |atom {n} (x:Lt):x∈l→x.kind=1→x.neg=false→n∈bareT.bares x.at_.args→Rch S l n
 |left {n} (x:Lt):x∈l→x.kind=2→x.op=1→x.L.kind=3→(∀m∈nmT x.R,Rch S l m)→n∈nmT x.L→Rch S l n
 |right {n} (x:Lt):x∈l→x.kind=2→x.op=1→x.R.kind=3→(∀m∈nmT x.L,Rch S l m)→n∈nmT x.R→Rch S l n
def Safe(S:List (List UInt8))(l:List Lt):Prop:=∀n∈l.flatMap ZJ,Rch S l n
theorem Zh3(S:List (List UInt8)):(∀t c n,n∈nmT (flT S t c).1↔n∈bareT t∨ ∃d∈(flT S t c).2.2,n=newV d.1)∧ ∀l c n,n∈nmT.nms (flT.flTs S l c).1↔n∈bareT.bares l∨ ∃d∈(flT.flTs S l c).2.2,n=newV d.1:=by
 refine Ws (fun k n s l ih c m=>?_) (fun c m=>by simp[flT.flTs,nmT.nms,bareT.bares]) fun t r h1 h2 c m=>?_
 ·by_cases hk:k=5∨k=6
  ·rw[WY hk,bareT,if_pos hk];simp[nmT,nmT.nms]
  ·rw[WX hk,bareT,if_neg hk];have:=ih c m;simp only[nmT,Qj,or_assoc,this]
 ·have a1:=h1 c m;have a2:=h2 (flT S t c).2.1 m;simp only[flT.flTs,nmT.nms,bareT.bares,Qj,a1,a2];constructor
  ·rintro((h|⟨d,hd,h⟩)|(h|⟨d,hd,h⟩));all_goals first|exact .inl (.inl h)|exact .inr ⟨d,.inl hd,h⟩|exact .inl (.inr h)|exact .inr ⟨d,.inr hd,h⟩
  ·rintro((h|h)|⟨d,hd|hd,h⟩);all_goals first|exact .inl (.inl h)|exact .inr (.inl h)|exact .inl (.inr ⟨d,hd,h⟩)|exact .inr (.inr ⟨d,hd,h⟩)
theorem bare_sub:(∀t,∀n∈bareT t,n∈nmT t)∧ ∀l,∀n∈bareT.bares l,n∈nmT.nms l:=by
 refine Ws (fun k n s l ih m hm=>?_) (fun m hm=>by cases hm) fun t r h1 h2 m hm=>?_
 ·rw[bareT]at hm;split at hm
  ·cases hm
  ·rw[nmT];rcases Qj.1 hm with h|h
   all_goals first|exact QC _ h|exact QK _ (ih m h)
 ·simp only[bareT.bares,nmT.nms,Qj]at hm⊢;exact hm.imp (h1 m) (h2 m)
theorem Zq2(S:List (List UInt8)):(∀t c,∀d∈(flT S t c).2.2,d.2.kind=5∨d.2.kind=6)∧ ∀l c,∀d∈(flT.flTs S l c).2.2,d.2.kind=5∨d.2.kind=6:=by
 refine Ws (fun k n s l ih c d hd=>?_) (fun c d hd=>by cases hd) fun t r h1 h2 c d hd=>?_
 ·by_cases hk:k=5∨k=6
  ·rw[WY hk]at hd;simp only[Ql]at hd;subst hd;exact hk
  ·rw[WX hk]at hd;exact ih c d hd
 ·simp only[flT.flTs]at hd;rcases Qj.1 hd with hd|hd
  all_goals first|exact h1 c d hd|exact h2 _ d hd
def flA(S:List (List UInt8))(x:Lt)(c:Nat):Lt:={x with at_:=⟨x.at_.pred,(flT.flTs S x.at_.args c).1⟩}
theorem Zfq{S:List (List UInt8)}{y:Lt}:∀{l:List Lt} {c:Nat},y∈flL S l c→(∃x∈l,¬x.kind=1∧y=x)∨(∃x∈l,x.kind=1∧ ∃c',y=flA S x c'∧ ∀d∈(flT.flTs S x.at_.args c').2.2,d∈dfL S l c)∨ ∃d∈dfL S l c,y=Vl d
 |[],_,h=>by cases h
 |x::r,c,h=>by
  simp only[flL]at h;rcases Qj.1 h with h|h
  ·by_cases hk:x.kind=1
   ·rw[JB hk]at h;rcases Qk.1 h with rfl|h
    ·exact .inr (.inl ⟨x,sm,hk,c,rfl,fun d hd=>by simp only[dfL];exact QC _ (by rw[dfX,if_pos hk];exact hd)⟩)
    ·obtain⟨d,hd,rfl⟩:=Qb.1 h;exact .inr (.inr ⟨d,by simp only[dfL];exact QC _ hd,rfl⟩)
   ·rw[(Jc (S:=S) (c:=c) hk).1]at h;simp only[Ql]at h;exact .inl ⟨x,sm,hk,h⟩
  ·rcases Zfq h with⟨z,hz,h⟩|⟨z,hz,hk,c',e,h⟩|⟨d,hd,h⟩
   ·exact .inl ⟨z,by simp[hz],h⟩
   ·exact .inr (.inl ⟨z,by simp[hz],hk,c',e,fun d hd=>by simp only[dfL];exact QK _ (h d hd)⟩)
   ·exact .inr (.inr ⟨d,by simp only[dfL];exact QK _ hd,h⟩)
theorem Zdh{S:List (List UInt8)}:∀{l:List Lt} {c:Nat},(∀x∈l,¬x.kind=1→x∈flL S l c)∧(∀x∈l,x.kind=1→ ∃c',flA S x c'∈flL S l c)∧ ∀d∈dfL S l c,Vl d∈flL S l c
 |[],_=>⟨fun x h=>(by cases h),fun x h=>(by cases h),fun d h=>(by cases h)⟩
 |x::r,c=>by
  obtain⟨a1,a2,a3⟩:=Zdh (S:=S) (l:=r) (c:=(flX S x c).2);simp only[flL,dfL];refine⟨fun z hz hk=>?_,fun z hz hk=>?_,fun d hd=>?_⟩
  ·rcases Qk.1 hz with rfl|hz
   ·exact QC _ (by rw[(Jc (S:=S) (c:=c) hk).1];simp)
   ·exact QK _ (a1 z hz hk)
  ·rcases Qk.1 hz with rfl|hz
   ·exact⟨c,QC _ (by rw[JB hk];exact List.mem_cons_self)⟩
   ·obtain⟨c',h⟩:=a2 z hz hk;exact⟨c',QK _ h⟩
  ·rcases Qj.1 hd with hd|hd
   ·refine QC _ ?_;by_cases hk:x.kind=1
    ·rw[JB hk];exact Qx _ (Qb.2 ⟨d,hd,rfl⟩)
    ·rw[(Jc (S:=S) (c:=c) hk).2]at hd;cases hd
   ·exact QK _ (a3 d hd)
theorem Zfk{S:List (List UInt8)}:∀{l:List Lt} {c:Nat},∀d∈dfL S l c,(d.2.kind=5∨d.2.kind=6)∧ ∀n∈nmT d.2,n∈l.flatMap ZJ
 |[],_,d,hd=>by cases hd
 |x::r,c,d,hd=>by
  simp only[dfL]at hd;rcases Qj.1 hd with hd|hd
  ·unfold dfX at hd;split at hd
   ·rename_i hk;refine⟨(Zq2 S).2 _ c d hd,fun n hn=>?_⟩;rw[QS];refine QC _ ?_;rw[Yu,if_neg om];exact(Zlk S).2 _ c d hd n hn
   ·cases hd
  ·obtain⟨a,b⟩:=Zfk d hd;exact⟨a,fun n hn=>by rw[QS];exact QK _ (b n hn)⟩
theorem ZmU{P:List UInt8→Prop}{F:List Lt}(hstep:∀s y S,y∈F→Vq s y→Ready S s→(∀n∈S,P n)→ ∀n∈varS s,P n):∀{p:List Stp} {T:List Lt} {S:List (List UInt8)},Fa2 Vq p T→(∀y∈T,y∈F)→Rdy S p→(∀n∈S,P n)→ ∀n∈p.flatMap varS,P n
 |_,_,_,.nil,_,_,_,n,hn=>by simp at hn
 |_,_,S,.cons (a:=s) h t,hT,hr,hS,n,hn=>by
  have h1:=hstep _ _ S (hT _ sm) h hr.1 hS;rw[QS]at hn;rcases Qj.1 hn with hn|hn
  ·exact h1 n hn
  ·exact ZmU hstep t (fun y hy=>hT y (by simp[hy])) hr.2 (fun m hm=>by rcases Qj.1 hm with hm|hm;all_goals first|exact hS m hm|exact h1 m hm) n hn
section
variable {S:List (List UInt8)}
theorem ZaW{x:Lt}(hk:x.kind=2)(hop:x.op=1):(x.L.kind=3→(∀n∈nmT x.R,n∈S)→Y0 S x≠none)∧(x.R.kind=3→(∀n∈nmT x.L,n∈S)→Y0 S x≠none):=by
 unfold Y0;rw[if_pos hk];refine⟨fun h3 hr=>?_,fun h3 hl=>?_⟩
 ·split
  ·simp
  ·rw[if_pos ⟨hop,WB.2 hr,h3⟩];simp
 ·split
  ·simp
  ·split
   ·simp
   ·rw[if_pos ⟨hop,WB.2 hl,h3⟩];simp
theorem ZlU{x:Lt}(hk:x.kind=2)(h:∀n∈ZJ x,n∈S):Y0 S x≠none:=by
 unfold Y0;have h':∀n,n∈nmT x.L∨n∈nmT x.R→n∈S:=fun n hn=>h n (by rw[Yu,if_pos hk];exact hn)
 rw[if_pos hk,if_pos]
 ·simp
 ·rw[Qi,WB,WB];exact⟨fun n hn=>h' n (.inl hn),fun n hn=>h' n (.inr hn)⟩
theorem Zn6{l:List Lt}{b:Bnd}(ho:∀x∈l,okX x)(hk:∀x∈l,x.kind=1∨x.kind=2):(VP (Zq b) (XQ l (Z7 l b)))≠none↔Safe (Zq b) l:=by
 let S:=Z7 l b++l.flatMap fun x=>(Yy x).flatMap Z8
 have hF:XQ l (Z7 l b)=flL S l 0:=rfl;rw[hF];have hoF:∀y∈flL S l 0,okX y:=ZfK 0 ho;have hnew:∀d∈dfL S l 0,∀n,n∈l.flatMap ZJ∨n∈Zq b→ ¬n=newV d.1:=fun d hd n hn e=>by
  refine(ZmC S l 0 d hd).2 ?_;rw[←e];refine QC _ ?_;rcases hn with hn|hn
  all_goals first|exact QC _ hn|exact QK _ hn
 have hvar:∀x∈l,∀n∈ZJ x,n∈l.flatMap ZJ:=fun x hx n hn=>Qz.2 ⟨x,hx,hn⟩
 obtain⟨T,a1,a2,a3,a4,a5⟩:=plan_spec (flL S l 0).length (Zq b) (flL S l 0) hoF;have hnone:=a5 (Qe _);simp only[Vf,Qbh]at hnone;have n1:=Zb7 hnone.1;have n2:=Zb7 hnone.2;constructor
 ·intro h n hn;cases hp:VP (Zq b) (flL S l 0)with
  |none=>exact absurd hp h
  |some p=>
   obtain⟨m1,m2,_⟩:=ZeE hoF hp;have hpe:p=(planF (flL S l 0).length (Zq b) (flL S l 0)).1:=by
    unfold VP at hp;simp only at hp;split at hp
    ·cases hp;rfl
    ·cases hp
   have hall:=ZmU (F:=flL S l 0) (P:=fun n=>Rch (Zq b) l n∨ ∃d∈dfL S l 0,n=newV d.1) (fun s y S' hy hm hr hS' n hn=>?_) (hpe▸a2) (fun y hy=>a1.mem_iff.2 (QC _ hy)) m1 fun n hn=>.inl (.base hn)
   ·have:n∈Zq b∨n∈p.flatMap varS:=(m2 n).2 (.inr ((ZbW S l 0 n).2 (.inl hn)));rcases this with h|h
    ·exact .base h
    ·rcases hall n h with h|⟨d,hd,e⟩
     ·exact h
     ·exact absurd e (hnew d hd n (.inl hn))
   ·have hR:∀n∈S',n∈l.flatMap ZJ→Rch (Zq b) l n:=fun n hn hl=>by
     rcases hS' n hn with h|⟨d,hd,e⟩
     ·exact h
     ·exact absurd e (hnew d hd n (.inl hl))
    cases s with
    |test z=>exact hS' n (hr n hn)
    |bind m t=>
     obtain⟨hk2,hop,hm⟩:=hm;rcases Qk.1 hn with rfl|hn
     ·rcases Zfq hy with⟨x,hx,hk1,rfl⟩|⟨x,hx,hk1,c',rfl,_⟩|⟨d,hd,rfl⟩
      ·rcases hm with⟨h3,rfl,rfl⟩|⟨h3,rfl,rfl⟩
       ·refine .inl (.left y hx hk2 hop h3 (fun m hm=>hR m (hr.2 m hm) (hvar y hx m ?_)) ?_)
        ·rw[Yu,if_pos hk2];exact .inr hm
        ·rw[J5 h3 ((ho y hx).1 hk2).1];simp
       ·refine .inl (.right y hx hk2 hop h3 (fun m hm=>hR m (hr.2 m hm) (hvar y hx m ?_)) ?_)
        ·rw[Yu,if_pos hk2];exact .inl hm
        ·rw[J5 h3 ((ho y hx).1 hk2).2];simp
      ·simp only[flA]at hk2;omega
      ·rcases hm with⟨h3,rfl,rfl⟩|⟨h3,rfl,rfl⟩
       ·exact .inr ⟨d,hd,rfl⟩
       ·have:=(Zfk d hd).1;simp only[Vl]at h3;omega
     ·exact hS' n (hr.2 n hn)
    |atom a=>
     obtain⟨hk1,hneg,rfl⟩:=hm;rcases Zfq hy with⟨x,hx,hk',rfl⟩|⟨x,hx,hkx,c',rfl,hds⟩|⟨d,hd,rfl⟩
     ·exact absurd hk1 hk'
     ·rcases((Zh3 S).2 x.at_.args c' n).1 hn with h|⟨d,hd,e⟩
      ·exact .inl (.atom x hx hkx hneg h)
      ·exact .inr ⟨d,hds d hd,e⟩
     ·cases hk1
 ·intro hs;have hin:∀n,Rch (Zq b) l n→n∈(planF (flL S l 0).length (Zq b) (flL S l 0)).2.1:=by
   have htake:∀y∈flL S l 0,(Y0 (planF (flL S l 0).length (Zq b) (flL S l 0)).2.1 y≠none∨JU y≠none)→ ∀n∈ZJ y,n∈(planF (flL S l 0).length (Zq b) (flL S l 0)).2.1:=fun y hy h n hn=>by
    rcases Qj.1 (a1.mem_iff.1 hy)with hT|hr
    ·exact(a4 n).2 (.inr (Qz.2 ⟨y,hT,hn⟩))
    ·rcases h with h|h
     ·exact absurd (n1 y hr) h
     ·exact absurd (n2 y hr) h
   intro n h;induction h with
   |base h=>exact(a4 _).2 (.inl h)
   |atom x hx hkx hneg h=>
    obtain⟨c',hy⟩:=(Zdh (S:=S) (l:=l) (c:=0)).2.1 x hx hkx;refine htake _ hy (.inr ?_) _ ?_
    ·simp[JU,flA,hkx,hneg]
    ·rw[Yu,if_neg (show¬(flA S x c').kind=2 by simp only[flA];omega)];exact((Zh3 S).2 x.at_.args c' _).2 (.inl h)
   |left x hx hk2 hop h3 _ h ih=>
    refine htake x ((Zdh (S:=S) (l:=l) (c:=0)).1 x hx om) (.inl ((ZaW hk2 hop).1 h3 ih)) _ ?_;rw[Yu,if_pos hk2];exact .inl h
   |right x hx hk2 hop h3 _ h ih=>
    refine htake x ((Zdh (S:=S) (l:=l) (c:=0)).1 x hx om) (.inl ((ZaW hk2 hop).2 h3 ih)) _ ?_;rw[Yu,if_pos hk2];exact .inr h
  have hl:∀n∈l.flatMap ZJ,n∈(planF (flL S l 0).length (Zq b) (flL S l 0)).2.1:=fun n hn=>hin n (hs n hn)
  have hdef:∀d∈dfL S l 0,newV d.1∈(planF (flL S l 0).length (Zq b) (flL S l 0)).2.1:=fun d hd=>by
   have hy:=(Zdh (S:=S) (l:=l) (c:=0)).2.2 d hd;rcases Qj.1 (a1.mem_iff.1 hy)with hT|hr
   ·exact(a4 _).2 (.inr (Qz.2 ⟨_,hT,Zgy.2 (.inl rfl)⟩))
   ·exact absurd (n1 _ hr) ((ZaW rfl rfl).1 rfl fun n hn=>hl n ((Zfk d hd).2 n hn))
  unfold VP;simp only;rw[if_pos]
  ·simp
  ·rw[QA];intro y hr;have hy:y∈flL S l 0:=a1.mem_iff.2 (QK _ hr);rcases Zfq hy with⟨x,hx,hk',rfl⟩|⟨x,hx,hkx,c',rfl,hds⟩|⟨d,hd,rfl⟩
   ·have hk2:y.kind=2:=by rcases hk y hx with h|h;all_goals first|exact absurd h hk'|exact h
    exact absurd (n1 y hr) (ZlU hk2 fun n hn=>hl n (hvar y hx n hn))
   ·have hk2:¬(flA S x c').kind=2:=by simp only[flA];omega
    simp only[XV,Qi,G9,beq_eq_false_iff_ne,ZbO];refine⟨hk2,fun n hn=>?_⟩;rw[Yu,if_neg hk2]at hn;rcases((Zh3 S).2 x.at_.args c' n).1 hn with h|⟨d,hd,e⟩
    ·exact hl n (hvar x hx n (by rw[Yu,if_neg om];exact bare_sub.2 _ n h))
    ·rw[e];exact hdef d (hds d hd)
   ·exact absurd (n1 _ hr) ((ZaW rfl rfl).1 rfl fun n hn=>hl n ((Zfk d hd).2 n hn))
end
theorem plains_eq:∀l:List Tm,plainT.plains l=l.map plainT
 |[]=>rfl
 |t::r=>by rw[plainT.plains,plains_eq r];rfl
theorem plain_okV:(∀t:Tm,(plainT t).all shape=true→t.all okV=true)∧ ∀l:List Tm,(∀u∈plainT.plains l,u.all shape=true)→ ∀u∈l,u.all okV=true:=by
 refine Ws (fun k n s l ih h=>?_) (fun _ u hu=>by cases hu) fun t r h1 h2 h u hu=>?_
 ·rw[plainT]at h;have h0:=Y1 h;rw[Tm.all_eq,Qi,Tm.VI,QA]at h⊢;refine⟨?_,ih h.2⟩;by_cases hk:k=3
  ·subst hk;simp only[okV,Tm.kind,Tm.args,Tm.name];simp[shape,nargs,named,Tm.kind,Tm.args,Tm.name,Tm.num,plains_eq]at h0;obtain⟨⟨⟨_,hs⟩,_⟩,hl⟩:=h0;have hl:l=[]:=by cases l with
    |nil=>rfl
    |cons _ _=>simp at hl
   subst hl;cases s with
   |nil=>simp at hs
   |cons b r=>rfl
  ·simp[okV,Tm.kind,hk]
 ·simp only[plainT.plains]at h;rcases Qk.1 hu with rfl|hu
  ·exact h1 (h _ sm)
  ·exact h2 (fun w hw=>h w (by simp[hw])) u hu
theorem ZcI{t:Tm}(h:Zah t=true):t.all okV=true:=by
 simp only[Zah,Xy,Qi]at h;exact plain_okV.1 t h.2
theorem Zch{x:Lt}(h:Y7 x=true):okX x∧(x.kind=1∨x.kind=2):=by
 unfold Y7 at h;split at h
 ·rename_i hk;simp only[Qi,QA]at h;exact⟨⟨fun e=>by omega,fun _ u hu=>ZcI (h.2 u hu)⟩,.inl hk⟩
 ·split at h
  ·rename_i hk;simp only[Qi]at h;exact⟨⟨fun _=>⟨ZcI h.1.2,ZcI h.2⟩,fun e=>by omega⟩,.inr hk⟩
  ·cases h
theorem validB_good:∀{b:Bnd},validB b=true→ZP b
 |[],_=>⟨List.Pairwise.nil,fun q hq=>by cases hq⟩
 |[p],h=>⟨by simp[V7],fun q hq=>by simp only[Ql]at hq;subst hq;exact h⟩
 |p::q::r,h=>by
  simp only[validB,Qi,decide_eq_true_eq]at h;obtain⟨a,v⟩:=validB_good (b:=q::r) h.2;refine⟨UA.2 ⟨fun y hy=>?_,a⟩,fun y hy=>?_⟩
  ·rcases Qk.1 hy with rfl|hy
   ·exact h.1.2
   ·exact serN.trans (y:=q.1) trivial trivial trivial h.1.2 ((UA.1 a).1 y hy)
  ·rcases Qk.1 hy with rfl|hy
   all_goals first|exact h.1.1|exact v y hy
def Er(e:Int):Prop:=e=0∨e=3∨e=5
theorem Zlh(t:Tm)(b:Bnd):Er (YQ t b).2:=by
 unfold YQ Er;split
 ·split<;>simp
 ·simp
theorem Zqr(A:List Am)(s:Stp)(b:Bnd):Er (stepS A s b).2:=by
 cases s with
 |test x=>
  simp only[stepS,Jd];have:=Zlh x.L b;have:=Zlh x.R b;split
  ·simp only[V9];split<;>assumption
  ·exact .inl rfl
 |bind n t=>exact Zlh t b
 |atom a=>exact .inl rfl
theorem Zr6{f:Bnd→List Bnd×Int}(h:∀b,Er (f b).2)(now:List Bnd):Er (Xe f now).2:=by
 have:∀(now:List Bnd) (p:List Bnd×Int),Er p.2→Er (now.foldl (fun p b=>Wl p (f b)) p).2:=by
  intro now;induction now with
  |nil=>intro p hp;exact hp
  |cons b now ih=>
   intro p hp;refine ih _ ?_;simp only[Wl];split
   ·exact h b
   ·exact hp
 simp only[Xe];split
 ·exact .inr (.inr rfl)
 ·exact this now _ (.inl rfl)
theorem Zo8(A:List Am):∀(p:List Stp) (now:List Bnd),Er (WZ A p now).2
 |[],_=>.inl rfl
 |s::p,now=>by
  simp only[WZ];split
  ·exact Zo8 A p _
  ·exact Zr6 (Zqr A s) now
theorem ZeT{A:List Am}(hA:∀a∈A,Yv a=true)(l:List Lt)(b:Bnd):
  (¬(l.all Y7=true∧validB b=true)∧Xf A l b=([],2))∨
  (l.all Y7=true∧validB b=true∧ ¬Safe (Zq b) l∧Xf A l b=([],120))∨
  (l.all Y7=true∧validB b=true∧Safe (Zq b) l∧((∃e,(e=3∨e=5)∧Xf A l b=([],e))∨
   ∃r,Xf A l b=(r,0)∧r.Pairwise (fun x y=>YJ x y<0)∧ ∀σ,σ∈r↔Sol A l b σ)):=by
 by_cases hv:l.all Y7=true∧validB b=true
 ·have ho:∀x∈l,okX x:=fun x hx=>(Zch (QA.1 hv.1 x hx)).1
  have hk:∀x∈l,x.kind=1∨x.kind=2:=fun x hx=>(Zch (QA.1 hv.1 x hx)).2
  have hb:=validB_good hv.2;have hs:=Zn6 (b:=b) ho hk;have hj:Xf A l b=match VP (Zq b) (XQ l (Z7 l b))with
   |none=>([],eUnsafe)
   |some p=>if(WZ A p [b]).2=0 then(XM YJ ((WZ A p [b]).1.map (Jb (Z7 l b))),0)else([],(WZ A p [b]).2):=by
   unfold Xf;rw[hv.1,hv.2];rfl
  cases hp:VP (Zq b) (XQ l (Z7 l b))with
  |none=>
   rw[hp]at hs hj;exact .inr (.inl ⟨hv.1,hv.2,fun h=>hs.2 h rfl,hj⟩)
  |some p=>
   rw[hp]at hj;refine .inr (.inr ⟨hv.1,hv.2,hs.1 (by rw[hp];simp),?_⟩);simp only at hj;have he:=Zo8 A p [b];by_cases h0:(WZ A p [b]).2=0
   ·rw[if_pos h0]at hj;have:=Zoh hA ho hb hp (out:=(WZ A p [b]).1) (by rw[←h0]);exact .inr ⟨_,hj,this.1,this.2⟩
   ·rw[if_neg h0]at hj;refine .inl ⟨_,?_,hj⟩;rcases he with h|h|h
    all_goals first|exact absurd h h0|exact .inl h|exact .inr h
 ·refine .inl ⟨hv,?_⟩;unfold Xf;rw[if_neg];rw[Qi];exact hv

section
variable {t:Tm}
theorem ZqJ(h:okv t=true):t.args.length≤8:=by
 rcases Vp h with h|h|h
 ·rw[h.2.2.2.2];simp
 ·rw[h.2.2.2];simp
 ·omega
theorem Zpk{K:Nat}:∀{l:List Tm},(∀u∈l,u.sz≤K)→Tm.sz.szs l≤l.length*K
 |[],_=>by simp[Tm.sz.szs]
 |t::r,h=>by
  have h1:=h t sm;have h2:=Zpk (l:=r) fun u hu=>h u (by simp[hu])
  simp only[Tm.sz.szs,Qo,Ue,QaF];omega
theorem okv_size:∀(d:Nat) (t:Tm),t.all okv=true→dep t≤d→7*t.sz+1≤8^d
 |0,t,_,h=>absurd h (by have:=Zmx t;omega)
 |d+1,t,hv,h=>by
  have h1:∀u∈t.args,u.sz≤(8^d - 1) / 7:=fun u hu=>by
   have:=okv_size d u (Xn hv hu) (by have:=Zh6 hu;omega);omega
  have h2:=Zpk h1;have h3:=ZqJ (Y1 hv);have h4:t.args.length*((8^d - 1) / 7)≤8*((8^d - 1) / 7):=QD _ h3;have h5:1≤8^d:=Nat.pow_pos om;rw[Tm.Zhu,Nat.pow_succ];omega
theorem Zge(h:Zu t=true):t.sz≤9817068105:=by
 have:=okv_size 12 t (Jq h) (Zhy h);omega
theorem YC(h:Zu t=true):t.Good:=⟨by have:=Zge h;omega,JG h⟩
theorem Zj3{b:Bnd}(hb:ZP b):∀t:Tm,(ZN b t).sz≤t.sz*9817068105
 | .mk k n s l=>by
  have h0:∀q:List Tm,(∀u∈q,u∈l)→Tm.sz.szs (q.map (ZN b))≤Tm.sz.szs q*9817068105:=by
   intro q;induction q with
   |nil=>intro _;simp[Tm.sz.szs]
   |cons u q ih=>
    intro hq;have h1:=ih fun v hv=>hq v (by simp[hv])
    have hu:u∈l:=hq u sm;have h2:=Zj3 hb u;simp only[Qs,Tm.sz.szs];omega
  have hl:=h0 l fun _ h=>h
  rw[J8];cases e:(if k=3 then Zz s b else none)with
  |none=>simp only[Tm.sz];omega
  |some v=>
   have hv:Zz s b=some v:=by
    split at e
    ·exact e
    ·cases e
   have:=Zge (hb.look hv);simp only[Tm.sz];omega
termination_by t=>SizeOf.sizeOf t
decreasing_by
 have:=QU hu;simp only[Tm.mk.sizeOf_spec];omega
theorem ZpZ{b:Bnd}(hb:ZP b):∀t:Tm,t.Nm→(ZN b t).Nm
 | .mk k n s l,h=>by
  have h1:∀u∈l,(ZN b u).Nm:=fun u hu=>ZpZ hb u (h.arg u hu)
  rw[J8];cases e:(if k=3 then Zz s b else none)with
  |none=>
   cases h with|mk _ _ _ _ h2 h3 h4 h5 h6=>
   exact .mk _ _ _ _ h2 h3 h4 (by simpa using h5) fun u hu=>by obtain⟨v,hv,rfl⟩:=Qb.1 hu;exact h1 v hv
  |some v=>
   have hv:Zz s b=some v:=by
    split at e
    ·exact e
    ·cases e
   exact JG (hb.look hv)
termination_by t=>SizeOf.sizeOf t
decreasing_by
 have:=QU hu;simp only[Tm.mk.sizeOf_spec];omega
theorem ZjS{b:Bnd}(hb:ZP b)(h:t.Nm)(hs:t.sz≤305):(ZN b t).Good:=
 ⟨by have:=Zj3 hb t;omega,ZpZ hb t h⟩
end
def grT(t:Tm):Bool:=t.all fun u=>!(u.kind==3)
def ZdH(t:Tm):List Tm×Int:=if Xy t&&grT t then match expandS t with
  |some l=>(l,0)
  |none=>([],5)
 else([],2)
theorem Fa2.get{α β:Type}{R:α→β→Prop}:∀{p:List α} {q:List β},Fa2 R p q→ ∀i (h:i<p.length),∃h':i<q.length,R p[i] q[i]
 |_,_,.cons h t,0,_=>⟨sm,h⟩
 |_,_,.cons h t,i+1,hi=>by
  obtain⟨h',hr⟩:=t.get i (by simpa using hi);exact⟨by simpa using h',hr⟩
theorem cmps_len':∀{p q:List Tm},cmpT.cmps p q=0→p.length=q.length
 |[],[],_=>rfl
 |[],_::_,h=>by rw[cmpT.cmps]at h;cases h
 |_::_,[],h=>by rw[cmpT.cmps]at h;cases h
 |a::p,b::q,h=>by
  rw[cmpT.cmps]at h;rw[Qo,Qo,cmps_len' (XH h).2]
theorem ZlO(b c:Bnd):YJ b c=cmpT.cmps (b.map Prod.snd) (c.map Prod.snd):=by
 unfold YJ thn;split
 ·rename_i h;have:=cmps_len' h;simp only[Qv]at this;rw[h,this];simp[YA]
 ·rfl
def befS:Bnd→Bnd→Bool
 |p::a,q::b=>if p.1=q.1 then(if cmpT p.2 q.2=0 then befS a b else decide (cmpT p.2 q.2<0))else false
 |_,_=>false
theorem bef_cmps:∀{a b:Bnd},Zq a=Zq b→cmpT.cmps (a.map Prod.snd) (b.map Prod.snd)<0→befS a b=true
 |[],[],_,h=>by simp[cmpT.cmps]at h
 |[],_::_,h,_=>by cases h
 |_::_,[],h,_=>by cases h
 |p::a,q::b,h,hc=>by
  simp only[Zq,Qs,Ub]at h;simp only[Qs,cmpT.cmps]at hc;rw[befS,if_pos h.1];by_cases h0:cmpT p.2 q.2=0
  ·rw[h0,YS]at hc;rw[if_pos h0];exact bef_cmps h.2 hc
  ·rw[ZaV h0]at hc;rw[if_neg h0];simpa using hc
/-! JoinSorted. -/
structure J7 (b:Bnd) (r:List Bnd×Int):Prop where
 err:r.2=0∨r.1=[]
 good:∀σ∈r.1,ZP σ
 given:∀σ∈r.1,ZP b∧YI b σ
 dom:∀σ∈r.1,∀τ∈r.1,Zq σ=Zq τ
 asc:r.1.Pairwise fun x y=>YJ x y<0
theorem ZiO{A:List Am}(hA:∀a∈A,Yv a=true)(l:List Lt)(b:Bnd):J7 b (Xf A l b):=by
 have nil:∀e,J7 b ([],e):=fun e=>⟨.inr rfl,fun _ h=>(by cases h),fun _ h=>(by cases h),fun _ h=>(by cases h),.nil⟩
 rcases ZeT hA l b with⟨_,h⟩|⟨_,_,_,h⟩|⟨_,hb,_,⟨e,_,h⟩|⟨r,h,hp,hm⟩⟩
 ·rw[h];exact nil _
 ·rw[h];exact nil _
 ·rw[h];exact nil _
 ·rw[h];refine⟨.inl rfl,fun σ hσ=>((hm σ).1 hσ).1.1,fun σ hσ=>⟨validB_good hb,((hm σ).1 hσ).2.1⟩,fun σ hσ τ hτ=>?_,hp⟩;have h1:=((hm σ).1 hσ).1;have h2:=((hm τ).1 hτ).1;exact Zio h1.1.asc h2.1.asc fun n=>by rw[h1.2,h2.2]
section
variable {r:List Bnd×Int} {b:Bnd}
theorem J7.len(h:J7 b r){σ τ:Bnd}(hs:σ∈r.1)(ht:τ∈r.1):σ.length=τ.length:=by
 have:=congrArg List.length (h.dom σ hs τ ht);simpa[Zq]using this
theorem J7.bef(h:J7 b r){i:Nat}(hi:i+1<r.1.length):befS (r.1[i]'om) (r.1[i+1]'hi)=true:=by
 refine bef_cmps (h.dom _ (Qa _) _ (Qa _)) ?_;rw[←ZlO];exact UU.1 h.asc i (i+1) om hi om
theorem J7.look(h:J7 b r){σ:Bnd}(hs:σ∈r.1){k:Nat}(hk:k<b.length):Zz b[k].1 σ=some b[k].2∧Zu b[k].2=true:=by
 obtain⟨g,x⟩:=h.given σ hs;exact⟨x _ _ (Zaq g.asc (Qa hk)),g.val _ (Qa hk)⟩
/-! JoinMore. -/
/-! JoinSplit. -/
/-! JoinAll. -/
end
set_option maxRecDepth 100000
def vX:Tm:=.mk 3 0 [88] []
def vY:Tm:=.mk 3 0 [89] []
def vZ:Tm:=.mk 3 0 [90] []
def ZbY(a b:Tm):Tm:=.mk 5 0 [43] [a,b]
def zT:Tm:=.mk 0 0 [] []
def ZgK(l:List Tm):Lt:=⟨1,false,⟨[112],l⟩,0,zT,zT⟩
def ZfZ(o:Int)(a b:Tm):Lt:=⟨2,false,⟨[],[]⟩,o,a,b⟩
def exA:List Am:=[⟨[112],[Yg 1,Yg 2]⟩,⟨[112],[Yg 2,Yg 3]⟩,⟨[112],[Yg 3,Yg 5]⟩]
theorem aw1:Xf exA [ZgK [vX,ZbY vZ (Yg 1)]] []=([],120):=by kernel_rfl
theorem aw2:Xf exA [ZgK [vX,vY],ZgK [vY,vZ]] []=([[([88],Yg 1),([89],Yg 2),([90],Yg 3)],[([88],Yg 2),([89],Yg 3),([90],Yg 5)]],0):=by kernel_rfl
theorem aw3:Xf exA [ZgK [vX,ZbY vX (Yg 1)],ZfZ 1 vY (.mk 6 0 [] [Yg 1,vX]),ZfZ 2 vY (Yg 2)] []=([[([88],Yg 1),([89],Yg 1)],[([88],Yg 2),([89],Yg 1)]],0):=by kernel_rfl
theorem aw4:XQ [ZgK [vX,ZbY vX (Yg 1)]] []=[ZgK [vX,.mk 3 0 [35,49] []],ZfZ 1 (.mk 3 0 [35,49] []) (ZbY vX (Yg 1))]:=by kernel_rfl
#print axioms aw3

def YB(n:Nat)(m:Int):Int:=if(n:Int)≤m then n else m+1
theorem Zf8(l:List Tm)(i:Nat)(h:i<l.length):Tm.sz.szs (l.take (i+1))=Tm.sz.szs (l.take i)+l[i].sz:=by
 have:∀p q:List Tm,Tm.sz.szs (p++q)=Tm.sz.szs p+Tm.sz.szs q:=by
  intro p q;induction p with
  |nil=>simp[Tm.sz.szs]
  |cons x p ih=>simp only[Q9,Tm.sz.szs,ih];omega
 rw[Qn h,this];simp[Tm.sz.szs]
theorem Zbu(l:List Tm)(i:Nat):Tm.sz.szs (l.take i)≤Tm.sz.szs l:=by
 have:∀p q:List Tm,Tm.sz.szs (p++q)=Tm.sz.szs p+Tm.sz.szs q:=by
  intro p q;induction p with
  |nil=>simp[Tm.sz.szs]
  |cons x p ih=>simp only[Q9,Tm.sz.szs,ih];omega
 have h:=this (l.take i) (l.drop i);rw[QX]at h;omega
def Zvw(l:List Tm)(m:Int)(H:Za)(i:Nat):Zb:=
 ⟨[(6,.int .i64 i),(5,.int .i64 (YB (Tm.sz.szs (l.take i)) m)),(0,.sl 4 (l.map Tm.enc) .any),(1,.int .i64 m)],[],H⟩
theorem a39(l:List Tm)(m:Int)(h0:-1≤m)(h1:m≤1000000)(hc:∀t∈l,∀m:Int,0≤m→m≤1000000→Pure Tryz.prog 33 [t.enc,.int .i64 m] (.int .i64 (YB t.sz m))):Pure Tryz.prog 74 [.sl 4 (l.map Tm.enc) .any,.int .i64 m] (.int .i64 (YB (Tm.sz.szs l) m)):=by
 intro n H;refine aF Tryz.func74 fun B=>?_
 refine nR ?_;refine nR ?_;refine nR ?_;refine kK ?_;refine Zr (Zvw l m H) l.length rfl ?_ ?_
 ·refine Zh ?_ ?_ ?_ ?_<;>repeat' first|apply q0|exact xx|apply aI
  simp only[Qas,Tm.sz.szs,YB,lkv];refine aS ?_;split
  ·exact .refl _
  ·rw[(by omega:m+1=0)];exact .refl _
 intro i hi;refine Ya rfl ?_;rcases Qg i l.length with h|h
 ·rcases Qaw m (Tm.sz.szs (l.take i))with h2|h2
  ·have e:YB (Tm.sz.szs (l.take i)) m=m+1:=by rw[YB,if_neg om]
   have hle:decide (m+1≤m)=false:=by rw[decide_eq_false_iff_not];omega
   refine nq3 h e hle ?_;refine nF ?_;refine nX ?_;refine nR ?_;refine nV ?_;refine Zc ?_ (.int _ _) rfl;have:=Zbu l i;rw[YB,if_neg om];refine aq e ?_;exact .refl _
  ·have e:YB (Tm.sz.szs (l.take i)) m=(Tm.sz.szs (l.take i):Int):=by rw[YB,if_pos h2]
   have hlen:=Tm.sz_len (l.take i);rw[Uo hi]at hlen;have hw:IntKind.i64.wrap (m - (Tm.sz.szs (l.take i):Int))=m - (Tm.sz.szs (l.take i):Int):=iw;refine nq3 h e h2 ?_;refine nT ?_;refine nr ?_;simp only[go_sem,simprocAttr,Tm.Zp _ _ h,h,e,hw];refine WM (Zf Tryz.func33 rfl rfl) (hc l[i] (Qa h) (m - (Tm.sz.szs (l.take i):Int)) om om) (by simp only[go_sem,simprocAttr,hw]) ?_;refine aq hw ?_;refine nR ?_;refine nN ?_;have hn:(Tm.sz.szs (l.take i):Int)+YB l[i].sz (m - (Tm.sz.szs (l.take i):Int))=YB (Tm.sz.szs (l.take (i+1))) m:=by
    rw[Zf8 l i h];unfold YB;split<;>split<;>omega
   have hb:YB (Tm.sz.szs (l.take (i+1))) m≤m+1∧0≤YB (Tm.sz.szs (l.take (i+1))) m:=by unfold YB;split<;>omega
   refine Zh ?_ ?_ ?_ ?_<;>repeat' first|apply q0|exact xx|apply aI
   ·refine aS ?_;rw[iw];exact .refl _
   ·refine aS ?_;rw[hn,iw];exact .refl _
 ·refine nq (QE.2 h) ?_;refine nF ?_;refine nX ?_;have hi':i=l.length:=by omega
  subst hi';refine nt0 ?_;refine nV ?_;exact Zc (.refl _) (.int _ _) rfl
theorem a11(t:Tm)(m:Int)(h0:0≤m)(h1:m≤1000000):Pure Tryz.prog 33 [t.enc,.int .i64 m] (.int .i64 (YB t.sz m)):=by
 intro n H;have hw:IntKind.i64.wrap (m - 1)=m - 1:=iw;have hc:YB t.sz m=1+YB (Tm.sz.szs t.args) (m - 1):=by rw[Tm.Zhu];unfold YB;split<;>split<;>omega
 have hb:YB (Tm.sz.szs t.args) (m - 1)≤m∧0≤YB (Tm.sz.szs t.args) (m - 1):=by unfold YB;split<;>omega
 refine aF Tryz.func33 fun B=>?_
 refine nR ?_;refine nq hw ?_;refine WM (Zf Tryz.func74 rfl rfl) (a39 t.args (m - 1) om om (fun u hu m' h0' h1'=>a11 u m' h0' h1')) (by simp only[go_sem,simprocAttr,hw]) ?_;refine aq hw ?_;refine nV ?_;refine Zc ?_ (.int _ _) rfl;refine aS ?_;rw[hc,iw];exact .refl _
termination_by SizeOf.sizeOf t
decreasing_by exact Tm.Xm hu
theorem a38(t:Am)(m:Int)(h0:0≤m)(h1:m≤1000000):Pure Tryz.prog 32 [t.enc,.int .i64 m] (.int .i64 (YB t.sz m)):=by
 intro n H;have hw:IntKind.i64.wrap (m - 1)=m - 1:=iw;have hc:YB t.sz m=1+YB (Tm.sz.szs t.args) (m - 1):=by unfold Am.sz YB;split<;>split<;>omega
 have hb:YB (Tm.sz.szs t.args) (m - 1)≤m∧0≤YB (Tm.sz.szs t.args) (m - 1):=by unfold YB;split<;>omega
 refine aF Tryz.func32 fun B=>?_
 refine nR ?_;refine nq hw ?_;refine WM (Zf Tryz.func74 rfl rfl) (a39 t.args (m - 1) om om (fun u hu m' h0' h1'=>a11 u m' h0' h1')) (by simp only[go_sem,simprocAttr,hw]) ?_;refine aq hw ?_;refine nV ?_;refine Zc ?_ (.int _ _) rfl;refine aS ?_;rw[hc,iw];exact .refl _
def szA:List Am→Nat
 |[]=>0
 |a::r=>a.sz+szA r
def great(l:List Am):Bool:=decide (150<l.length)||decide (2000<szA l)
def szX(x:Lt):Nat:=1+x.at_.sz+x.L.sz+x.R.sz
def szLs:List Lt→Nat
 |[]=>0
 |x::r=>szX x+szLs r
def Trk(m E v:Int):Prop:=(E≤m∧v=E∧0≤E)∨(m<E∧m<v∧v≤4*m+4)
def Zbx(m n:Int)(x:Lt):Int:=if n≤m then n+(1+YB x.at_.sz (m - n)+YB x.L.sz (m - n)+YB x.R.sz (m - n))else n
def Xh(m:Int)(l:List Lt):Int:=l.foldl (Zbx m) 0
section
variable {m:Int}
theorem VF{s:Nat}(h:0≤m):0≤YB s m∧YB s m≤m+1∧(YB s m=s∨(YB s m=m+1∧m<s)):=by
 unfold YB;split<;>omega
variable {v:Int}
theorem ZnO{E:Int}(x:Lt)(h:Trk m E v)(hE:0≤E):Trk m (E+szX x) (Zbx m v x):=by
 unfold Zbx szX;rcases h with⟨h1,rfl,h0⟩|⟨h1,h2,h3⟩
 ·rw[if_pos h1];obtain⟨a1,a2,a3⟩:=VF (s:=x.at_.sz) (m:=m - v) om;obtain⟨b1,b2,b3⟩:=VF (s:=x.L.sz) (m:=m - v) om;obtain⟨c1,c2,c3⟩:=VF (s:=x.R.sz) (m:=m - v) om;unfold Trk;omega
 ·rw[if_neg om];unfold Trk;omega
theorem ZgH(hm:0≤m)(l:List Lt):Trk m (szLs l) (Xh m l):=by
 have:∀(l:List Lt) (E v:Int),Trk m E v→0≤E→Trk m (E+szLs l) (l.foldl (Zbx m) v):=by
  intro l;induction l with
  |nil=>intro E v h _;simpa[szLs]using h
  |cons x r ih=>
   intro E v h h0;have:=ih _ _ (ZnO x h h0) om;rw[Uu,szLs]
   rwa [show E+((szX x+szLs r:Nat):Int)=E+szX x+szLs r by omega]
 have h:=this l 0 0 (.inl ⟨hm,rfl,GI _⟩) (GI _)
 rwa [Int.zero_add]at h
theorem Znm(h:m<v)(l:List Lt):l.foldl (Zbx m) v=v:=by
 induction l with
 |nil=>rfl
 |cons x r ih=>rw[Uu];rw[show Zbx m v x=v by unfold Zbx;rw[if_neg om]];exact ih
theorem ZeY{α β:Type}(f:β→α→β)(a:β)(l:List α)(i:Nat)(h:i<l.length):(l.take (i+1)).foldl f a=f ((l.take i).foldl f a) l[i]:=by
 rw[Qn h,U6];rfl
theorem size_at(hm:0≤m)(l:List Lt)(i:Nat):Trk m (szLs (l.take i)) (Xh m (l.take i)):=ZgH hm _
variable {i:Nat} {l:List Lt}
theorem ZnI(h:m<Xh m (l.take i)):Xh m l=Xh m (l.take i):=by
 conv=>lhs;rw[←QX i l]
 unfold Xh at*;rw[U6,Znm h]
def ZaE(n:Int)(s:Nat):Int:=if n≤300 then n+YB s (300 - n)else n
def X0(n:Int)(l:List Nat):Int:=l.foldl ZaE n
def Tru(E v:Int):Prop:=(E≤300∧v=E)∨(300<E∧300<v∧v≤E+301)
theorem ZnQ{E:Int}(s:Nat)(h:Tru E v)(h0:0≤E):Tru (E+s) (ZaE v s):=by
 unfold ZaE;rcases h with⟨h1,rfl⟩|⟨h1,h2,h3⟩
 ·rw[if_pos h1];obtain⟨a1,a2,a3⟩:=VF (s:=s) (m:=300 - v) om;unfold Tru;omega
 ·rw[if_neg om];unfold Tru;omega
def sumN:List Nat→Nat
 |[]=>0
 |x::r=>x+sumN r
theorem sum_tru:∀(l:List Nat) {E v:Int},Tru E v→0≤E→Tru (E+sumN l) (X0 v l)
 |[],E,v,h,_=>by simpa[sumN,X0]using h
 |s::r,E,v,h,h0=>by
  have:=sum_tru r (ZnQ s h h0) om;unfold X0 at*;rw[Uu,sumN]
  rwa [show E+((s+sumN r:Nat):Int)=E+s+sumN r by omega]
theorem ZqO(h:300<v)(l:List Nat):X0 v l=v:=by
 unfold X0;induction l with
 |nil=>rfl
 |cons x r ih=>rw[Uu];rw[show ZaE v x=v by unfold ZaE;rw[if_neg om]];exact ih
theorem Zkl{l:List Nat}(h:300<X0 v (l.take i)):X0 v l=X0 v (l.take i):=by
 conv=>lhs;rw[←QX i l]
 unfold X0 at*;rw[U6];exact ZqO h _
theorem Zjb{l:List Nat}(h:i<l.length):X0 v (l.take (i+1))=ZaE (X0 v (l.take i)) l[i]:=ZeY _ _ _ _ h
theorem sum_le:∀(l:List Nat) {v:Int},0≤v→0≤X0 v l∧(v≤X0 v l)∧(X0 v l≤v∨X0 v l≤301)
 |[],v,h=>⟨h,GI _,.inl (GI _)⟩
 |s::r,v,h=>by
  have h1:0≤ZaE v s∧v≤ZaE v s∧(ZaE v s≤v∨ZaE v s≤301):=by
   unfold ZaE;split
   ·obtain⟨a1,a2,a3⟩:=VF (s:=s) (m:=300 - v) om;omega
   ·omega
  have:=sum_le r (v:=ZaE v s) h1.1;unfold X0 at*;rw[Uu];omega
theorem sumN_sz:∀l:List Am,sumN (l.map Am.sz)=szA l
 |[]=>rfl
 |a::r=>by rw[Qs,sumN,szA,sumN_sz r]
def farS:Tm→Bool
 | .mk k n _ l=>((k==1)&&(decide (30<n)||decide (n< -30)))||fars k l
where fars (k:Int):List Tm→Bool
 |[]=>false
 |t::r=>(farS t||((k==6)&&(t.kind==6)))||fars k r
theorem Zje(k:Int):∀l:List Tm,farS.fars k l=l.any fun t=>farS t||((k==6)&&(t.kind==6))
 |[]=>rfl
 |t::r=>by rw[farS.fars,Zje k r];rfl
theorem Zrf(t:Tm):farS t=(((t.kind==1)&&(decide (30<t.num)||decide (t.num< -30)))||t.args.any fun u=>farS u||((t.kind==6)&&(u.kind==6))):=by
 cases t;rw[farS,Zje];rfl
def Zkg(l:List Lt):Bool:=l.any fun x=>(Yy x).any farS
def Zlq(b:Bnd):Bool:=b.any fun p=>farS p.2
def Zeu(l:List Lt)(A:List Am)(b:Bnd):Bool:=
 decide (300<X0 (X0 ((b.length:Int)+Xh 300 l) (A.map Am.sz)) (b.map fun p=>p.2.sz))||decide (5<l.length)||decide (24<A.length)||Zkg l||Zlq b
theorem ZeN{A:List Am}{b:Bnd}(h1:¬300<X0 (X0 ((b.length:Int)+Xh 300 l) (A.map Am.sz)) (b.map fun p=>p.2.sz)):b.length+szLs l+szA A+sumN (b.map fun p=>p.2.sz)≤300:=by
 have t0:=ZgH (m:=300) om l;have hs:=sum_le (A.map Am.sz) (v:=(b.length:Int)+Xh 300 l) (by rcases t0 with t0|t0<;>omega);have hs2:=sum_le (b.map fun p=>p.2.sz) (v:=X0 ((b.length:Int)+Xh 300 l) (A.map Am.sz)) hs.1;have e0:Xh 300 l=szLs l:=by rcases t0 with t0|t0<;>omega
 have t1:Tru ((b.length:Int)+szLs l) ((b.length:Int)+Xh 300 l):=.inl ⟨om,om⟩;have t2:=sum_tru (A.map Am.sz) t1 om;have t3:=sum_tru (b.map fun p=>p.2.sz) t2 om;rw[sumN_sz]at t3;rcases t3 with⟨t3,_⟩|⟨_,t3,_⟩
 ·omega
 ·omega
theorem ZkQ{A:List Am}{b:Bnd}(h:Zeu l A b=false):b.length+szLs l+szA A+sumN (b.map fun p=>p.2.sz)≤300∧l.length≤5∧A.length≤24:=by
 unfold Zeu at h;simp only[QaE,decide_eq_false_iff_not]at h;obtain⟨⟨⟨⟨h1,h2⟩,h3⟩,_⟩,_⟩:=h;exact⟨ZeN h1,om,om⟩
end
end Go.Proofs.YtmdeagmbfhbbnaaGreatDoorR

namespace Go.Abs
section
variable {κ β:Type} [DecidableEq κ]
def getM(k:κ):List (κ×β)→Option β
 |[]=>none
 |p::r=>if p.1=k then some p.2 else getM k r
def ZfM(k:κ)(v:β):List (κ×β)→List (κ×β)
 |[]=>[(k,v)]
 |p::r=>if p.1=k then(k,v)::r else p::ZfM k v r
def ixM(k:κ):List (κ×β)→Nat
 |[]=>0
 |p::r=>if p.1=k then 0 else ixM k r+1
abbrev Zbb(ek:κ→AV)(ev:β→AV)(es:List (κ×β)):List (AV×AV):=es.map fun p=>(ek p.1,ev p.2)
def Zob(ek:κ→AV):Prop:=∀a b,(ek a).kls=(ek b).kls→a=b
theorem ZmH{ek:κ→AV}(hi:Zob ek)(ev:β→AV)(k:κ):∀(es:List (κ×β)) (i:Nat),XP (ek k).kls ((Zbb ek ev es).map fun p=>p.1.kls) i=if(getM k es).isSome then some (i+ixM k es)else none
 |[],i=>by simp[XP,getM]
 |p::r,i=>by
  simp only[Qs,XP,getM,ixM];by_cases h:p.1=k
  ·simp[h]
  ·have h':¬(ek k).kls=(ek p.1).kls:=fun e=>h (hi _ _ e).symm
   have ih:=ZmH hi ev k r (i+1);simp only[Zbb]at ih;simp only[if_neg h,if_neg h',ih];cases getM k r with
   |none=>rfl
   |some v=>simp;omega
theorem Zi1{k:κ}:∀{es:List (κ×β)} {v:β},getM k es=some v→es[ixM k es]? =some (k,v)
 |[],_,h=>by cases h
 |p::r,v,h=>by
  simp only[getM]at h;simp only[ixM];split at h
  ·rename_i e;cases h;rw[if_pos e];simp[←e]
  ·rename_i e;rw[if_neg e];simpa using Zi1 h
theorem Zhh{k:κ}{v:β}(w:β):∀{es:List (κ×β)},getM k es=some v→ZfM k w es=es.set (ixM k es) (k,w)
 |[],h=>by cases h
 |p::r,h=>by
  simp only[getM]at h;simp only[ZfM,ixM];split at h
  ·rename_i e;rw[if_pos e,if_pos e];rfl
  ·rename_i e;rw[if_neg e,if_neg e,Zhh w h];rfl
theorem Zhp{k:κ}(w:β):∀{es:List (κ×β)},getM k es=none→ZfM k w es=es++[(k,w)]
 |[],_=>rfl
 |p::r,h=>by
  simp only[getM]at h;simp only[ZfM];split at h
  ·cases h
  ·rename_i e;rw[if_neg e,Zhp w h];rfl
theorem ZiI{ek:κ→AV}(hi:Zob ek)(ev:β→AV)(k:κ)(es:List (κ×β)):Xz (ek k) (Zbb ek ev es)=if(getM k es).isSome then some (ixM k es)else none:=by
 unfold Xz;rw[ZmH hi];simp
theorem ZqU{ek:κ→AV}(hi:Zob ek)(ev:β→AV)(re:Zv)(k:κ)(es:List (κ×β)):lookA re (ek k) (Zbb ek ev es) false=match getM k es with|some v=>ev v|none=>nilA (XI re):=by
 unfold lookA;rw[ZiI hi];cases h:getM k es with
 |none=>rfl
 |some v=>
  have h1:=Zi1 h;simp[Zbb,h1]
theorem Zlf{ek:κ→AV}(hi:Zob ek)(ev:β→AV)(k:κ)(v:β)(es:List (κ×β)):ZaH (ek k) (ev v) (Zbb ek ev es)=Zbb ek ev (ZfM k v es):=by
 unfold ZaH;rw[ZiI hi];cases h:getM k es with
 |none=>simp[Zhp v h,Zbb]
 |some w=>simp[Zhh v h,Zbb,List.map_set]
end
theorem kinj_str:Zob AV.str:=fun a b h=>by simp[AV.kls,AV.cells,klAll,AV.kl]at h;exact h
theorem kinj_int:Zob (AV.int .i64):=fun a b h=>by simp[AV.kls,AV.cells,klAll,AV.kl]at h;exact h
theorem ZfY{κ β:Type}{n:Nat}{ek:κ→AV}{ev:β→AV}{es:List (κ×β)}(h1:∀k,Below n (ek k))(h2:∀p∈es,Below n (ev p.2)):∀p∈Zbb ek ev es,Below n p.1∧Below n p.2:=fun p hp=>by
 obtain⟨q,hq,rfl⟩:=Qb.1 hp;exact⟨h1 _,h2 q hq⟩
theorem ZjU{n:Nat}{es:List (AV×AV)}(h:∀p∈es,Below n p.1∧Below n p.2):Ze.Below n (.map es):=by
 refine⟨fun a ha=>?_,by simp[Ze.at_]⟩;simp only[Ze.avs,Qj,Qb]at ha;rcases ha with⟨p,hp,rfl⟩|⟨p,hp,rfl⟩
 ·exact(h p hp).1
 ·exact(h p hp).2
end Go.Abs

namespace Go.Proofs.YtmdeagmbfhbbnaaGreatDoorR
open Go.Abs
set_option maxRecDepth 100000
def subs:Tm→List Tm
 | .mk k n s l=>.mk k n s l::subss l
where subss:List Tm→List Tm
 |[]=>[]
 |t::r=>subs t++subss r
theorem subss_eq:∀l:List Tm,subs.subss l=l.flatMap subs
 |[]=>rfl
 |t::r=>by rw[subs.subss,subss_eq r];rfl
theorem Zms(t:Tm):subs t=t::t.args.flatMap subs:=by cases t;rw[subs,subss_eq];rfl
theorem ZeJ(H:Za)(x:Nat)(S S':Nat→Option Ze):(H.YN x S).YN x S'=H.YN x S':=by
 funext l k;simp only[Za.YN];split<;>rfl
theorem ZoB(H:Za)(x k:Nat)(S:Nat→Option Ze):H.YN x S x k=S k:=by simp[Za.YN]
section
variable {x:Nat}
theorem ZoT(H:Za){l:Nat}(h:l≠x)(k:Nat)(S:Nat→Option Ze):H.YN x S l k=H l k:=by simp[Za.YN,h]
theorem ZlS{H:Za}{S:Nat→Option Ze}(h:∀k,H x k=S k):H.YN x S=H:=by
 funext l k;simp only[Za.YN];split
 ·rename_i e;subst e;exact(h k).symm
 ·rfl
def Ztz(P:Program)(x l:Nat)(L:List Tm)(S:Nat→Nat→Option Ze)(H0:Za):Prop:=
 ∀m H i t,x<m→L[i]? =some t→(∀l' k,l'<x→H l' k=H0 l' k)→(∀k,H x k=S i k)→VD P m l [t.enc] H fun r H1=>r= .bool true∧H1=H.YN x (S (i+1))
def Zai(l:List Tm)(j:Nat):Nat:=((l.take j).flatMap subs).length
def Zui(t:Tm)(x l n i:Nat)(S:Nat→Nat→Option Ze)(H:Za)(j:Nat):Zb:=
 ⟨[(14,.int .i64 j),(13,.int .i64 t.args.length),(12,.sl 4 (t.args.map Tm.enc) .any),(1,.fn (.yield l) []),(2,.ptr n 2 0)],[(2,.box t.cs)],H.YN x (S (i+1+Zai t.args j))⟩
theorem Zt5{x l:Nat}{L:List Tm}{S:Nat→Nat→Option Ze}{H0:Za}(hY:Ztz Tryz.prog x l L S H0)(hS:∀j k b,S j k=some b→b.Below (x+1))(t:Tm)(ht:t.Good)(i:Nat)(hi:∀k (h:k<(subs t).length),L[i+k]? =some (subs t)[k])
  (n:Nat) (H:Za) (hx:x<n) (h1:∀l' k,l'<x→H l' k=H0 l' k) (h2:∀k,H x k=S i k):
  Zi Tryz.prog n 164 [t.enc,.fn (.yield l) []] H fun r H1=>r= .bool true∧H1=H.YN x (S (i+(subs t).length)):=by
 have hlen:=ht.len;have hne:x≠n:=by omega
 have hsub:subs t=t::t.args.flatMap subs:=Zms t;refine aF Tryz.func164 fun B=>?_
 have hf1:∀(L:List (Nat×Ze)) (G:Za) (l' k:Nat),(∀l' k,l'<x→G l' k=H0 l' k)→l'<x→full n L G l' k=H0 l' k:=fun L G l' k hG h=>by
  simp only[full];rw[if_neg om];exact hG l' k h
 have hf2:∀(L:List (Nat×Ze)) (G:Za) (j:Nat),(∀k,G x k=S j k)→ ∀k,full n L G x k=S j k:=fun L G j hG k=>by
  simp only[full];rw[if_neg hne];exact hG k
 refine nR ?_;refine nR ?_;refine Zrp sS (hY _ _ i t (show x<n+1 by omega) (by have:=hi 0 (by rw[hsub];simp);simpa[hsub]using this) (fun l' k h=>hf1 _ _ l' k h1 h) (hf2 _ _ i h2)) sS ?_;rintro _ _ ⟨rfl,rfl⟩;refine⟨[(2,.box t.cs)],H.YN x (S (i+1)),by rw[VA hne];rfl,Jl hx (hS _),?_⟩;refine aS ?_;refine nF ?_;refine nR ?_;refine kK ?_;refine Zr (Zui t x l n i S H) t.args.length rfl ?_ ?_
 ·exact KK
 intro j hj;refine Ya rfl ?_;rcases Qg j t.args.length with h|h
 ·refine nq h ?_;refine nT ?_;refine nr ?_;simp only[go_sem,simprocAttr,Tm.Zp _ _ h,h];refine nR ?_;have hu:=ht.arg (Qa h);have hcnt:Zai t.args (j+1)=Zai t.args j+(subs t.args[j]).length:=by
   unfold Zai;rw[Qn h,Ur,Qh];simp
  refine YW (caps:=[]) (avs:=[t.args[j].enc,.fn (.yield l) []]) rfl (Zf Tryz.func164 rfl rfl) (by
   rw[Qu];exact Zt5 hY hS t.args[j] hu (i+1+Zai t.args j) (fun k hk=>by
    have hk':1+Zai t.args j+k<(subs t).length:=by
     rw[hsub];have h3:Zai t.args (j+1)≤(t.args.flatMap subs).length:=by
      unfold Zai
      conv=>rhs;rw[←QX (j+1) t.args,Ur,Qh]
      omega
     simp only[Qo];omega
    have h4:=hi _ hk';rw[show i+1+Zai t.args j+k=i+(1+Zai t.args j+k) by omega,h4];congr 1
    have h5:t.args.flatMap subs=(t.args.take j).flatMap subs++(subs t.args[j]++(t.args.drop (j+1)).flatMap subs):=by
     rw[←QS (f:=subs),←Qw h,←Ur,QX]
    have h6:(subs t)[1+Zai t.args j+k]? =some (subs t.args[j])[k]:=by
     rw[hsub,show 1+Zai t.args j+k=(Zai t.args j+k)+1 by omega,UJ,h5,MV (by unfold Zai;omega)];rw[show Zai t.args j+k - ((t.args.take j).flatMap subs).length=k by unfold Zai;omega,UL hk,Qd hk]
    rw[Qd hk']at h6;exact UO h6) (n+1) _ (show x<n+1 by omega) (fun l' k h=>hf1 _ _ l' k (fun l' k h=>(ZoT H om k _).trans (h1 l' k h)) h) (hf2 _ _ _ (fun k=>ZoB _ _ _ _))) sS ?_
  rintro _ _ ⟨rfl,rfl⟩;refine⟨[(2,.box t.cs),(6,.box t.args[j].cs)],H.YN x (S (i+1+Zai t.args (j+1))),?_,?_,?_⟩
  ·rw[←VA hne,ZeJ,hcnt,←MQ];rfl
  ·have:=Jl (H:=H.YN x (S (i+1+Zai t.args j))) hx (hS (i+1+Zai t.args (j+1)))
   rwa [ZeJ]at this
  refine aS ?_;refine nF ?_;refine nR ?_;refine nN ?_;refine Zh ?_ ?_ ?_ ?_<;>repeat' first|apply q0|exact xx|apply aI
  ·refine aS ?_;rw[iw];exact .refl _
 ·refine nq (QE.2 h) ?_;refine nF ?_;refine nX ?_;refine nR ?_;refine nV ?_;have hj':j=t.args.length:=by omega
  subst hj';have hc:i+1+Zai t.args t.args.length=i+(subs t).length:=by
   rw[hsub];unfold Zai;rw[QM];simp only[Qo];omega
  rw[hc];refine⟨by simp[XW],[.bool true],⟨?_,trivial⟩,by simp[ZcX],rfl,rfl⟩;exact xS
termination_by SizeOf.sizeOf t
decreasing_by exact Tm.Xm (Qa h)
theorem Zu0{l:Nat}{L:List Tm}{S:Nat→Nat→Option Ze}{H0:Za}(hY:Ztz Tryz.prog x l L S H0)(hS:∀j k b,S j k=some b→b.Below (x+1))(t:Tm)(ht:t.Good)(hL:L=subs t)
  (n:Nat) (H:Za) (hx:x<n) (h1:∀l' k,l'<x→H l' k=H0 l' k) (h2:∀k,H x k=S 0 k):
  Zi Tryz.prog n 163 [.fn (.yield l) [],.iptr t.cs] H fun r H1=>H1=H.YN x (S L.length):=by
 subst hL;have hne:x≠n:=by omega
 refine aF Tryz.func163 fun B=>?_
 refine nR ?_;refine YW (caps:=[]) (avs:=[t.enc,.fn (.yield l) []]) rfl (Zf Tryz.func164 rfl rfl) (by
  rw[Qu];exact Zt5 hY hS t ht 0 (fun k hk=>by rw[QF,Qd hk]) (n+1) _ (show x<n+1 by omega) (fun l' k h=>by simp only[full];rw[if_neg om];exact h1 l' k h) (fun k=>by simp only[full];rw[if_neg hne];exact h2 k)) sS ?_
 rintro _ _ ⟨rfl,rfl⟩;refine⟨[],H.YN x (S (0+(subs t).length)),by rw[VA hne],Jl hx (hS _),?_⟩;refine aS ?_;refine nN ?_;exact⟨by simp[XW],[],trivial,sm,rfl⟩
end
end Go.Proofs.YtmdeagmbfhbbnaaGreatDoorR

namespace Go.Abs
open Go.Proofs
def ltN(s t:List UInt8):Prop:=Lib.compareBytes s t<0
theorem ZmW{s t:List UInt8}(h:¬ltN s t)(h':¬ltN t s):s=t:=by
 have:=serN.anti (x:=s) (y:=t) trivial trivial;unfold ltN at*;exact cmpBytes_zero om
theorem lt_cmp:∀x y:List UInt8,x<y↔ltN x y
 |[],[]=>by simp[ltN,Lib.compareBytes]
 |[],_::_=>by simp[ltN,Lib.compareBytes]
 |_::_,[]=>by simp[ltN,Lib.compareBytes]
 |a::x,b::y=>by
  rw[List.cons_lt_cons_iff,lt_cmp x y];unfold ltN;simp only[Lib.compareBytes];by_cases h1:a<b
  ·simp[h1]
  ·by_cases h2:b<a
   ·have:a≠b:=fun e=>by subst e;exact h1 h2
    simp[h1,h2,this]
   ·have:a=b:=UInt8.le_antisymm (UInt8.not_lt.1 h2) (UInt8.not_lt.1 h1);simp[this]
theorem ZiM{ys l:List (List UInt8)}(hp:ys.Perm l)(ha':∀i i' (h:i<ys.length) (h':i'<ys.length),i<i'→ ¬ltN ys[i'] ys[i]):Lib.compact ys=XM Lib.compareBytes l:=by
 have hb:∀i (h:i<ys.length),ys.toArray[i]! =ys[i]:=fun i h=>by rw[getElem!_pos ys.toArray i (by simpa using h)];simp
 have key:∀m,m≤ys.length→(∀x,x∈Lib.compactUpTo ys.toArray m↔ ∃j,∃h:j<ys.length,j<m∧ys[j]=x)∧(Lib.compactUpTo ys.toArray m).Pairwise ltN:=by
  intro m;induction m with
  |zero=>intro _;simp[Lib.compactUpTo]
  |succ m ih=>
   intro hm;obtain⟨i1,i2⟩:=ih om;have hml:m<ys.length:=by omega
   rw[Lib.compactUpTo_succ];by_cases hk:Lib.keeps ys.toArray m=true
   ·rw[if_pos hk,hb m hml];refine⟨fun x=>?_,List.pairwise_append.2 ⟨i2,sm,fun x hx y hy=>?_⟩⟩
    ·simp only[Qj,i1,Ql];constructor
     ·rintro(⟨j,h,hj,rfl⟩|rfl)
      ·exact⟨j,h,om,rfl⟩
      ·exact⟨m,hml,om,rfl⟩
     ·rintro⟨j,h,hj,rfl⟩;by_cases e:j=m
      ·subst e;exact .inr rfl
      ·exact .inl ⟨j,h,om,rfl⟩
    ·simp only[Ql]at hy;subst hy;obtain⟨j,h,hj,rfl⟩:=(i1 x).1 hx;have h1:=ha' j m h hml hj;by_cases e:ltN ys[j] ys[m]
     ·exact e
     ·have e2:=ZmW e h1
      exfalso
      have hne:ys[m]≠ys[m - 1]:=by
       simp only[Lib.keeps,Gn,beq_iff_eq,bne_iff_ne,decide_eq_true_eq]at hk;rcases hk with hk|hk
       ·omega
       ·rw[hb m hml,hb (m - 1) om]at hk;exact hk
      by_cases e3:j=m - 1
      ·subst e3;exact hne e2.symm
      ·have a1:=ha' j (m - 1) h om om;have a2:=ha' (m - 1) m om hml om;by_cases a3:ltN ys[m - 1] ys[m]
       ·rw[←e2]at a3;exact a1 a3
       ·exact hne (ZmW a2 a3)
   ·rw[if_neg hk,Qu];refine⟨fun x=>?_,i2⟩;rw[i1];constructor
    ·rintro⟨j,h,hj,rfl⟩;exact⟨j,h,om,rfl⟩
    ·rintro⟨j,h,hj,rfl⟩;by_cases e:j=m
     ·subst e;simp only[Lib.keeps,Gn,beq_iff_eq,bne_iff_ne,decide_eq_true_eq,not_or]at hk;have hj0:j≠0:=fun e=>by simp[e]at hk
      have h2:ys[j]=ys[j - 1]:=by
       have:=hk;rw[hb j h,hb (j - 1) om]at this;simpa using this.2
      exact⟨j - 1,om,om,h2.symm⟩
     ·exact⟨j,h,om,rfl⟩
 obtain⟨h1,h2⟩:=key ys.length (Qe _);refine serN.unique (fun _ _=>trivial) h2 (serN.set_asc fun _ _=>trivial) fun x=>?_
 rw[serN.set_mem (fun _ _=>trivial),Lib.compact,h1,←hp.mem_iff];constructor
 ·rintro⟨j,h,_,rfl⟩;exact Qa h
 ·intro hx;obtain⟨j,h,rfl⟩:=QJ hx;exact⟨j,h,h,rfl⟩
theorem Zim(xs:List (List UInt8)):Lib.compact (xs.mergeSort fun x y=>decide (x≤y))=XM Lib.compareBytes xs:=by
 have hle:∀x y:List UInt8,decide (x≤y)=true↔ ¬ltN y x:=fun x y=>by rw[decide_eq_true_eq,←lt_cmp,List.not_lt]
 refine ZiM (List.mergeSort_perm _ _) fun i i' h h' hi=>?_
 have hp:(xs.mergeSort fun x y=>decide (x≤y)).Pairwise fun x y=>decide (x≤y)=true:=by
  refine List.pairwise_mergeSort (fun a b c h1 h2=>?_) (fun a b=>?_) xs
  ·rw[decide_eq_true_eq]at*;exact List.le_trans h1 h2
  ·rw[Gn,decide_eq_true_eq,decide_eq_true_eq];exact List.le_total a b
 exact(hle _ _).1 (UU.1 hp i i' h h' hi)
open Go.Shelf Go.Sort
section
variable {P:Program}
theorem ZkC{E:Env}:∀{l:List (List UInt8)} {vs:List Value},VRs E ((l.map AV.str)) vs→vs=l.map encStr
 |[],vs,h=>h.of_nil
 |x::l,vs,h=>by
  obtain⟨v,r,rfl,h1,h2⟩:=VRs.YR h;cases h1;rw[ZkC h2];rfl
theorem Zji(E:Env):∀l:List (List UInt8),VRs E ((l.map AV.str)) (l.map encStr)
 |[]=>VRs.nil E
 |x::l=>VRs.cons (.str _) (Zji E l)
theorem Zd9{m:Nat}{H:Za}{E:Env}{w:World}(hr:Zt m H E w){l j gb cap e:Nat}{xs:List (List UInt8)}(hh:E.hist l j xs.length=some (.slice (some ⟨gb,0,none⟩) xs.length cap))(hH:H l j=some (.Zg e 1 ((xs.map AV.str)) xs.length))(hpos:0<xs.length):
  ∃cc,E.g l j=some gb∧w.heap[gb]? =some (.cells cc e (0,0))∧xs.length≤cap∧cap≤maxLen∧cc.size=cap∧(∀o,E.F gb o=none)∧cc.toList.take xs.length=xs.map encStr∧gb<w.heap.size:=by
 obtain⟨cc,q1,q2,q3,q4,q5,q6,q7,q8⟩:=hr.mrow hh hH hpos;rw[Qab]at q5 q7;exact⟨cc,q1,q2,q3,q4,q5,q6,ZkC q7,(QN.1 q2).1⟩
theorem str_holds{w:World}{gb e:Nat}{cc:Array Value}{xs:List (List UInt8)}(q2:w.heap[gb]? =some (.cells cc e (0,0)))(hl:xs.length≤cc.size)(hc:cc.toList.take xs.length=xs.map encStr):Holds encStr w gb 0 xs.toArray:=fun t ht=>by
 have ht':t<xs.length:=by simpa using ht
 have hcell:w.cell? ⟨gb,0+t,none⟩=cc[t]?:=by simp only[World.cell?,q2];simp
 refine⟨?_,by simp[World.frozen?,q2]⟩;rw[hcell];have h1:(cc.toList.take xs.length)[t]? =(xs.map encStr)[t]?:=by rw[hc]
 rw[QV ht',QZ,Qd ht',Us,MF]at h1;rw[h1,getElem!_pos xs.toArray t ht];simp
theorem ZhA{m:Nat}{H:Za}{E:Env}{w:World}(hr:Zt m H E w){l j gb cap e:Nat}{xs:List (List UInt8)}(hh:E.hist l j xs.length=some (.slice (some ⟨gb,0,none⟩) xs.length cap))(hH:H l j=some (.Zg e 1 ((xs.map AV.str)) xs.length))(hpos:0<xs.length)
  (d:Array (List UInt8)) (hd:d.size=xs.length) (q:Nat):
  Zt m (H.upd l j (.Zg e 1 ((d.toList.map AV.str)) xs.length)) E (putRow encStr (Go.Sort.ahead w q) gb 0 d)∧Ext m E w E (putRow encStr (Go.Sort.ahead w q) gb 0 d):=by
 obtain⟨cc,q1,q2,q3,q4,q5,q6,q7,q8⟩:=Zd9 hr hh hH hpos;have hc':(putRow encStr (Go.Sort.ahead w q) gb 0 d).heap[gb]? =some (.cells (putCells encStr 0 d cc) e (0,0)):=by
  simp only[putRow,mapBlock,MX,if_true,Go.Sort.ahead,q2,Us,onCells]
 have hsz:(putCells encStr 0 d cc).size=cc.size:=by simp[putCells]
 refine hr.turn (.inr q1) (.Zg e 1 ((d.toList.map AV.str)) xs.length) (fun _=>rfl) rfl rfl rfl (fun _=>Gu _ _) (by simp[putRow,mapBlock,Go.Sort.ahead])
  (fun b' hb'=>by simp only[putRow,mapBlock,MX,Go.Sort.ahead];rw[if_neg (fun e=>hb' e.symm)]) q6 ?_
 obtain⟨⟨_,v0,hv0,hj0,_⟩,hm0⟩:=hr.Zg l j e 1 ((xs.map AV.str)) xs.length (hr.norm.Xr hh) hH;rw[hh]at hv0;cases hv0;refine⟨⟨by simp[hd],_,hh,hj0,.inr ⟨gb,cap,_,rfl,q1,hc',q3,q4,by rw[hsz,q5,Qab],q6,?_⟩⟩,hm0⟩;have e1:(putCells encStr 0 d cc).toList.take (xs.length*1)=d.toList.map encStr:=by
  rw[Qab];apply MZ
  ·simp[putCells,hd];omega
  ·intro t h1 h2;have ht:t<d.size:=by simpa using h2
   rw[Gj];simp only[putCells,U9,QaH,QO];rw[if_pos ⟨Un _,om⟩,MI,getElem!_pos d t ht]
 rw[e1];exact Zji E _
theorem Zo0{ρ:Ren}(L:Lays.n190 P ρ)(n:Nat)(H:Za)(l j e sz0:Nat)(xs:List (List UInt8))(hH:H l j=some (.Zg e 1 (xs.map AV.str) xs.length))(hlen:xs.length≤1000000000):
  Zi P n (ρ.f 190) [.msl sz0 l j xs.length] H fun r H'=>r= .tup []∧H'=H.upd l j (.Zg e 1 ((xs.mergeSort fun x y=>decide (x≤y)).map AV.str) xs.length):=fun E w vs hr hv=>by
 obtain⟨v1,r1,rfl,h1,hv⟩:=hv.YR;rw[hv.of_nil];cases hxs:xs with
 |nil=>
  subst hxs;have hnone:∀a cap,Calls P (ρ.f 190) #[.slice a 0 cap] w fun e' w'=>∃r v H' E',e'= .returned v∧(r= .tup []∧H'=H.upd l j (.Zg e 1 ((([]:List (List UInt8)).mergeSort fun x y=>decide (x≤y)).map AV.str) 0))∧VR E' r v∧Zt n H' E' w'∧Ext n E w E' w':=fun a cap=>
   (Any.slices_Sort_string_none L a cap w).mono fun e' w' ⟨he,hw⟩=>by
    subst hw he;exact⟨.tup [],_,H,E,rfl,⟨rfl,by simpa using(Yd hH).symm⟩,.tup [] [] rfl (fun i h=>absurd h (Qm _)),hr,.refl _ _ _⟩
  generalize hz:AV.msl sz0 l j ([]:List (List UInt8)).length=av at h1;cases h1<;>cases hz
  ·exact hnone _ _
  ·exact hnone _ _
 |cons x0 xr=>
  rw[←hxs];have hpos:0<xs.length:=by rw[hxs];simp
  obtain⟨nx,hnx⟩:∃m,m=xs.length:=⟨_,rfl⟩
  rw[←hnx]at h1;generalize hz:AV.msl sz0 l j nx=av at h1;cases h1<;>cases hz
  ·omega
  rename_i gb cap hh;subst hnx;obtain⟨cc,q1,q2,q3,q4,q5,q6,q7,hgb⟩:=Zd9 hr hh hH hpos;have hH1:Holds encStr w gb 0 xs.toArray:=str_holds q2 om q7;refine Calls.mono (Any.slices_Sort_string L gb 0 cap xs w hH1 hgb om) ?_;rintro e' w' ⟨rfl,m,os,rfl⟩;have hds:(xs.mergeSort fun x y=>decide (x≤y)).toArray.size=xs.length:=by simp
  obtain⟨hh2,hx2⟩:=ZhA hr hh hH hpos _ hds m;obtain⟨hh3,hx3⟩:=hh2.below (w':=grow (putRow encStr (Go.Sort.ahead w m) gb 0 (xs.mergeSort fun x y=>decide (x≤y)).toArray) os) ⟨rfl,rfl,rfl,by simp[grow],fun b hb=>by show((putRow encStr (Go.Sort.ahead w m) gb 0 (xs.mergeSort fun x y=>decide (x≤y)).toArray).heap++os)[b]? =_;rw[MR hb]⟩ (fun _=>Qe _);exact⟨.tup [],_,_,E,rfl,⟨rfl,rfl⟩,.tup [] [] rfl (fun i h=>absurd h (Qm _)),hh3,hx2.trans hx3⟩
theorem Zky{ρ:Ren}(L:Lays.n194 P ρ)(n:Nat)(H:Za)(l j e:Nat)(xs:List (List UInt8))(hpos:0<xs.length)(hH:H l j=some (.Zg e 1 ((xs.map AV.str)) xs.length))(hlen:xs.length≤1000000000):
  Zi P n (ρ.f 194) [.msl 1 l j xs.length] H fun r H'=>r= .sub 1 l j xs.length 0 (Lib.compact xs).length∧H'=H.upd l j (.Zg e 1 (List.map AV.str (Lib.compact xs++List.replicate (xs.length - (Lib.compact xs).length) [])) xs.length):=fun E w vs hr hv=>by
 obtain⟨v1,r1,rfl,h1,hv⟩:=hv.YR;rw[hv.of_nil];obtain⟨nx,hnx⟩:∃m,m=xs.length:=⟨_,rfl⟩
 rw[←hnx]at h1;generalize hz:AV.msl 1 l j nx=av at h1;cases h1<;>cases hz
 ·omega
 rename_i gb cap hh;subst hnx;obtain⟨cc,q1,q2,q3,q4,q5,q6,q7,hgb⟩:=Zd9 hr hh hH hpos;have hH0:Holds encStr w gb 0 xs.toArray:=str_holds q2 om q7;refine Calls.mono (Any.slices_Compact_string L gb 0 cap xs w hH0 om q3) ?_;rintro e' w' ⟨rfl,q,rfl⟩;have hle:(Lib.compact xs).length≤xs.length:=Lib.compact_length_le xs;obtain⟨hh2,hx2⟩:=ZhA hr hh hH hpos (Lib.compact xs++List.replicate (xs.length - (Lib.compact xs).length) []).toArray (by simp;omega) q;refine⟨_,_,_,E,rfl,⟨rfl,rfl⟩,?_,hh2,hx2⟩;have:=VR.sub (E:=E) 1 l j xs.length 0 (Lib.compact xs).length gb cap hh om;simpa using this
theorem ZiU{ρ:Ren}(L:Lays.n194 P ρ)(n:Nat)(H:Za)(l j:Nat):Zi P n (ρ.f 194) [.msl 1 l j 0] H fun r H'=>r= .msl 1 l j 0∧H'=H:=fun E w vs hr hv=>by
 obtain⟨v1,r1,rfl,h1,hv⟩:=hv.YR;rw[hv.of_nil];have:∃a cap,v1= .slice a 0 cap:=by
  generalize hz:AV.msl 1 l j 0=av at h1;cases h1<;>cases hz
  ·exact⟨_,_,rfl⟩
  ·exact⟨_,_,rfl⟩
 obtain⟨a,cap,rfl⟩:=this;refine Calls.mono (Any.slices_Compact_string_empty L a cap w) ?_;rintro e w' ⟨rfl,rfl⟩;exact⟨_,_,_,E,rfl,⟨rfl,rfl⟩,h1,hr,.refl _ _ _⟩
end
section
variable {cs:List AV} {H:Za} {L:List (Nat×Ze)} {tm:List (Nat×AV)}
theorem JJ{n N:Nat}{j0 j i k0:Nat}(e k:Nat)(hb:lkb L j0=some (.box cs))(hi:cs[i]? =some (.sl k0 [] .full))(hj:lkb L j=none):
  AWk n N ⟨tm,L,H⟩ ⟨tm,setb (setb L j (.Zg e k [] 0)) j0 (.box (cs.set i (.msl k n j 0))),H⟩:=fun B E w a hs=>by
 have h:=hs.heap;obtain⟨b0,hm0,c,t,hc,hv⟩:=h.box n j0 cs (Qr n) (by simp only[full,if_true];exact hb);obtain⟨hil,hie⟩:=Q8.1 hi;have hvi:=hv.2 i hil (by rw[hv.1];exact hil);rw[hie]at hvi;have hval:∃ad,c.toList[i]'(by rw[hv.1];exact hil)= .slice ad 0 0∧ ∀x,ad=some x→x.spot=none:=by
  generalize c.toList[i]'(by rw[hv.1];exact hil)=x at hvi;cases hvi with
  |slnil _ _ a ho ha=>obtain rfl:=ha sm;exact⟨none,rfl,fun _ e=>by cases e⟩
  |sl _ _ _ b off cap c hk hc hv hcap hm ho=>
   have:cap=0:=ho;subst this;exact⟨_,rfl,fun _ e=>by cases e;rfl⟩
 obtain⟨ad,hval,hsp⟩:=hval;have hfree:full n L H n j=none:=by simp only[full,if_true];exact hj
 obtain⟨hh,hx⟩:=h.adopt (Qr n) hfree ad e k true;have hne:j0≠j:=fun e=>by rw[e,hj]at hb;cases hb
 have hm1:(E.Yw n j (.slice ad 0 0)).m n j0=some b0:=hm0;obtain⟨hh2,hx2⟩:=hh.turn (w':=w) (.inl hm1) (.box (cs.set i (.msl k n j 0))) (fun hg=>absurd (hh.m_g hm1) hg) rfl rfl rfl (fun _=>Qe _) rfl (fun _ _=>rfl) (fun o=>hh.mF _ _ _ o hm1)
  ⟨b0,hm1,c,t,hc,by rw[Mc];exact hv.1,fun i' h1 h2=>by
   rw[Gf];split
   ·rename_i e1;subst e1;rw[hval];exact .mnil _ _ _ _ (by simp[Env.Yw]) hsp
   ·exact(hv.2 i' (by simpa using h1) h2).mono h.norm hx.le⟩
 have hxx:=hx.trans hx2;refine⟨_,⟨hs.size,hs.defs.ext hxx,fun t'=>(hs.tmps t').mono h.norm hxx.le,?_,hs.out⟩,hxx.mono (Uj n)⟩;show Zt (n+1) (full n (setb (setb L j _) j0 _) H) _ _;rw[Zm,Zm];exact hh2
theorem ZaR{cx:Cx}{c:Code}{k:List Itm}{Q:Exit→Zb→Prop}{k0:Nat}(j0 j i e sz:Nat)(hb:lkb L j0=some (.box cs))(hi:cs[i]? =some (.sl k0 [] .full))(hj:lkb L j=none)
  (h:AKc cx (.code c::k) Q ⟨tm,setb (setb L j (.Zg e sz [] 0)) j0 (.box (cs.set i (.msl sz cx.n j 0))),H⟩):AKc cx (.code c::k) Q ⟨tm,L,H⟩:=
 ZK (JJ e sz hb hi hj) h
theorem YX{n N:Nat}{tm':List (Nat×AV)}{j0 j i e sz k:Nat}{av av':AV}{cs0:List AV}(T:Nat)(hT:T<N)(xs:List AV)(hne:j0≠j)(hj0:lkb L j0=some (.box cs0))(hi:cs0[i]? =some av)(hav:(∃sz0,av= .msl sz0 n j k∧av'= .sl sz xs .any)∨(∃o m,av= .sub sz n j k o m∧av'= .sl sz ((xs.drop o).take m) .any))(hb:lkb L j=some (.Zg e sz cs k))
  (hfl:flat xs=cs) (hxl:xs.length=k) (hxk:∀x∈xs,x.cells.length=sz) (hcs:∀c∈cs,Inside n (fun k=>k≠j) c) (h1:∀p∈tm',p.1≠T∧Wk (lkv tm p.1) p.2∧Inside n (fun k=>k≠j) (lkv tm p.1))
  (hL:∀p∈delb (setb L j0 (.box (cs0.set i .dead))) j,p.2.Inside n (fun k=>k≠j)):
  AWk n N ⟨tm,L,H⟩ ⟨tm',setb (delb (setb L j0 (.box (cs0.set i .dead))) j) j0 (.box (cs0.set i av')),H⟩:=fun B E w a hs=>by
 have h:=hs.heap;obtain⟨b0,hm0,c,t,hc,hv⟩:=h.box n j0 cs0 (Qr n) (by simp only[full,if_true];exact hj0);obtain⟨hil,hie⟩:=Q8.1 hi;have hcl:i<c.toList.length:=by rw[hv.1];exact hil
 have hvi:=hv.2 i hil hcl;rw[hie]at hvi
 obtain⟨hh2,hx2⟩:=h.turn (w':=w) (.inl hm0) (.box (cs0.set i .dead)) (fun hg=>absurd (h.m_g hm0) hg) rfl rfl rfl (fun _=>Qe _) rfl (fun _ _=>rfl) (fun o=>h.mF _ _ _ o hm0)
  ⟨b0,hm0,c,t,hc,by rw[Mc];exact hv.1,fun i' g1 g2=>by
   rw[Gf];split
   ·exact .dead _
   ·exact hv.2 i' (by simpa using g1) g2⟩
 rw[←Zm]at hh2;have hb2:lkb (setb L j0 (.box (cs0.set i .dead))) j=some (.Zg e sz cs k):=by rw[lkb_setb,if_neg (fun e=>hne e.symm)];exact hb
 have hs1:Yn B n N ⟨(T,av)::tm,setb L j0 (.box (cs0.set i .dead)),H⟩ E {a with tmps:=a.tmps.setIfInBounds T c.toList[i]} w:=by
  refine⟨by simpa using hs.size,hs.defs,fun t'=>?_,hh2,hs.out⟩;show VR E (lkv ((T,av)::tm) t') _;simp only[lkv,Ua];by_cases ht:T=t'
  ·subst ht;rw[if_pos rfl];have:T<a.tmps.size:=by rw[hs.size];exact hT
   simpa[this]using hvi
  ·rw[if_neg ht,UN ht];have:=hs.tmps t'
   rwa [Ua]at this
 obtain⟨o,hs2,hx3⟩:=ZfC (tm':=(T,av')::tm') xs hb2 hfl hxl hxk hcs (fun p hp=>by
  rcases Qk.1 hp with rfl|hp
  ·have e:lkv ((T,av)::tm) T=av:=by simp[lkv]
   rw[e];exact .inr hav
  ·obtain⟨g1,g2,g3⟩:=h1 p hp;have e:lkv ((T,av)::tm) p.1=lkv tm p.1:=by simp only[lkv,if_neg (Ne.symm g1)]
   rw[e];exact .inl ⟨g2,g3⟩) hL B E w _ hs1
 have hval:VR (E.freeze n j o) av' c.toList[i]:=by
  have:=hs2.tmps T;simp only[lkv,if_true,Ua]at this;have hTs:T<a.tmps.size:=by rw[hs.size];exact hT
  simpa[hTs]using this
 have hm0':(E.freeze n j o).m n j0=some b0:=by simp only[Env.freeze];rw[if_neg (fun e=>hne e.2)];exact hm0
 have hcur:lkb (delb (setb L j0 (.box (cs0.set i .dead))) j) j0=some (.box (cs0.set i .dead)):=by
  rw[lkb_delb,if_neg hne,lkb_setb,if_pos rfl]
 obtain⟨b1,hm1,c1,t1,hc1,hv1⟩:=hs2.heap.box n j0 _ (Qr n) (by simp only[full,if_true];exact hcur);rw[hm0']at hm1;cases hm1;rw[hc]at hc1;cases hc1;obtain⟨hh4,hx4⟩:=hs2.heap.turn (w':=w) (.inl hm0') (.box (cs0.set i av')) (fun hg=>absurd (hs2.heap.m_g hm0') hg) rfl rfl rfl (fun _=>Qe _) rfl (fun _ _=>rfl) (fun o=>hs2.heap.mF _ _ _ o hm0')
  ⟨b0,hm0',c,t,hc,by rw[Mc];exact hv.1,fun i' g1 g2=>by
   rw[Gf];split
   ·rename_i e;subst e;exact hval
   ·rename_i e;have:=hv1.2 i' (by simpa using g1) g2
    rwa [List.getElem_set_ne e]at this⟩
 rw[←Zm]at hh4;refine⟨E.freeze n j o,⟨hs.size,hs.defs.ext hx3,fun t'=>?_,hh4,hs.out⟩,hx3⟩;rcases lkv_mem (tm:=tm') (t:=t')with hd|hmm
 ·show VR _ (lkv tm' t') _;rw[hd];exact .dead _
 ·obtain⟨g1,_,_⟩:=h1 _ hmm;have:=hs2.tmps t';simp only[lkv,if_neg (Ne.symm g1),Ua]at this;rw[UN (Ne.symm g1)]at this;show VR _ (lkv tm' t') _
  rwa [Ua]
theorem Zi.ZiY{P:Program}{n:Nat}{f:FuncId}{args:List AV}{H:Za}{Q:AV→Za→Prop}{k:Nat}{o:Own}(h1:Zi P n f (.Xg::args) H Q)(h2:Zi P n f (.sln k::args) H Q):Zi P n f (.sl k [] o::args) H Q:=fun E w vs hr hv=>by
 obtain⟨v,r,rfl,hv1,hv2⟩:=hv.YR;rcases hv1.ZiY with h|h
 ·exact h1 E w _ hr (VRs.cons h hv2)
 ·exact h2 E w _ hr (VRs.cons h hv2)
theorem Zi.args{P:Program}{n:Nat}{f:FuncId}{args args':List AV}{H:Za}{Q:AV→Za→Prop}(h:Zi P n f args H Q)(hw:Wks args' args):Zi P n f args' H Q:=fun E w vs hr hv=>h E w vs hr (forall₂_vr hw hv)
theorem Pure.args{P:Program}{f:FuncId}{args args':List AV}{r:AV}(h:Pure P f args r)(hw:Wks args' args):Pure P f args' r:=fun n H=>(h n H).args hw
theorem Wk.sln(k:Nat):Wk (.sln k) (.sl k [] .any):=.sem fun _ _ h=>h.ZrN
theorem Wk.Xg(k:Nat):Wk .Xg (.sl k [] .full):=.sem fun _ _ h=>h.ZiW
end
end Go.Abs

namespace Go.Proofs
open Go.Shelf
def Tryz.lays190_ren:Go.Shelf.Ren:=⟨fun|190=>105|125=>97|258=>165|128=>150|129=>151|302=>204|303=>205|304=>206|305=>207|306=>208|307=>209|308=>210|309=>211|310=>212|333=>241|329=>193|330=>194|334=>242|335=>243|336=>244|344=>269|n=>n,fun|31=>35|9=>9|3=>3|46=>144|0=>0|51=>194|53=>196|4=>4|183=>188|182=>187|131=>165|5=>5|218=>223|222=>227|228=>253|229=>254|n=>n,fun|n=>n⟩
theorem Tryz.lays190:Go.Proofs.Lays.n190 Tryz.prog Tryz.lays190_ren:=by
 repeat' first|kernel_rfl|exact bO|(intro w;kernel_rfl)|constructor
def Tryz.lays194_ren:Go.Shelf.Ren:=⟨fun|194=>106|n=>n,fun|31=>35|9=>9|3=>3|4=>4|0=>0|n=>n,fun|n=>n⟩
theorem Tryz.lays194:Go.Proofs.Lays.n194 Tryz.prog Tryz.lays194_ren:=by
 repeat' first|kernel_rfl|exact bO|(intro w;kernel_rfl)|constructor
end Go.Proofs

namespace Go.Proofs.YtmdeagmbfhbbnaaGreatDoorR
open Go.Abs
set_option maxRecDepth 100000
def nm1(t:Tm):List Str:=if t.kind=3 then [t.name]else []
theorem nmT_subs:(∀t:Tm,nmT t=(subs t).flatMap nm1)∧ ∀l:List Tm,nmT.nms l=(subs.subss l).flatMap nm1:=by
 have h:∀t:Tm,nmT t=(subs t).flatMap nm1:=fun t=>Tm.rec (motive_1:=fun t=>nmT t=(subs t).flatMap nm1) (motive_2:=fun l=>nmT.nms l=(subs.subss l).flatMap nm1)
  (fun k n s l ih=>by rw[nmT,subs,QS,ih];rfl) rfl (fun t r h1 h2=>by rw[nmT.nms,subs.subss,Ur,h1,h2]) t
 refine⟨h,fun l=>?_⟩;induction l with
 |nil=>rfl
 |cons t r ih=>rw[nmT.nms,subs.subss,Ur,h,ih]
theorem subs_good:∀(t:Tm),t.Good→ ∀u∈subs t,u.Good
 | .mk k n s l,h,u,hu=>by
  rw[Zms]at hu;rcases Qk.1 hu with rfl|hu
  ·exact h
  ·obtain⟨v,hv,hu⟩:=Qz.1 hu;have hv':v∈l:=hv;exact subs_good v (h.arg hv) u hu
termination_by t=>SizeOf.sizeOf t
decreasing_by
 have:=QU hv';simp only[Tm.mk.sizeOf_spec];omega
abbrev YP(l:List Str):List AV:=l.map AV.str
theorem flat_aStrs:∀l:List Str,flat (YP l)=YP l
 |[]=>rfl
 |x::l=>by simp only[YP,Qs,Yt];rw[show flat (l.map AV.str)=l.map AV.str from flat_aStrs l];rfl
section
variable {p:Nat→Prop} {n:Nat}
theorem Ztu(l:List Str):∀c∈YP l,Inside n p c:=fun c hc=>by obtain⟨u,_,rfl⟩:=Qb.1 hc;exact .str _
theorem Zue(e sz k:Nat)(l:List Str):Ze.Below n (.Zg e sz (YP l) k):=⟨fun a ha=>by obtain⟨u,_,rfl⟩:=Qb.1 ha;exact .str _,by simp[Ze.at_]⟩
theorem Xe{n:Nat}{p:Nat→Prop}:∀l:List Str,Yi (fun c=>Inside n p c) (YP l)
 |[]=>trivial
 |_::l=>⟨.str _,Xe l⟩
theorem XG{k:Nat}(l:List Str):Below n (.sl k (YP l) .any):=ZC fun x hx=>by obtain⟨u,_,rfl⟩:=Qb.1 hx;exact .str _
theorem ZgI{sz l k i:Nat}(h:l<n∨(l=n∧p k)):Inside n p (.msl sz l k i):=.msl _ _ _ _ h
theorem Ja{f:Nat}{caps:List AV}(h:Yi (fun c=>Below n c) caps):Below n (.fn (.func f) caps):=.fn _ _ fun i hi=>h.mem _ (Qa hi)
def Zdx(t:Tm)(i:Nat):List Str:=((subs t).take i).flatMap nm1
def L56(t:Tm)(n:Nat)(ns:List Str):List (Nat×Ze):=[(1,.box t.cs),(2,.box [.msl 1 n 200 ns.length]),(200,.Zg 9 1 (YP ns) ns.length)]
theorem j56(t:Tm)(ht:t.Good)(hl:(nmT t).length≤1000000):Pure Tryz.prog 56 [t.enc] (.sl 1 (YP (Z8 t)) .any):=by
 intro n H;refine aF Tryz.func56 fun B=>?_
 refine nR ?_;refine nR ?_;refine cP (ZtX t) ?_;refine kK ?_;refine ZaR 2 200 0 9 1 rfl rfl rfl ?_;refine aS ?_;simp only[go_sem,simprocAttr,UZ];obtain⟨tm,htm⟩:∃tm:List (Nat×AV),tm=[(5,.fn (.func 163) [.iptr t.cs]),(4,t.enc),(2,.ptr n 2 0),(1,.ptr n 1 0),(0,t.enc)]:=⟨_,rfl⟩
 have h5:lkv tm 5= .fn (.func 163) [.iptr t.cs]:=by rw[htm];rfl
 have h2:lkv tm 2= .ptr n 2 0:=by rw[htm];rfl
 have hbt:Yi (fun p=>Below (n+1) p.2) tm:=by
  rw[htm];exact⟨Ja ⟨Zl t.bcs,trivial⟩,t.blw _,.ptr _ _ _ (Qr n),.ptr _ _ _ (Qr n),t.blw _,trivial⟩
 refine Ya (tm:=[(5,.fn (.func 163) [.iptr t.cs]),(4,t.enc),(2,.ptr n 2 0),(1,.ptr n 1 0),(0,t.enc)]) (L:=L56 t n []) (H:=H) rfl ?_;rw[←htm];clear htm;refine ZeS (caps:=[.iptr t.cs]) 100 rfl (by simp only[go_sem,simprocAttr,h5]) (Zf Tryz.func163 rfl rfl) rfl fun y=>?_
 refine⟨_,Zu0 (x:=n) (l:=y) (L:=subs t) (S:=fun i=>lkb (setb (L56 t n (Zdx t i)) 100 (.lrec y Tryz.f56.ntmps 0 tm #[6] (ZQ Tryz.f56).snd.fst.snd.fst.fst (ZQ Tryz.f56).snd.fst.snd.fst.snd .ready none))) (H0:=H) ?_ ?_ t ht rfl (n+1) _ (Qr n) (fun l' k h=>by simp only[full];rw[if_neg om]) (fun k=>by simp only[full,if_true];rfl),?_⟩
 ·intro m H' i u hm hu hlow hlv;have hnm:¬n=m:=by omega
  have h2':=hlv 2;have h200:=hlv 200;have h100:=hlv 100;simp only[L56,setb,lkb]at h2' h200 h100;have hug:=subs_good t ht u (GK hu);refine Zha tt (x:=n) (y:=100) h100 hm rfl dc fun B'=>?_
  show AKc _ _ _ ⟨(6,u.enc)::tm,[],H'⟩;refine nR ?_;refine nN ?_;refine⟨rfl,h100,?_⟩;refine aS ?_;refine nR ?_;have hns:Zdx t (i+1)=Zdx t i++nm1 u:=by
   obtain⟨hi,hie⟩:=Q8.1 hu;unfold Zdx;rw[Qn hi,Ur,hie];simp
  have hnl:(Zdx t i).length≤1000000:=by
   have h3:(Zdx t i).length≤(nmT t).length:=by
    rw[nmT_subs.1 t];unfold Zdx
    conv=>rhs;rw[←QX i (subs t),Ur,Qh]
    omega
   omega
  cases hk:u.kind==3 with
  |false=>
   have hn1:nm1 u=[]:=by unfold nm1;rw[if_neg (by simpa using hk)]
   rw[hn1,Qu]at hns;refine VB rfl rfl (by simp only[go_sem,simprocAttr,hk]) ?_;refine kK ?_;refine nN ?_;refine⟨by simp[Za.upd],rfl,?_⟩;rw[hns,ZlS hlv];exact ZkJ h100
  |true=>
   have hn1:nm1 u=[u.name]:=by unfold nm1;rw[if_pos (by simpa using hk)]
   rw[hn1]at hns;refine VK rfl rfl (by simp only[go_sem,simprocAttr,hk]) ?_;refine nr ?_;simp only[go_sem,simprocAttr,hnm,h2,h2',h200,full,Za.upd,(show¬m=n by omega)];have hfl:YP (Zdx t i)++flat [AV.str u.name]=YP (Zdx t i++[u.name]):=by simp[YP,flat,AV.cells]
   have hl1:(Zdx t i).length+1=(Zdx t i++[u.name]).length:=by simp
   rw[hfl];refine⟨rfl,⟨Zn om,om⟩,.inr (Zue _ _ _ _),.inr (Ze.ZB ⟨.msl _ _ _ _ hm,trivial⟩),?_⟩;rw[hl1];refine kK ?_;refine nN ?_;refine⟨by simp[Za.upd],rfl,Zku (fun j=>?_) (fun l' j hne=>?_)⟩
   ·rw[hns];by_cases e1:j=100
    ·subst e1;simp[Za.upd,setb,lkb,L56]
    ·by_cases e2:j=2
     ·subst e2;simp[Za.upd,setb,lkb,L56]
     ·by_cases e3:j=200
      ·subst e3;simp[Za.upd,setb,lkb,L56]
      ·simp[Za.upd,e1,e2,e3,hlv j,setb,lkb,L56,Ne.symm e1,Ne.symm e2,Ne.symm e3]
   ·simp[Za.upd,hne]
 ·intro i j b' h;have hb:Yi (fun q:Nat×Ze=>q.2.Below (n+1)) (setb (L56 t n (Zdx t i)) 100 (.lrec y Tryz.f56.ntmps 0 tm #[6] (ZQ Tryz.f56).snd.fst.snd.fst.fst (ZQ Tryz.f56).snd.fst.snd.fst.snd .ready none)):=
   ⟨Ze.ZB t.bcs,Ze.ZB ⟨.msl _ _ _ _ (Qr n),trivial⟩,Zue _ _ _ _,Ze.ZaL hbt,trivial⟩
  exact hb.mem _ (lkb_mem h)
 ·rintro r H1 rfl;have hall:Zdx t (subs t).length=nmT t:=by unfold Zdx;rw[QM,←nmT_subs.1]
  rw[hall];generalize hN:nmT t=ns at hl;have hv:Lib.compact (ns.mergeSort fun x y=>decide (x≤y))=Z8 t:=by rw[Zim,Z8,hN]
  refine⟨setb (L56 t n ns) 100 (.lrec y Tryz.f56.ntmps 0 tm #[6] (ZQ Tryz.f56).snd.fst.snd.fst.fst (ZQ Tryz.f56).snd.fst.snd.fst.snd .ready none),H,.ready,none,?_,.refl _ _,rfl,sm,?_⟩
  ·funext l' j;simp only[Za.YN,full];by_cases e:l'=n
   ·rw[if_pos e,if_pos e]
   ·rw[if_neg e,if_neg e,if_neg e]
  simp only[go_sem,simprocAttr,L56,setb];refine nq h2 ?_;refine YW (caps:=[]) (avs:=[.msl 1 n 200 ns.length]) rfl (Zf Tryz.func105 rfl rfl) (Zo0 (P:=Tryz.prog) Tryz.lays190 (n+1) _ n 200 9 1 ns sS om) sS ?_;rintro r H1 ⟨rfl,rfl⟩;obtain⟨ys,hys⟩:∃ys,ys=ns.mergeSort fun x y=>decide (x≤y):=⟨_,rfl⟩
  have hyl:ys.length=ns.length:=by rw[hys];simp
  rw[←hys]at hv⊢;refine⟨[(1,.box t.cs),(2,.box [.msl 1 n 200 ns.length]),(200,.Zg 9 1 (YP ys) ns.length),(100,.lrec y Tryz.f56.ntmps 0 tm #[6] (ZQ Tryz.f56).snd.fst.snd.fst.fst (ZQ Tryz.f56).snd.fst.snd.fst.snd .exhausted none)],H,(Zm n _ H 200 _).symm,.refl _ _,?_⟩;rw[←hyl];refine aS ?_;refine kK ?_;refine ZK (s':=⟨[(2,.ptr n 2 0)],[(2,.box [.msl 1 n 200 ys.length]),(200,.Zg 9 1 (YP ys) ys.length)],H⟩) ?_ ?_
  ·refine Zh ?_ ?_ ?_ ?_<;>repeat' first|apply q0|exact xx|apply aI
   all_goals first|exact Xe ys|(show Wk (lkv tm 2) _;rw[h2];exact .refl _)|(show Inside _ _ (lkv tm 2);rw[h2];exact .ptr _ _ _ (.inr ⟨rfl,rfl⟩))|(show Inside n _ (.msl 1 n 200 ys.length);exact ZgI (.inr ⟨rfl,rfl⟩))
  rcases UY ys.length with h0|hpos
  ·have hn:ys=[]:=Uc h0;subst hn;refine nR ?_;refine YW (caps:=[]) (avs:=[.msl 1 n 200 0]) rfl (Zf Tryz.func106 rfl rfl) (ZiU (P:=Tryz.prog) Tryz.lays194 (n+1) _ n 200) sS ?_;rintro r H1 ⟨rfl,rfl⟩;refine⟨[(2,.box [.msl 1 n 200 0]),(200,.Zg 9 1 [] 0)],H,rfl,.refl _ _,?_⟩;refine aS ?_;refine kK ?_;refine ZK (YX (tm':=[(2,.ptr n 2 0)]) (av':=.sl 1 (YP []) .any) (j0:=2) (i:=0) (j:=200) 14 (show 14<19 by decide) [] dc rfl rfl (.inl ⟨_,rfl,rfl⟩) rfl rfl rfl sm sm ?_ ?_) ?_
   ·simp[lkv,Wk.refl];exact .ptr _ _ _ sm
   ·simp[setb,delb];exact Ze.ZA ⟨.dead,trivial⟩
   simp only[go_sem,simprocAttr,setb,delb];refine nV ?_;rw[←hv];refine ZX (.inl rfl) _ n 2 0 [.sl 1 [] .any] sS (by simp only[go_sem,simprocAttr,full,UZ]) rfl (Qe _) sS ?_ (XG _) rfl;refine aS ?_;exact .refl _
  ·refine nR ?_;refine YW (caps:=[]) (avs:=[.msl 1 n 200 ys.length]) rfl (Zf Tryz.func106 rfl rfl) (Zky (P:=Tryz.prog) Tryz.lays194 (n+1) _ n 200 9 ys hpos sS om) sS ?_;rintro r H1 ⟨rfl,rfl⟩;rw[hv];have hle:(Z8 t).length≤ys.length:=by rw[←hv];exact Lib.compact_length_le ys
   obtain⟨zs,hzs⟩:∃zs,zs=Z8 t++List.replicate (ys.length - (Z8 t).length) ([]:List UInt8):=⟨_,rfl⟩
   rw[←hzs];have hzl:zs.length=ys.length:=by rw[hzs];simp;omega
   have htk:zs.take (Z8 t).length=Z8 t:=by rw[hzs];simp
   refine⟨[(2,.box [.msl 1 n 200 ys.length]),(200,.Zg 9 1 (YP zs) ys.length)],H,(Zm n _ H 200 _).symm,.refl _ _,?_⟩;refine aS ?_;refine kK ?_;refine ZK (YX (tm':=[(2,.ptr n 2 0)]) (av':=.sl 1 (YP (Z8 t)) .any) (j0:=2) (i:=0) (j:=200) 14 (show 14<19 by decide) (YP zs) dc rfl rfl (.inr ⟨0,_,rfl,by rw[GV,YP,YP,←List.map_take,htk]⟩) rfl (flat_aStrs zs) (by simp[hzl]) (fun x hx=>by obtain⟨u,_,rfl⟩:=Qb.1 hx;rfl) (Ztu zs) ?_ ?_) ?_
   ·simp[lkv,Wk.refl];exact .ptr _ _ _ sm
   ·simp[setb,delb];exact Ze.ZA ⟨.dead,trivial⟩
   simp only[go_sem,simprocAttr,setb,delb];refine nV ?_;refine ZX (.inl rfl) _ n 2 0 [.sl 1 (YP (Z8 t)) .any] sS (by simp only[go_sem,simprocAttr,full,UZ]) rfl (Qe _) sS ?_ (XG _) rfl;refine aS ?_;exact .refl _
end
end Go.Proofs.YtmdeagmbfhbbnaaGreatDoorR
