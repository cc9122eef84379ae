/- Plans: which literals are taken, and in which order. No program. -/
import Derived.Test.YtmdeagmbfhbbnaaGreatDoorRS06
import Derived.Lib.SlicesCompact
import Derived.Shelf.Sort.Plain
import Derived.Lib.RowBridge
import Derived.Shelf.Slices.CompactS
import Derived.Shelf.Slices.In.SortNone
import Derived.Test.YtmdeagmbfhbbnaaGreatDoorRS04
import Derived.Test.YtmdeagmbfhbbnaaGreatDoorRS05
import Derived.Shelf.Slices.Cells
set_option linter.all false
set_option maxRecDepth 100000
open Go.Proofs.Tryz
namespace Go.Proofs.YtmdeagmbfhbbnaaGreatDoorR
open Go.Abs
def okX(x:Lt):Prop:=(x.kind=2→x.L.all okV=true∧x.R.all okV=true)∧(x.kind=1→ ∀u∈x.at_.args,u.all okV=true)
def Vu(s:Stp)(x:Lt):Prop:=match s with
 | .test y=>y=x∧x.kind=2
 | .bind n t=>x.kind=2∧x.op=1∧((x.L.kind=3∧n=x.L.name∧t=x.R)∨(x.R.kind=3∧n=x.R.name∧t=x.L))
 | .atom a=>x.kind=1∧x.neg=false∧a=x.at_
def Zbk(A:List Am)(σ:Bnd)(x:Lt):Prop:=
 if x.kind=2 then∃v∈(YP x.L σ).1,∃w∈(YP x.R σ).1,XP x.op v w=true
 else if x.kind=1∧x.neg=false then∃a∈A,a.sg=x.at_.sg∧ZV.apps σ x.at_.args=a.args else True
section
variable {n:List UInt8} {x:Lt}
def Ya:n∈ZE x↔if x.kind=2 then n∈nmT x.L∨n∈nmT x.R else n∈nmT.nms x.at_.args:=by
 unfold ZE;split
 ·simp[Zcd]
 ·rw[nms_eq];simp only[Qw,Zcd]
variable {S:List (List UInt8)}
def Zbs{l:List (List UInt8)}:WX S l=true↔ ∀n∈l,n∈S:=by simp[WX]
def Wy{t:Tm}:WX S (Z8 t)=true↔ ∀n∈nmT t,n∈S:=by
 rw[Zbs];exact⟨fun h n hn=>h n ((Zcd t n).2 hn),fun h n hn=>h n ((Zcd t n).1 hn)⟩
def JV{t:Tm}(hk:t.kind=3)(hV:t.all okV=true):nmT t=[t.name]:=by
 cases t with
 |mk k n s l=>simp only[Tm.kind]at hk;subst hk;rw[Zc9 hV];simp[nmT,nmT.nms,Tm.name]
variable {s:Stp}
def ZhL(h:Vu s x)(ho:okX x):n∈varS s↔n∈ZE x:=by
 rw[Ya];cases s with
 |test y=>obtain⟨rfl,hk⟩:=h;rw[if_pos hk];simp[varS]
 |bind m t=>
  obtain⟨hk,_,h⟩:=h;rw[if_pos hk];rcases h with⟨h1,rfl,rfl⟩|⟨h1,rfl,rfl⟩
  ·rw[JV h1 (ho.1 hk).1];simp[varS]
  ·rw[JV h1 (ho.1 hk).2];simp only[varS,Qk,QD,or_false];exact or_comm
 |atom a=>obtain⟨hk,_,rfl⟩:=h;rw[if_neg om];rfl
def ZlA(ho:okX x)(h:YZ S x=some s):Vu s x∧Ready S s:=by
 unfold YZ at h;split at h
 ·rename_i hk;split at h
  ·rename_i hb;cases h;rw[Qh,Wy,Wy]at hb;exact⟨⟨rfl,hk⟩,fun n hn=>by rcases Qg.1 hn with hn|hn;all_goals first|exact hb.1 n hn|exact hb.2 n hn⟩
  ·rename_i hb;rw[Qh,Wy,Wy]at hb;split at h
   ·rename_i hc;obtain⟨c1,c2,c3⟩:=hc;rw[Wy]at c2;have hn:¬x.L.name∈S:=fun hn=>hb ⟨fun n h=>by rw[JV c3 (ho.1 hk).1]at h;simp at h;subst h;exact hn,c2⟩
    split at h
    ·rename_i he;exact absurd he (ZjL (ho.1 hk).1 c3)
    ·cases h;exact⟨⟨hk,c1,.inl ⟨c3,rfl,rfl⟩⟩,hn,c2⟩
   ·split at h
    ·rename_i hc;obtain⟨c1,c2,c3⟩:=hc;rw[Wy]at c2;have hn:¬x.R.name∈S:=fun hn=>hb ⟨c2,fun n h=>by rw[JV c3 (ho.1 hk).2]at h;simp at h;subst h;exact hn⟩
     split at h
     ·rename_i he;exact absurd he (ZjL (ho.1 hk).2 c3)
     ·cases h;exact⟨⟨hk,c1,.inr ⟨c3,rfl,rfl⟩⟩,hn,c2⟩
    ·cases h
 ·cases h
def ZnD(ho:okX x)(h:JE x=some s):Vu s x∧Ready S s:=by
 unfold JE at h;split at h
 ·rename_i hk;cases h;exact⟨⟨hk.1,hk.2,rfl⟩,ho.2 hk.1⟩
 ·cases h
def ZdT{f:Lt→Option Stp}:∀{l:List Lt} {s:Stp} {x:Lt} {r:List Lt},Zaq f l=some (s,x,r)→f x=some s∧l.Perm (x::r)
 |y::l,s,x,r,h=>by
  simp only[Zaq]at h;split at h
  ·rename_i e;cases h;exact⟨e,.refl _⟩
  ·simp only[Um]at h;obtain⟨⟨s',x',r'⟩,hp,he⟩:=h;simp only[Qa9]at he;obtain⟨rfl,rfl,rfl⟩:=he;obtain⟨h1,h2⟩:=ZdT hp;exact⟨h1,(h2.cons y).trans (.swap _ _ _)⟩
def ZbS{f:Lt→Option Stp}:∀{l:List Lt},Zaq f l=none→ ∀x∈l,f x=none
 |y::l,h,x,hx=>by
  simp only[Zaq]at h;split at h
  ·cases h
  ·rename_i e;rw[Option.map_eq_none_iff]at h;rcases Qk.1 hx with rfl|hx
   ·exact e
   ·exact ZbS h x hx
def ZhF{l:List Lt}{r:List Lt}(ho:∀x∈l,okX x)(h:WZ S l=some (s,x,r)):Vu s x∧Ready S s∧l.Perm (x::r):=by
 unfold WZ at h;cases e:Zaq (YZ S) l with
 |some p=>
  rw[e]at h;cases h;obtain⟨h1,h2⟩:=ZdT e;have:=ZlA (ho x (h2.mem_iff.2 sm)) h1;exact⟨this.1,this.2,h2⟩
 |none=>
  rw[e]at h;obtain⟨h1,h2⟩:=ZdT h;have:=ZnD (S:=S) (ho x (h2.mem_iff.2 sm)) h1;exact⟨this.1,this.2,h2⟩
def rdy_congr:∀(p:List Stp) {S T:List (List UInt8)},(∀n,n∈S↔n∈T)→Rdy S p→Rdy T p
 |[],_,_,_,_=>trivial
 |s::p,S,T,h,hr=>⟨JR h hr.1,rdy_congr p (fun n=>by simp[h n]) hr.2⟩
theorem plan_spec:∀(f:Nat) (S:List (List UInt8)) (l:List Lt),(∀x∈l,okX x)→ ∃T:List Lt,l.Perm (T++(planF f S l).2.2)∧Fa2 Vu (planF f S l).1 T∧Rdy S (planF f S l).1∧
  (∀n,n∈(planF f S l).2.1↔n∈S∨n∈T.flatMap ZE)∧(l.length≤f→WZ (planF f S l).2.1 (planF f S l).2.2=none)
 |0,S,l,_=>⟨[],.refl _,.nil,trivial,fun n=>by simp[planF],fun h=>by
   cases l with
   |nil=>rfl
   |cons _ _=>simp at h⟩
 |f+1,S,l,ho=>by
  simp only[planF];split
  ·rename_i h0;exact⟨[],.refl _,.nil,trivial,fun n=>by simp,fun _=>h0⟩
  ·rename_i s x r h0;obtain⟨h1,h2,h3⟩:=ZhF ho h0;have hox:=ho x (h3.mem_iff.2 sm);obtain⟨T,a1,a2,a3,a4,a5⟩:=plan_spec f (S++ZE x) r fun y hy=>ho y (h3.mem_iff.2 (by simp[hy]))
   refine⟨x::T,h3.trans (a1.cons x),.cons h1 a2,⟨h2,rdy_congr _ (fun n=>?_) a3⟩,fun n=>?_,fun hl=>a5 ?_⟩
   ·simp[ZhL h1 hox]
   ·rw[a4];simp[or_assoc]
   ·have:=h3.length_eq;simp only[Qo]at this;omega
def ZoU{A:List Am}{σ:Bnd}(hσ:ZO σ)(h:Vu s x)(ho:okX x)(hd:∀n∈ZE x,n∈Zo σ):Zbp A σ s↔Zbk A σ x:=by
 unfold Zbk;cases s with
 |test y=>obtain⟨rfl,hk⟩:=h;rw[if_pos hk];rfl
 |atom a=>
  obtain⟨hk,hn,rfl⟩:=h;rw[if_neg om,if_pos ⟨hk,hn⟩];rfl
 |bind m t=>
  obtain⟨hk,hop,h⟩:=h;have hord:∀{v w:Tm},Zr v=true→Zr w=true→(XP x.op v w=true↔v=w):=fun hv hw=>by
   rw[hop,←Jm hv hw];simp[XP]
  have hd':∀n,n∈nmT x.L∨n∈nmT x.R→n∈Zo σ:=fun n hn=>hd n (by rw[Ya,if_pos hk];exact hn)
  rw[if_pos hk];rcases h with⟨h1,rfl,rfl⟩|⟨h1,rfl,rfl⟩
  ·obtain⟨u,hu⟩:=Yh.2 (hd' x.L.name (.inl (by rw[JV h1 (ho.1 hk).1];simp)));have hvu:=hσ.look hu;have hR:∀v∈(YP x.R σ).1,Zr v=true:=fun v hv=>ZaV hσ (fun n hn=>hd' n (.inr hn)) hv
   simp only[Zbp,ZiL hσ h1 hu,Ql,exists_eq_left,hu,Qr];constructor
   ·rintro⟨v,hv,rfl⟩;exact⟨u,hv,(hord hvu hvu).2 rfl⟩
   ·rintro⟨w,hw,h2⟩;have:=(hord hvu (hR w hw)).1 h2;exact⟨w,hw,this⟩
  ·obtain⟨u,hu⟩:=Yh.2 (hd' x.R.name (.inr (by rw[JV h1 (ho.1 hk).2];simp)));have hvu:=hσ.look hu;have hL:∀v∈(YP x.L σ).1,Zr v=true:=fun v hv=>ZaV hσ (fun n hn=>hd' n (.inl hn)) hv
   simp only[Zbp,ZiL hσ h1 hu,Ql,exists_eq_left,hu,Qr];constructor
   ·rintro⟨v,hv,rfl⟩;exact⟨u,hv,(hord hvu hvu).2 rfl⟩
   ·rintro⟨w,hw,h2⟩;have:=(hord (hL w hw) hvu).1 h2;exact⟨w,hw,this.symm⟩
def ZmQ{A:List Am}{σ:Bnd}(hσ:ZO σ):∀{p:List Stp} {T:List Lt},Fa2 Vu p T→(∀x∈T,okX x)→(∀n∈T.flatMap ZE,n∈Zo σ)→((∀s∈p,Zbp A σ s)↔ ∀x∈T,Zbk A σ x)
 |_,_,.nil,_,_=>by simp
 |_,_,.cons (a:=s) (b:=x) h t,ho,hd=>by
  rw[QM]at hd;have ih:=ZmQ (A:=A) hσ t (fun y hy=>ho y (by simp[hy])) (fun n hn=>hd n (QB _ hn));have h1:=ZoU (A:=A) hσ h (ho x sm) (fun n hn=>hd n (Qx _ hn));simp only[Qk,forall_eq_or_imp,ih,h1]
def fa_vars:∀{p:List Stp} {T:List Lt},Fa2 Vu p T→(∀x∈T,okX x)→ ∀n,n∈p.flatMap varS↔n∈T.flatMap ZE
 |_,_,.nil,_,_=>by simp
 |_,_,.cons h t,ho,n=>by
  simp only[QM,Qg,ZhL h (ho _ sm),fa_vars t (fun y hy=>ho y (by simp[hy])) n]
def Zed{l:List Lt}{p:List Stp}(ho:∀x∈l,okX x)(h:VH S l=some p):
  Rdy S p∧(∀n,n∈S∨n∈p.flatMap varS↔n∈S∨n∈l.flatMap ZE)∧
  ∀(A:List Am) (σ:Bnd),ZO σ→(∀n∈l.flatMap ZE,n∈Zo σ)→((∀s∈p,Zbp A σ s)↔ ∀x∈l,Zbk A σ x):=by
 obtain⟨T,a1,a2,a3,a4,a5⟩:=plan_spec l.length S l ho;unfold VH at h;simp only at h;split at h
 ·rename_i hall;cases h;have hnone:=a5 (Qe _);have hr:∀x∈(planF l.length S l).2.2,¬x.kind=2∧(∀n∈ZE x,n∈(planF l.length S l).2.1)∧ ¬(x.kind=1∧x.neg=false):=fun x hx=>by
   have h1:=QA.1 hall x hx;simp only[XW,Qh,GU,beq_eq_false_iff_ne,Zbs]at h1;refine⟨h1.1,h1.2,fun hk=>?_⟩;simp only[WZ,Qbt]at hnone;have:=ZbS hnone.2 x hx;simp only[JE,if_pos hk]at this;cases this
  have hoT:∀x∈T,okX x:=fun x hx=>ho x (a1.mem_iff.2 (Qx _ hx))
  refine⟨a3,fun n=>?_,fun A σ hσ hd=>?_⟩
  ·rw[fa_vars a2 hoT n];constructor
   ·rintro(h|h)
    ·exact .inl h
    ·obtain⟨x,hx,h⟩:=Qw.1 h;exact .inr (Qw.2 ⟨x,a1.mem_iff.2 (Qx _ hx),h⟩)
   ·rintro(h|h)
    ·exact .inl h
    ·obtain⟨x,hx,h⟩:=Qw.1 h;rcases Qg.1 (a1.mem_iff.1 hx)with hx|hx
     ·exact .inr (Qw.2 ⟨x,hx,h⟩)
     ·exact(a4 n).1 ((hr x hx).2.1 n h)
  ·rw[ZmQ hσ a2 hoT fun n hn=>hd n (by
    obtain⟨x,hx,h⟩:=Qw.1 hn;exact Qw.2 ⟨x,a1.mem_iff.2 (Qx _ hx),h⟩)]
   constructor
   ·intro h x hx;rcases Qg.1 (a1.mem_iff.1 hx)with hx|hx
    ·exact h x hx
    ·have:=hr x hx;rw[Zbk,if_neg this.1,if_neg this.2.2];trivial
   ·intro h x hx;exact h x (a1.mem_iff.2 (Qx _ hx))
 ·cases h
end
def WB(b:UInt8):Bool:=b==40||b==41||b==44
def tok_split:∀(p q r s:List UInt8),(∀b∈p,WB b=false)→(∀b∈q,WB b=false)→(∀b r',r=b::r'→WB b=true)→(∀b s',s=b::s'→WB b=true)→p++r=q++s→p=q∧r=s
 |[],[],r,s,_,_,_,_,h=>⟨rfl,h⟩
 |[],b::q,r,s,_,hq,hr,_,h=>by
  have:=hr b (q++s) (by simpa using h);rw[hq b sm]at this;cases this
 |a::p,[],r,s,hp,_,_,hs,h=>by
  have:=hs a (p++r) (by simpa using h.symm);rw[hp a sm]at this;cases this
 |a::p,b::q,r,s,hp,hq,hr,hs,h=>by
  simp only[Q9,Uf]at h;obtain⟨h1,h2⟩:=tok_split p q r s (fun b hb=>hp b (by simp[hb])) (fun b hb=>hq b (by simp[hb])) hr hs h.2;exact⟨by rw[h.1,h1],h2⟩
def Zoe{b:UInt8}(h:isIn (b.toNat:Int)=true):WB b=false:=by
 rcases b.toNat_lt with _;simp only[isIn,isLow,isUp,ZeO,Gt,Qh,decide_eq_true_eq,beq_iff_eq]at h;simp only[WB,QaI,beq_eq_false_iff_ne];refine⟨⟨?_,?_⟩,?_⟩<;>(rintro rfl;simp at h)
def und_take:∀(s:List UInt8),∀b∈s.take (und s),b=95
 |[],b,h=>by simp at h
 |c::r,b,h=>by
  simp only[und]at h;split at h
  ·rename_i hc;simp only[Qam,Qk]at h;rcases h with rfl|h
   ·have:(b.toNat:Int)=95:=by simpa using hc
    exact UInt8.toNat_inj.1 (by show b.toNat=95;omega)
   ·exact und_take r b h
  ·simp at h
section
variable {s:List UInt8}
def Xt(h:sym s=true):(∀b∈s,WB b=false)∧ ∃b r,s=b::r∧(b=95∨isLow (b.toNat:Int)=true):=by
 simp only[sym,Qh,decide_eq_true_eq]at h;obtain⟨⟨⟨h1,h2⟩,h3⟩,_⟩:=h;simp only[wd,Qh,QA]at h3;refine⟨fun b hb=>?_,?_⟩
 ·rw[←QZ (und s) s]at hb;rcases Qg.1 hb with hb|hb
  ·rw[und_take s b hb];rfl
  ·exact Zoe (h3.1 b hb)
 ·cases s with
  |nil=>simp at h1
  |cons b r=>
   refine⟨b,r,rfl,?_⟩;simp only[und]at h2;split at h2
   ·rename_i hc;left
    have:(b.toNat:Int)=95:=by simpa using hc
    exact UInt8.toNat_inj.1 (by show b.toNat=95;omega)
   ·right;simpa[bt]using h2
open Go.Lib in
theorem Zd3(u:Nat):∀b∈decDigits u,48≤b.toNat∧b.toNat≤57:=by
 induction u using Nat.strongRecOn with
 |_ u ih=>
  intro b hb;rw[decDigits]at hb;split at hb
  ·rename_i h;simp only[Ql]at hb;subst hb;rw[UInt8.toNat_ofNat'];omega
  ·rcases Qg.1 hb with hb|hb
   ·exact ih (u / 10) om b hb
   ·simp only[Ql]at hb;subst hb;rw[UInt8.toNat_ofNat'];omega
open Go.Lib in
theorem Zsp(u:Nat):decDigits u≠[]:=by
 rw[decDigits];split<;>simp
def ZsM(l:List UInt8):Nat:=l.foldl (fun n b=>10*n+(b.toNat - 48)) 0
open Go.Lib in
theorem Zi5(u:Nat):ZsM (decDigits u)=u:=by
 induction u using Nat.strongRecOn with
 |_ u ih=>
  rw[decDigits];split
  ·simp only[ZsM,Uu,Qbw,UInt8.toNat_ofNat'];omega
  ·have:=ih (u / 10) om;simp only[ZsM,U7,Uu,Qbw]at this⊢;rw[this,UInt8.toNat_ofNat'];omega
open Go.Lib in
theorem ZmM{u v:Nat}(h:decDigits u=decDigits v):u=v:=by rw[←Zi5 u,h,Zi5]
open Go.Lib in
theorem Zeh(u:Nat):∃b r,decDigits u=b::r∧48≤b.toNat∧b.toNat≤57:=by
 cases h:decDigits u with
 |nil=>exact absurd h (Zsp u)
 |cons b r=>exact⟨b,r,rfl,Zd3 u b (by rw[h];simp)⟩
def VA(n:Int):(∀b∈Lib.itoa n,WB b=false)∧ ∃b r,Lib.itoa n=b::r∧(b=45∨(48≤b.toNat∧b.toNat≤57)):=by
 have hd:∀b:UInt8,48≤b.toNat∧b.toNat≤57→WB b=false:=fun b hb=>by
  simp only[WB,QaI,beq_eq_false_iff_ne];refine⟨⟨?_,?_⟩,?_⟩<;>(rintro rfl;simp at hb)
 unfold Lib.itoa;split
 ·refine⟨fun b hb=>?_,45,_,rfl,.inl rfl⟩;rcases Qk.1 hb with rfl|hb
  ·rfl
  ·exact hd b (Zd3 _ b hb)
 ·refine⟨fun b hb=>hd b (Zd3 _ b hb),?_⟩;obtain⟨b,r,h1,h2⟩:=Zeh n.toNat;exact⟨b,r,h1,.inr h2⟩
def Zjr{m n:Int}(h:Lib.itoa m=Lib.itoa n):m=n:=by
 unfold Lib.itoa at h;split at h<;>split at h
 ·have:=ZmM (by simpa using h);omega
 ·obtain⟨b,r,h1,h2⟩:=Zeh n.toNat;rw[h1]at h;simp only[Uf]at h;rw[←h.1]at h2;simp at h2
 ·obtain⟨b,r,h1,h2⟩:=Zeh m.toNat;rw[h1]at h;simp only[Uf]at h;rw[h.1]at h2;simp at h2
 ·have:=ZmM h;omega
def ZdD(n:Int)(h:sym s=true):Lib.itoa n≠s:=fun e=>by
 obtain⟨_,b,r,h1,h2⟩:=VA n;obtain⟨_,c,q,h3,h4⟩:=Xt h;rw[h1,h3]at e;simp only[Uf]at e;obtain⟨rfl,_⟩:=e;simp only[isLow,Qh,decide_eq_true_eq]at h4;rcases h2 with rfl|h2
 ·rcases h4 with h4|h4
  ·cases h4
  ·simp at h4
 ·rcases h4 with rfl|h4
  ·simp at h2
  ·omega
variable {t:Tm}
def ZdV(h:okv t=true):(t.kind=1∧t.name=[]∧t.args=[])∨(t.kind=2∧t.num=0∧sym t.name=true∧t.args=[])∨(t.kind=4∧t.num=0∧sym t.name=true∧t.args≠[]):=by
 simp only[okv,Qh,plain,Gt,beq_iff_eq]at h;obtain⟨hk,hs⟩:=h;have nil:∀{l:List Tm},l.length≤0→l=[]:=fun h=>by simpa using h
 rcases hk with(hk|hk)|hk
 ·left
  simp only[shape,hk,if_true,nargs,Qh,decide_eq_true_eq,beq_iff_eq]at hs;exact⟨hk,hs.1.2,nil om⟩
 ·right;left
  simp only[shape,hk,Int.reduceEq,if_false,if_true,nargs,named,Qh,decide_eq_true_eq,beq_iff_eq]at hs;exact⟨hk,hs.1.1.1,hs.1.2,nil om⟩
 ·right;right
  simp only[shape,hk,Int.reduceEq,if_false,if_true,nargs,named,Qh,decide_eq_true_eq,beq_iff_eq]at hs;refine⟨hk,hs.1.1.1,hs.1.2,fun e=>?_⟩;rw[e]at hs;simp at hs
def Wx(x:List UInt8)(r:List (List UInt8)):Lib.joinTail [44] (x::r)=44::Lib.join (x::r) [44]:=by
 rw[Lib.join_cons];simp[Lib.joinTail]
def Hd(r:List UInt8):Prop:=∀b r',r=b::r'→b=41∨b=44
def Hd.stop{r:List UInt8}(h:Hd r):∀b r',r=b::r'→WB b=true:=fun b r' e=>by
 rcases h b r' e with rfl|rfl<;>rfl
def Hd.nil:Hd []:=fun _ _ e=>by cases e
def Hd.close(r:List UInt8):Hd (41::r):=fun _ _ e=>by cases e;exact .inl rfl
def Hd.tail(l:List (List UInt8))(r:List UInt8):Hd (Lib.joinTail [44] l++41::r):=by
 cases l with
 |nil=>exact Hd.close r
 |cons x l=>rw[Wx];exact fun _ _ e=>by cases e;exact .inr rfl
def join_split:∀(p q:List Tm) (r s:List UInt8),(∀t∈p,∀u∈q,∀r s,Hd r→Hd s→txt t++r=txt u++s→t=u∧r=s)→p≠[]→q≠[]→
  Lib.join (p.map txt) [44]++41::r=Lib.join (q.map txt) [44]++41::s→p=q∧r=s
 |[],_,_,_,_,h,_,_=>absurd rfl h
 |_,[],_,_,_,_,h,_=>absurd rfl h
 |t::p,u::q,r,s,ih,_,_,h=>by
  rw[Qu,Qu,Lib.join_cons,Lib.join_cons,Ua,Ua]at h;obtain⟨h1,h2⟩:=ih t sm u sm _ _ (Hd.tail _ _) (Hd.tail _ _) h;subst h1;cases p with
  |nil=>
   cases q with
   |nil=>simp[Lib.joinTail]at h2;exact⟨rfl,h2⟩
   |cons x q=>rw[Qu,Wx]at h2;simp[Lib.joinTail]at h2
  |cons y p=>
   cases q with
   |nil=>rw[Qu,Wx]at h2;simp[Lib.joinTail]at h2
   |cons x q=>
    rw[Qu,Qu,Wx,Wx,Q9,Q9,Uf]at h2;have:=join_split (y::p) (x::q) r s (fun t ht u hu=>ih t (by simp at ht⊢;right;exact ht) u (by simp at hu⊢;right;exact hu)) sm sm h2.2;exact⟨by rw[this.1],this.2⟩
def Zla{u:Tm}(h1:t.kind=u.kind)(h2:t.num=u.num)(h3:t.name=u.name)(h4:t.args=u.args):t=u:=by
 cases t;cases u;simp only[Tm.kind,Tm.num,Tm.name,Tm.args]at*;subst h1 h2 h3 h4;rfl
def ZaE(h:t.kind=1):txt t=Lib.itoa t.num:=by rw[Zbl,if_pos h]
def ZaG(h:t.kind=2):txt t=t.name:=by rw[Zbl,if_neg om,if_neg om]
def ZaT(h:t.kind=4)(r:List UInt8):txt t++r=t.name++(40::(Lib.join (t.args.map txt) [44]++41::r)):=by
 rw[Zbl,if_neg om,if_pos h];simp
def Zd1(t:Tm):∀(u:Tm) (r s:List UInt8),t.all okv=true→u.all okv=true→Hd r→Hd s→txt t++r=txt u++s→t=u∧r=s:=by
 intro u r s ht hu hr hs h;have h40:∀x:List UInt8,∀b r',(40::x)=b::r'→WB b=true:=fun x b r' e=>by cases e;rfl
 rcases ZdV (Y1 ht)with⟨k1,k2,k3⟩|⟨k1,k2,k3,k4⟩|⟨k1,k2,k3,k4⟩<;>rcases ZdV (Y1 hu)with⟨l1,l2,l3⟩|⟨l1,l2,l3,l4⟩|⟨l1,l2,l3,l4⟩
 ·rw[ZaE k1,ZaE l1]at h;obtain⟨e1,e2⟩:=tok_split _ _ _ _ (VA _).1 (VA _).1 hr.stop hs.stop h;exact⟨Zla (by rw[k1,l1]) (Zjr e1) (by rw[k2,l2]) (by rw[k3,l3]),e2⟩
 ·rw[ZaE k1,ZaG l1]at h;exact absurd (tok_split _ _ _ _ (VA _).1 (Xt l3).1 hr.stop hs.stop h).1 (ZdD _ l3)
 ·rw[ZaE k1,ZaT l1]at h;exact absurd (tok_split _ _ _ _ (VA _).1 (Xt l3).1 hr.stop (h40 _) h).1 (ZdD _ l3)
 ·rw[ZaG k1,ZaE l1]at h;exact absurd (tok_split _ _ _ _ (Xt k3).1 (VA _).1 hr.stop hs.stop h).1.symm (ZdD _ k3)
 ·rw[ZaG k1,ZaG l1]at h;obtain⟨e1,e2⟩:=tok_split _ _ _ _ (Xt k3).1 (Xt l3).1 hr.stop hs.stop h;exact⟨Zla (by rw[k1,l1]) (by rw[k2,l2]) e1 (by rw[k4,l4]),e2⟩
 ·rw[ZaG k1,ZaT l1]at h;have:=(tok_split _ _ _ _ (Xt k3).1 (Xt l3).1 hr.stop (h40 _) h).2;rcases hr _ _ this with e|e<;>cases e
 ·rw[ZaT k1,ZaE l1]at h;exact absurd (tok_split _ _ _ _ (Xt k3).1 (VA _).1 (h40 _) hs.stop h).1.symm (ZdD _ k3)
 ·rw[ZaT k1,ZaG l1]at h;have:=(tok_split _ _ _ _ (Xt k3).1 (Xt l3).1 (h40 _) hs.stop h).2;rcases hs _ _ this.symm with e|e<;>cases e
 ·rw[ZaT k1,ZaT l1]at h;obtain⟨e1,e2⟩:=tok_split _ _ _ _ (Xt k3).1 (Xt l3).1 (h40 _) (h40 _) h;obtain⟨e3,e4⟩:=join_split t.args u.args r s (fun x hx y hy r s=>Zd1 x y r s (Xj ht hx) (Xj hu hy)) k4 l4 (List.cons.inj e2).2;exact⟨Zla (by rw[k1,l1]) (by rw[k2,l2]) e1 e3,e4⟩
termination_by SizeOf.sizeOf t
decreasing_by exact Tm.Xp hx
def Zdd(h:Zr t=true):t.all okv=true:=by
 simp only[Zr,Xw,Qh]at h;have:=Zcc plain shape t;rw[h.1,h.2.2,Bool.and_self]at this;exact this
def Zrc{u:Tm}(ht:Zr t=true)(hu:Zr u=true)(h:txt t=txt u):t=u:=
 (Zd1 t u [] [] (Zdd ht) (Zdd hu) Hd.nil Hd.nil (by rw[h])).1
theorem Zpk{a b:Am}(ha:Yn a=true)(hb:Yn b=true)(h:JO a=JO b):a=b:=by
 obtain⟨a1,_,a3⟩:=ZaB ha;obtain⟨b1,_,b3⟩:=ZaB hb;rw[QA]at a3 b3;have e:a.pred++(40::(Lib.join (a.args.map txt) [44]++[41]))=b.pred++(40::(Lib.join (b.args.map txt) [44]++[41])):=by
  simpa[JO]using h
 obtain⟨e1,e2⟩:=tok_split _ _ _ _ (Xt a1).1 (Xt b1).1 (fun b r e=>by cases e;rfl) (fun b r e=>by cases e;rfl) e;have e3:=(List.cons.inj e2).2;have first:∀(t:Tm) (l:List Tm),Zr t=true→ ∃c r,Lib.join ((t::l).map txt) [44]=c::r∧WB c=false:=fun t l ht=>by
  have ho:=Zdd ht;have key:∀x:List UInt8,(∀b∈x,WB b=false)→(∃b r,x=b::r)→ ∀y,∃c r,x++y=c::r∧WB c=false:=fun x hx ⟨b,r,e⟩ y=>⟨b,r++y,by rw[e];rfl,hx b (by rw[e];simp)⟩
  rw[Qu,Lib.join_cons];rcases ZdV (Y1 ho)with⟨k1,k2,k3⟩|⟨k1,k2,k3,k4⟩|⟨k1,k2,k3,k4⟩
  ·rw[ZaE k1];obtain⟨h1,b,r,h2,_⟩:=VA t.num;exact key _ h1 ⟨b,r,h2⟩ _
  ·rw[ZaG k1];obtain⟨h1,b,r,h2,_⟩:=Xt k3;exact key _ h1 ⟨b,r,h2⟩ _
  ·rw[ZaT k1];obtain⟨h1,b,r,h2,_⟩:=Xt k3;exact key _ h1 ⟨b,r,h2⟩ _
 cases a with
 |mk ap al=>
 cases b with
 |mk bp bl=>
 simp only at e1 e3 a3 b3;subst e1;congr 1
 cases al with
 |nil=>
  cases bl with
  |nil=>rfl
  |cons u m=>
   obtain⟨c,r,h1,h2⟩:=first u m (b3 u sm)
   rw[h1,UD,Lib.join_nil]at e3;simp only[Q5,Q9,Uf]at e3;rw[←e3.1]at h2;cases h2
 |cons t l=>
  cases bl with
  |nil=>
   obtain⟨c,r,h1,h2⟩:=first t l (a3 t sm)
   rw[h1,UD,Lib.join_nil]at e3;simp only[Q5,Q9,Uf]at e3;rw[e3.1]at h2;cases h2
  |cons u m=>exact(join_split _ _ [] [] (fun x hx y hy r s=>Zd1 x y r s (Zdd (a3 x hx)) (Zdd (b3 y hy))) sm sm e3).1
end
def Zdh{m n:Nat}(h:newV m=newV n):m=n:=by
 simp only[newV,Uf,true_and]at h;have:=Zjr h;omega
def YL{α:Type} [DecidableEq α]:∀{p q:List α},p.Nodup→(∀x∈p,x∈q)→p.length≤q.length
 |[],_,_,_=>Uo _
 |x::p,q,hn,h=>by
  rw[MZ]at hn;have hx:=h x sm;have:=YL (q:=q.erase x) hn.2 fun y hy=>(List.mem_erase_of_ne (fun e=>hn.1 (by rw[←e];exact hy))).2 (h y (by simp[hy]))
  rw[List.length_erase_of_mem hx]at this;have:=List.length_pos_of_mem hx;simp only[Qo];omega
def Zjz(S:List (List UInt8)):∀f n,n≤Zbb S f n
 |0,n=>Qe _
 |f+1,n=>by
  simp only[Zbb];split
  ·have:=Zjz S f (n+1);omega
  ·exact Qe _
def Zjg{S:List (List UInt8)}:∀{f n},newV (Zbb S f n)∈S→ ∀i,i≤f→newV (n+i)∈S
 |0,n,h,i,hi=>by
  have:i=0:=om;subst this;exact h
 |f+1,n,h,i,hi=>by
  simp only[Zbb]at h;split at h
  ·rename_i h0;cases i with
   |zero=>exact h0
   |succ i=>have:=Zjg h i om;rwa [show n+1+i=n+(i+1) by omega]at this
  ·rename_i h0;exact absurd h h0
def ZkT(S:List (List UInt8))(n:Nat):n<XC S n:=by have:=Zjz S (S.length+1) (n+1);unfold XC;omega
def Zha(S:List (List UInt8))(n:Nat):newV (XC S n)∉S:=fun h=>by
 have h1:=Zjg h;have h2:((List.range (S.length+2)).map fun i=>newV (n+1+i)).length≤S.length:=by
  refine YL ?_ fun x hx=>?_
  ·refine List.Pairwise.map _ (fun a b hab e=>?_) QaC;have:=Zdh e;omega
  ·obtain⟨i,hi,rfl⟩:=Qi.1 hx;rw[MK]at hi;exact h1 i om
 rw[Qv,MV]at h2;omega
def VJ(σ:Bnd):Tm→Tm→Prop
 | .mk k n s l,v=>if k=5∨k=6 then v∈(YP (.mk k n s l) σ).1 else if k=3 then Zv s σ=some v else k=v.kind∧n=v.num∧s=v.name∧covs σ l v.args
where covs (σ:Bnd):List Tm→List Tm→Prop
 |[],q=>q=[]
 |t::r,q=>match q with
  |[]=>False
  |v::q=>VJ σ t v∧covs σ r q
def Zg7(A:List Am)(σ:Bnd)(x:Lt):Prop:=
 if x.kind=2 then∃v∈(YP x.L σ).1,∃w∈(YP x.R σ).1,XP x.op v w=true
 else if x.kind=1 then(if x.neg=false then∃a∈A,a.sg=x.at_.sg∧VJ.covs σ x.at_.args a.args else∃q,VJ.covs σ x.at_.args q)else True
def X4{P:Tm→Prop}{Q:List Tm→Prop}(h1:∀k n s l,Q l→P (.mk k n s l))(h2:Q [])(h3:∀t r,P t→Q r→Q (t::r)):(∀t,P t)∧ ∀l,Q l:=by
 have h:∀t,P t:=fun t=>Tm.rec (motive_1:=P) (motive_2:=Q) h1 h2 (fun t r ht hr=>h3 t r ht hr) t
 exact⟨h,fun l=>by induction l with
  |nil=>exact h2
  |cons t r ih=>exact h3 t r (h t) ih⟩
section
variable {s:List UInt8} {S:List (List UInt8)}
def WY{k n:Int}{l:List Tm}{c:Nat}(h:k=5∨k=6):flT S (.mk k n s l) c=(.mk 3 0 (newV (XC S c)) [],XC S c,[(XC S c,.mk k n s l)]):=by
 rw[flT,if_pos h]
def WR{k n:Int}{l:List Tm}{c:Nat}(h:¬(k=5∨k=6)):flT S (.mk k n s l) c=(.mk k n s (flT.flTs S l c).1,(flT.flTs S l c).2.1,(flT.flTs S l c).2.2):=by
 rw[flT,if_neg h]
def Zqm(S:List (List UInt8)):(∀t c,c≤(flT S t c).2.1∧ ∀d∈(flT S t c).2.2,c<d.1∧d.1≤(flT S t c).2.1∧newV d.1∉S)∧
  ∀l c,c≤(flT.flTs S l c).2.1∧ ∀d∈(flT.flTs S l c).2.2,c<d.1∧d.1≤(flT.flTs S l c).2.1∧newV d.1∉S:=by
 refine X4 (fun k n s l ih c=>?_) (fun c=>⟨Qe _,fun d hd=>by cases hd⟩) fun t r h1 h2 c=>?_
 ·by_cases hk:k=5∨k=6
  ·rw[WY hk];have:=ZkT S c;refine⟨by simp only;omega,fun d hd=>?_⟩;simp only[Ql]at hd;subst hd;exact⟨this,Qe _,Zha S c⟩
  ·rw[WR hk];exact ih c
 ·simp only[flT.flTs];have a1:=h1 c;have a2:=h2 (flT S t c).2.1;refine⟨om,fun d hd=>?_⟩;rcases Qg.1 hd with hd|hd
  ·have:=a1.2 d hd;exact⟨this.1,om,this.2.2⟩
  ·have:=a2.2 d hd;exact⟨om,this.2.1,this.2.2⟩
def ZiP(S:List (List UInt8)):(∀t c n,(n∈nmT (flT S t c).1∨ ∃d∈(flT S t c).2.2,n∈nmT d.2)↔(n∈nmT t∨ ∃d∈(flT S t c).2.2,n=newV d.1))∧
  ∀l c n,(n∈nmT.nms (flT.flTs S l c).1∨ ∃d∈(flT.flTs S l c).2.2,n∈nmT d.2)↔(n∈nmT.nms l∨ ∃d∈(flT.flTs S l c).2.2,n=newV d.1):=by
 refine X4 (fun k n s l ih c m=>?_) (fun c m=>by simp[flT.flTs,nmT.nms]) fun t r h1 h2 c m=>?_
 ·by_cases hk:k=5∨k=6
  ·rw[WY hk];simp[nmT,nmT.nms];exact or_comm
  ·rw[WR hk];have:=ih c m;simp only[nmT,Qg,or_assoc]at this⊢;rw[this]
 ·simp only[flT.flTs,nmT.nms,Qg];have a1:=h1 c m;have a2:=h2 (flT S t c).2.1 m;constructor
  ·rintro((h|h)|⟨d,hd|hd,h⟩)
   ·rcases a1.1 (.inl h)with h|⟨d,hd,h⟩
    all_goals first|exact .inl (.inl h)|exact .inr ⟨d,.inl hd,h⟩
   ·rcases a2.1 (.inl h)with h|⟨d,hd,h⟩
    all_goals first|exact .inl (.inr h)|exact .inr ⟨d,.inr hd,h⟩
   ·rcases a1.1 (.inr ⟨d,hd,h⟩)with h|⟨d,hd,h⟩
    all_goals first|exact .inl (.inl h)|exact .inr ⟨d,.inl hd,h⟩
   ·rcases a2.1 (.inr ⟨d,hd,h⟩)with h|⟨d,hd,h⟩
    all_goals first|exact .inl (.inr h)|exact .inr ⟨d,.inr hd,h⟩
  ·rintro((h|h)|⟨d,hd|hd,h⟩)
   ·rcases a1.2 (.inl h)with h|⟨d,hd,h⟩
    all_goals first|exact .inl (.inl h)|exact .inr ⟨d,.inl hd,h⟩
   ·rcases a2.2 (.inl h)with h|⟨d,hd,h⟩
    all_goals first|exact .inl (.inr h)|exact .inr ⟨d,.inr hd,h⟩
   ·rcases a1.2 (.inr ⟨d,hd,h⟩)with h|⟨d,hd,h⟩
    all_goals first|exact .inl (.inl h)|exact .inr ⟨d,.inl hd,h⟩
   ·rcases a2.2 (.inr ⟨d,hd,h⟩)with h|⟨d,hd,h⟩
    all_goals first|exact .inl (.inr h)|exact .inr ⟨d,.inr hd,h⟩
def Zto(S:List (List UInt8)):(∀t c,t.all okV=true→(flT S t c).1.all okV=true∧ ∀d∈(flT S t c).2.2,d.2.all okV=true)∧
  ∀l c,(∀u∈l,u.all okV=true)→(∀u∈(flT.flTs S l c).1,u.all okV=true)∧ ∀d∈(flT.flTs S l c).2.2,d.2.all okV=true:=by
 refine X4 (fun k n s l ih c h=>?_) (fun c _=>⟨fun u hu=>(by cases hu),fun d hd=>by cases hd⟩) fun t r h1 h2 c h=>?_
 ·by_cases hk:k=5∨k=6
  ·rw[WY hk];exact⟨by simp[Tm.all,Tm.all.alls,okV,Tm.kind,Tm.args,Tm.name,newV],fun d hd=>by simp only[Ql]at hd;subst hd;exact h⟩
  ·rw[WR hk];have h':=ih c fun u hu=>Xj h hu
   refine⟨?_,h'.2⟩;rw[Tm.all_eq,Qh,Tm.VT,QA];refine⟨?_,h'.1⟩;by_cases hk3:k=3
   ·subst hk3;have e:=Zc9 h;subst e;exact Y1 h
   ·simp[okV,Tm.kind,hk3]
 ·simp only[flT.flTs];have a1:=h1 c (h t sm);have a2:=h2 (flT S t c).2.1 fun u hu=>h u (by simp[hu])
  refine⟨fun u hu=>?_,fun d hd=>?_⟩
  ·rcases Qk.1 hu with rfl|hu
   all_goals first|exact a1.1|exact a2.1 u hu
  ·rcases Qg.1 hd with hd|hd
   all_goals first|exact a1.2 d hd|exact a2.2 d hd
def ZfU(σ τ:Bnd)(ds:List (Nat×Tm)):Prop:=∀d∈ds,∃w∈(YP d.2 σ).1,Zv (newV d.1) τ=some w
def Zqp(S:List (List UInt8)){σ τ:Bnd}(hx:YD σ τ):(∀t c,t.all okV=true→(∀n∈nmT t,n∈Zo σ)→ZfU σ τ (flT S t c).2.2→VJ σ t (ZV τ (flT S t c).1))∧
  ∀l c,(∀u∈l,u.all okV=true)→(∀n∈nmT.nms l,n∈Zo σ)→ZfU σ τ (flT.flTs S l c).2.2→VJ.covs σ l (ZV.apps τ (flT.flTs S l c).1):=by
 refine X4 (fun k n s l ih c hV hn hd=>?_) (fun c _ _ _=>by simp[flT.flTs,VJ.covs,ZV.apps]) fun t r h1 h2 c hV hn hd=>?_
 ·by_cases hk:k=5∨k=6
  ·rw[WY hk]at hd⊢;obtain⟨w,hw,hl⟩:=hd _ (Ql.2 rfl);rw[VJ,if_pos hk,WO hl];exact hw
  ·rw[WR hk]at hd⊢;rw[VJ,if_neg hk];by_cases h3:k=3
   ·subst h3;obtain⟨v,hv⟩:=Yh.2 (hn s Zf0);rw[if_pos rfl,WO (hx s v hv)];exact hv
   ·rw[if_neg h3,Jr h3,←JY];refine⟨rfl,rfl,rfl,ih c (fun u hu=>Xj hV hu) (fun m hm=>hn m ?_) hd⟩;rw[nmT];exact QB _ hm
 ·simp only[flT.flTs]at hd⊢;simp only[VJ.covs,ZV.apps];simp only[nmT.nms,Qg]at hn;exact⟨h1 c (hV t sm) (fun m hm=>hn m (.inl hm)) fun d h=>hd d (Qx _ h),
   h2 _ (fun u hu=>hV u (by simp[hu])) (fun m hm=>hn m (.inr hm)) fun d h=>hd d (QB _ h)⟩
def ZaM(S:List (List UInt8))(τ:Bnd)(c:Nat):Prop:=∀m,c<m→newV m∉S→newV m∉Zo τ
def Zjx(S:List (List UInt8)){σ:Bnd}(hσ:ZO σ):(∀t c τ v,ZO τ→YD σ τ→ZaM S τ c→t.all okV=true→(∀n∈nmT t,n∈Zo σ)→VJ σ t v→
   ∃τ',ZO τ'∧YD τ τ'∧(∀n,n∈Zo τ'↔n∈Zo τ∨ ∃d∈(flT S t c).2.2,n=newV d.1)∧ZV τ' (flT S t c).1=v∧ZfU σ τ' (flT S t c).2.2)∧
  ∀l c τ q,ZO τ→YD σ τ→ZaM S τ c→(∀u∈l,u.all okV=true)→(∀n∈nmT.nms l,n∈Zo σ)→VJ.covs σ l q→
   ∃τ',ZO τ'∧YD τ τ'∧(∀n,n∈Zo τ'↔n∈Zo τ∨ ∃d∈(flT.flTs S l c).2.2,n=newV d.1)∧ZV.apps τ' (flT.flTs S l c).1=q∧ZfU σ τ' (flT.flTs S l c).2.2:=by
 refine X4 (fun k n s l ih c τ v hg hx hf hV hn hc=>?_) (fun c τ q hg hx hf _ _ hc=>⟨τ,hg,YD.refl _,fun n=>by simp[flT.flTs],by simp[VJ.covs]at hc;simp[flT.flTs,ZV.apps,hc],fun d hd=>by cases hd⟩)
  fun t r h1 h2 c τ q hg hx hf hV hn hc=>?_
 ·by_cases hk:k=5∨k=6
  ·rw[WY hk];rw[VJ,if_pos hk]at hc;have hfree:=hf _ (ZkT S c) (Zha S c);have hl:Zv (newV (XC S c)) (Ws (newV (XC S c)) v τ)=some v:=by rw[Vp,if_pos rfl]
   refine⟨Ws (newV (XC S c)) v τ,hg.ext hfree (ZaV hσ hn hc),YD.ext hfree v,fun m=>?_,WO hl,fun d hd=>?_⟩
   ·rw[Zdp];simp[or_comm]
   ·simp only[Ql]at hd;subst hd;exact⟨v,hc,hl⟩
  ·rw[WR hk];rw[VJ,if_neg hk]at hc;by_cases h3:k=3
   ·subst h3;have e:=Zc9 hV;subst e;rw[if_pos rfl]at hc;exact⟨τ,hg,YD.refl _,fun m=>by simp[flT.flTs],WO (hx s v hc),fun d hd=>by cases hd⟩
   ·rw[if_neg h3]at hc;obtain⟨τ',g,x,d,a,w⟩:=ih c τ v.args hg hx hf (fun u hu=>Xj hV hu) (fun m hm=>hn m (by rw[nmT];exact QB _ hm)) hc.2.2.2;refine⟨τ',g,x,d,?_,w⟩;rw[Jr h3,←JY,a,hc.1,hc.2.1,hc.2.2.1];cases v;rfl
 ·simp only[flT.flTs];simp only[nmT.nms,Qg]at hn;cases q with
  |nil=>simp only[VJ.covs]at hc
  |cons v q=>
   simp only[VJ.covs]at hc;obtain⟨τ1,g1,x1,d1,a1,w1⟩:=h1 c τ v hg hx hf (hV t sm) (fun m hm=>hn m (.inl hm)) hc.1;have hnum:=(Zqm S).1 t c;have hf1:ZaM S τ1 (flT S t c).2.1:=fun m hm hS hd=>by
    rcases(d1 _).1 hd with h|⟨d,hd,e⟩
    ·exact hf m om hS h
    ·have:=Zdh e;have:=(hnum.2 d hd).2.1;omega
   obtain⟨τ2,g2,x2,d2,a2,w2⟩:=h2 (flT S t c).2.1 τ1 q g1 (hx.trans x1) hf1 (fun u hu=>hV u (by simp[hu])) (fun m hm=>hn m (.inr hm)) hc.2;refine⟨τ2,g2,x1.trans x2,fun m=>?_,?_,fun d hd=>?_⟩
   ·rw[d2,d1];simp only[Qg];constructor
    ·rintro((h|⟨d,hd,h⟩)|⟨d,hd,h⟩);all_goals first|exact .inl h|exact .inr ⟨d,.inl hd,h⟩|exact .inr ⟨d,.inr hd,h⟩
    ·rintro(h|⟨d,hd|hd,h⟩);all_goals first|exact .inl (.inl h)|exact .inl (.inr ⟨d,hd,h⟩)|exact .inr ⟨d,hd,h⟩
   ·simp only[ZV.apps,a2];congr 1
    rw[←a1];refine(Zfg x2 fun m hm=>(d1 m).2 ?_).symm;rcases((ZiP S).1 t c m).1 (.inl hm)with h|h
    ·exact .inl (Zfq hx (hn m (.inl h)))
    ·exact .inr h
   ·rcases Qg.1 hd with hd|hd
    ·obtain⟨w,hw,hl⟩:=w1 d hd;exact⟨w,hw,x2 _ _ hl⟩
    ·exact w2 d hd
end
def Zlw(S:List (List UInt8)):(∀t c,∀d∈(flT S t c).2.2,∀n∈nmT d.2,n∈nmT t)∧ ∀l c,∀d∈(flT.flTs S l c).2.2,∀n∈nmT d.2,n∈nmT.nms l:=by
 refine X4 (fun k n s l ih c d hd m hm=>?_) (fun c d hd=>by cases hd) fun t r h1 h2 c d hd m hm=>?_
 ·by_cases hk:k=5∨k=6
  ·rw[WY hk]at hd;simp only[Ql]at hd;subst hd;exact hm
  ·rw[WR hk]at hd;rw[nmT];exact QB _ (ih c d hd m hm)
 ·simp only[flT.flTs]at hd;simp only[nmT.nms,Qg];rcases Qg.1 hd with hd|hd
  ·exact .inl (h1 c d hd m hm)
  ·exact .inr (h2 _ d hd m hm)
theorem Zad(S:List (List UInt8)):∀(l:List Tm) (c:Nat),(flT.flTs S l c).1.length=l.length
 |[],_=>rfl
 |t::r,c=>by simp only[flT.flTs,Qo,Zad S r]
def dfX(S:List (List UInt8))(x:Lt)(c:Nat):List (Nat×Tm):=if x.kind=1 then(flT.flTs S x.at_.args c).2.2 else []
def dfL(S:List (List UInt8)):List Lt→Nat→List (Nat×Tm)
 |[],_=>[]
 |x::r,c=>dfX S x c++dfL S r (flX S x c).2
section
variable {c:Nat} {x:Lt} {S:List (List UInt8)}
def Jp(h:x.kind=1):flX S x c=({x with at_:=⟨x.at_.pred,(flT.flTs S x.at_.args c).1⟩}::(dfX S x c).map Vk,(flT.flTs S x.at_.args c).2.1):=by
 rw[flX,if_pos h,dfX,if_pos h]
def VZ(h:¬x.kind=1):flX S x c=([x],c)∧dfX S x c=[]:=by
 rw[flX,if_neg h,dfX,if_neg h];exact⟨rfl,rfl⟩
variable {n:List UInt8} {d:Nat×Tm}
def Zgj:n∈ZE (Vk d)↔n=newV d.1∨n∈nmT d.2:=by
 rw[Ya,if_pos (show(Vk d).kind=2 from rfl)];simp[Vk,nmT,nmT.nms]
def Zo1{ds:List (Nat×Tm)}:n∈(ds.map Vk).flatMap ZE↔ ∃d∈ds,n=newV d.1∨n∈nmT d.2:=by
 simp only[Qw,Qi];constructor
 ·rintro⟨y,⟨d,hd,rfl⟩,h⟩;exact⟨d,hd,Zgj.1 h⟩
 ·rintro⟨d,hd,h⟩;exact⟨_,⟨d,hd,rfl⟩,Zgj.2 h⟩
def Zqs(S:List (List UInt8))(x:Lt)(c:Nat)(n:List UInt8):n∈(flX S x c).1.flatMap ZE↔n∈ZE x∨ ∃d∈dfX S x c,n=newV d.1:=by
 by_cases h:x.kind=1
 ·have hv:=(ZiP S).2 x.at_.args c n;rw[Jp h,QM,Qg,Ya,Ya,if_neg (show¬x.kind=2 by omega),if_neg (show¬x.kind=2 by omega),Zo1,dfX,if_pos h];constructor
  ·rintro(h|⟨d,hd,h|h⟩)
   ·exact hv.1 (.inl h)
   ·exact .inr ⟨d,hd,h⟩
   ·exact hv.1 (.inr ⟨d,hd,h⟩)
  ·rintro(h|⟨d,hd,h⟩)
   ·rcases hv.2 (.inl h)with h|⟨d,hd,h⟩
    all_goals first|exact .inl h|exact .inr ⟨d,hd,.inr h⟩
   ·exact .inr ⟨d,hd,.inl h⟩
 ·obtain⟨h1,h2⟩:=VZ (S:=S) (c:=c) h;rw[h1,h2];simp
def Zbo(S:List (List UInt8)):∀(l:List Lt) (c:Nat) (n:List UInt8),n∈(flL S l c).flatMap ZE↔n∈l.flatMap ZE∨ ∃d∈dfL S l c,n=newV d.1
 |[],c,n=>by simp[flL,dfL]
 |x::r,c,n=>by
  have h1:=Zqs S x c n;have h2:=Zbo S r (flX S x c).2 n;simp only[flL,dfL,Uc,QM,Qg,h1,h2];constructor
  ·rintro((h|⟨d,hd,h⟩)|(h|⟨d,hd,h⟩));all_goals first|exact .inl (.inl h)|exact .inr ⟨d,.inl hd,h⟩|exact .inl (.inr h)|exact .inr ⟨d,.inr hd,h⟩
  ·rintro((h|h)|⟨d,hd|hd,h⟩);all_goals first|exact .inl (.inl h)|exact .inr (.inl h)|exact .inl (.inr ⟨d,hd,h⟩)|exact .inr (.inr ⟨d,hd,h⟩)
def Zsa(c:Nat)(h:okX x):∀y∈(flX S x c).1,okX y:=by
 by_cases hk:x.kind=1
 ·have hf:=(Zto S).2 x.at_.args c (h.2 hk);rw[Jp hk];intro y hy;rcases Qk.1 hy with rfl|hy
  ·exact⟨h.1,fun _=>hf.1⟩
  ·obtain⟨d,hd,rfl⟩:=Qi.1 hy;rw[dfX,if_pos hk]at hd;exact⟨fun _=>⟨by simp[Vk,Tm.all,Tm.all.alls,okV,Tm.kind,Tm.args,Tm.name,newV],hf.2 d hd⟩,fun e=>by cases e⟩
 ·rw[(VZ (S:=S) (c:=c) hk).1];intro y hy;simp only[Ql]at hy;subst hy;exact h
def Zf7{S:List (List UInt8)}:∀{l:List Lt} (c:Nat),(∀x∈l,okX x)→ ∀y∈flL S l c,okX y
 |[],_,_,y,hy=>by cases hy
 |x::r,c,h,y,hy=>by
  simp only[flL]at hy;rcases Qg.1 hy with hy|hy
  ·exact Zsa c (h x sm) y hy
  ·exact Zf7 _ (fun z hz=>h z (by simp[hz])) y hy
def Zml(S:List (List UInt8))(x:Lt)(c:Nat):c≤(flX S x c).2∧ ∀d∈dfX S x c,c<d.1∧d.1≤(flX S x c).2∧newV d.1∉S:=by
 by_cases h:x.kind=1
 ·have:=(Zqm S).2 x.at_.args c;rw[Jp h,dfX,if_pos h];exact this
 ·obtain⟨h1,h2⟩:=VZ (S:=S) (c:=c) h;rw[h1,h2];exact⟨Qe _,fun d hd=>by cases hd⟩
def ZmR(S:List (List UInt8)):∀(l:List Lt) (c:Nat),∀d∈dfL S l c,c<d.1∧newV d.1∉S
 |[],c,d,hd=>by cases hd
 |x::r,c,d,hd=>by
  have h1:=Zml S x c;simp only[dfL]at hd;rcases Qg.1 hd with hd|hd
  ·exact⟨(h1.2 d hd).1,(h1.2 d hd).2.2⟩
  ·have:=ZmR S r _ d hd;exact⟨om,this.2⟩
variable {σ τ:Bnd} {A:List Am}
def ZmL(hτ:ZO τ)(hx:YD σ τ)(hn:∀n∈nmT d.2,n∈Zo σ)(hd:newV d.1∈Zo τ):Zbk A τ (Vk d)↔ ∃w∈(YP d.2 σ).1,Zv (newV d.1) τ=some w:=by
 obtain⟨u,hu⟩:=Yh.2 hd;have he:=ZiL hτ (t:=.mk 3 0 (newV d.1) []) rfl hu;have h2:YP d.2 σ=YP d.2 τ:=Y9 d.2 fun n h=>XB hx (hn n h)
 have hv:∀v∈(YP d.2 τ).1,Zr v=true:=fun v hv=>ZaV hτ (fun n h=>Zfq hx (hn n h)) hv
 have huv:=hτ.look hu;unfold Zbk;rw[if_pos (show(Vk d).kind=2 from rfl),h2];simp only[Vk,he,Ql,exists_eq_left,hu,Qr];constructor
 ·rintro⟨w,hw,h⟩;refine⟨w,hw,(Jm huv (hv w hw)).1 ?_⟩;simpa[XP]using h
 ·rintro⟨w,hw,rfl⟩;refine⟨u,hw,?_⟩;simp[XP,(Jm huv huv).2 rfl]
def Zn3(hτ:ZO τ)(hx:YD σ τ)(ho:okX x)(hn:∀n∈ZE x,n∈Zo σ)(hd:∀d∈dfX S x c,newV d.1∈Zo τ)
  (h:∀y∈(flX S x c).1,Zbk A τ y):Zg7 A σ x:=by
 unfold Zg7;by_cases h2:x.kind=2
 ·have hc:∀n,n∈nmT x.L∨n∈nmT x.R→Zv n σ=Zv n τ:=fun n h=>XB hx (hn n (by rw[Ya,if_pos h2];exact h))
  rw[(VZ (S:=S) (c:=c) (x:=x) om).1]at h;have:=h x sm;rw[Zbk,if_pos h2]at this;rw[if_pos h2,Y9 x.L fun n h=>hc n (.inl h),Y9 x.R fun n h=>hc n (.inr h)];exact this
 rw[if_neg h2];by_cases h1:x.kind=1
 ·have hn':∀n∈nmT.nms x.at_.args,n∈Zo σ:=fun n h=>hn n (by rw[Ya,if_neg h2];exact h)
  rw[Jp h1]at h;have hdf:ZfU σ τ (flT.flTs S x.at_.args c).2.2:=fun d hm=>by
   have hm':d∈dfX S x c:=by rw[dfX,if_pos h1];exact hm
   exact(ZmL hτ hx (fun n h=>hn' n ((Zlw S).2 _ c d hm n h)) (hd d hm')).1 (h _ (Qy _ (Qi.2 ⟨d,hm',rfl⟩)))
  have hs:=(Zqp S hx).2 x.at_.args c (ho.2 h1) hn' hdf;rw[if_pos h1];split
  ·rename_i hneg;have:=h _ QaS;rw[Zbk,if_neg h2,if_pos ⟨h1,hneg⟩]at this;obtain⟨a,ha,hsg,he⟩:=this;refine⟨a,ha,?_,?_⟩
   ·rw[hsg];simp[Am.sg,Zad]
   ·rw[←he];exact hs
  ·exact⟨_,hs⟩
 ·rw[if_neg h1];trivial
def ZiX(hσ:ZO σ)(hτ:ZO τ)(hx:YD σ τ)(hf:ZaM S τ c)(ho:okX x)(hn:∀n∈ZE x,n∈Zo σ)(h:Zg7 A σ x):
  ∃τ',ZO τ'∧YD τ τ'∧(∀n,n∈Zo τ'↔n∈Zo τ∨ ∃d∈dfX S x c,n=newV d.1)∧ ∀ρ,ZO ρ→YD τ' ρ→ ∀y∈(flX S x c).1,Zbk A ρ y:=by
 unfold Zg7 at h;by_cases h2:x.kind=2
 ·obtain⟨e1,e2⟩:=VZ (S:=S) (c:=c) (x:=x) om;rw[e1,e2];rw[if_pos h2]at h;refine⟨τ,hτ,YD.refl _,fun n=>by simp,fun ρ _ hρ y hy=>?_⟩;simp only[Ql]at hy;subst hy;have hc:∀n,n∈nmT y.L∨n∈nmT y.R→Zv n σ=Zv n ρ:=fun n h=>XB (hx.trans hρ) (hn n (by rw[Ya,if_pos h2];exact h))
  rw[Zbk,if_pos h2,←Y9 y.L fun n h=>hc n (.inl h),←Y9 y.R fun n h=>hc n (.inr h)];exact h
 rw[if_neg h2]at h;by_cases h1:x.kind=1
 ·rw[if_pos h1]at h;have hn':∀n∈nmT.nms x.at_.args,n∈Zo σ:=fun n h=>hn n (by rw[Ya,if_neg h2];exact h)
  have hq:∃q,VJ.covs σ x.at_.args q∧(x.neg=false→ ∃a∈A,a.sg=x.at_.sg∧q=a.args):=by
   split at h
   ·obtain⟨a,ha,hs,hc⟩:=h;exact⟨_,hc,fun _=>⟨a,ha,hs,rfl⟩⟩
   ·rename_i hneg;obtain⟨q,hc⟩:=h;exact⟨q,hc,fun e=>absurd e hneg⟩
  obtain⟨q,hc,hA⟩:=hq;obtain⟨τ',g,x',d,a,w⟩:=(Zjx S hσ).2 x.at_.args c τ q hτ hx hf (ho.2 h1) hn' hc;have hdf:dfX S x c=(flT.flTs S x.at_.args c).2.2:=by rw[dfX,if_pos h1]
  refine⟨τ',g,x',by rw[hdf];exact d,fun ρ hρ xρ y hy=>?_⟩;rw[Jp h1]at hy;rcases Qk.1 hy with rfl|hy
  ·unfold Zbk;rw[if_neg h2];split
   ·rename_i hk;obtain⟨b,hb,hs,hqe⟩:=hA hk.2;refine⟨b,hb,?_,?_⟩
    ·rw[hs];simp[Am.sg,Zad]
    ·rw[←hqe,←a];refine(ZfM _ fun n hm=>XB xρ ((d n).2 ?_)).symm;rcases((ZiP S).2 x.at_.args c n).1 (.inl hm)with h|h
     ·exact .inl (Zfq hx (hn' n h))
     ·exact .inr h
   ·trivial
  ·obtain⟨e,he,rfl⟩:=Qi.1 hy;rw[hdf]at he;obtain⟨v,hv,hl⟩:=w e he;exact(ZmL hρ ((hx.trans x').trans xρ) (fun n h=>hn' n ((Zlw S).2 _ c e he n h)) (Yh.1 ⟨v,xρ _ _ hl⟩)).2 ⟨v,hv,xρ _ _ hl⟩
 ·obtain⟨e1,e2⟩:=VZ (S:=S) (c:=c) (x:=x) h1;rw[e1,e2];refine⟨τ,hτ,YD.refl _,fun n=>by simp,fun ρ _ _ y hy=>?_⟩;simp only[Ql]at hy;subst hy;rw[Zbk,if_neg h2,if_neg (fun h=>h1 h.1)];trivial
def Zhy{A:List Am}{S:List (List UInt8)}{σ τ:Bnd}(hτ:ZO τ)(hx:YD σ τ):∀{l:List Lt} {c:Nat},(∀x∈l,okX x)→(∀n∈l.flatMap ZE,n∈Zo σ)→(∀d∈dfL S l c,newV d.1∈Zo τ)→
  (∀y∈flL S l c,Zbk A τ y)→ ∀x∈l,Zg7 A σ x
 |[],_,_,_,_,_,x,hm=>by cases hm
 |y::r,c,ho,hn,hd,h,x,hm=>by
  simp only[dfL,flL,QM,Qg]at hn hd h;rcases Qk.1 hm with rfl|hm
  ·exact Zn3 hτ hx (ho x sm) (fun n h=>hn n (.inl h)) (fun d h=>hd d (.inl h)) fun z hz=>h z (.inl hz)
  ·exact Zhy hτ hx (fun z hz=>ho z (by simp[hz])) (fun n h=>hn n (.inr h)) (fun d h=>hd d (.inr h)) (fun z hz=>h z (.inr hz)) x hm
def ZdI{A:List Am}{S:List (List UInt8)}{σ:Bnd}(hσ:ZO σ):∀{l:List Lt} {c:Nat} {τ:Bnd},ZO τ→YD σ τ→ZaM S τ c→(∀x∈l,okX x)→(∀n∈l.flatMap ZE,n∈Zo σ)→(∀x∈l,Zg7 A σ x)→
  ∃τ',ZO τ'∧YD τ τ'∧(∀n,n∈Zo τ'↔n∈Zo τ∨ ∃d∈dfL S l c,n=newV d.1)∧ ∀y∈flL S l c,Zbk A τ' y
 |[],_,τ,hτ,_,_,_,_,_=>⟨τ,hτ,YD.refl _,fun n=>by simp[dfL],fun y hy=>by cases hy⟩
 |x::r,c,τ,hτ,hx,hf,ho,hn,h=>by
  simp only[QM,Qg]at hn;obtain⟨τ1,g1,x1,d1,s1⟩:=ZiX hσ hτ hx hf (ho x sm) (fun n h=>hn n (.inl h)) (h x sm);have hnum:=Zml S x c;have hf1:ZaM S τ1 (flX S x c).2:=fun m hm hS hd=>by
   rcases(d1 _).1 hd with h|⟨d,hd,e⟩
   ·exact hf m om hS h
   ·have:=Zdh e;have:=(hnum.2 d hd).2.1;omega
  obtain⟨τ2,g2,x2,d2,s2⟩:=ZdI hσ g1 (hx.trans x1) hf1 (fun z hz=>ho z (by simp[hz])) (fun n h=>hn n (.inr h)) fun z hz=>h z (by simp[hz])
  refine⟨τ2,g2,x1.trans x2,fun n=>?_,fun y hy=>?_⟩
  ·rw[d2,d1];simp only[dfL,Qg];constructor
   ·rintro((h|⟨d,hd,h⟩)|⟨d,hd,h⟩);all_goals first|exact .inl h|exact .inr ⟨d,.inl hd,h⟩|exact .inr ⟨d,.inr hd,h⟩
   ·rintro(h|⟨d,hd|hd,h⟩);all_goals first|exact .inl (.inl h)|exact .inl (.inr ⟨d,hd,h⟩)|exact .inr ⟨d,hd,h⟩
  ·simp only[flL]at hy;rcases Qg.1 hy with hy|hy
   ·exact s1 τ2 g2 x2 y hy
   ·exact s2 y hy
/-! Join. -/
def XO(K:List (List UInt8))(b:Bnd):Prop:=ZO b∧ ∀n,n∈Zo b↔n∈K
def Zrn(K:List (List UInt8)):Zg5 (XO K) YJ:=by
 have hd:∀{x y:Bnd},XO K x→XO K y→Zo x=Zo y:=fun hx hy=>Zik hx.1.asc hy.1.asc fun n=>by rw[hx.2,hy.2]
 have hl:∀{x y:Bnd},XO K x→XO K y→x.length=y.length:=fun hx hy=>by have:=congrArg List.length (hd hx hy);simpa[Zo]using this
 have hnm:∀{x:Bnd},XO K x→ ∀u∈x.map Prod.snd,u.Nm:=fun hx u hu=>by obtain⟨q,hq,rfl⟩:=Qi.1 hu;exact JA (hx.1.val q hq)
 have he:∀{x y:Bnd},XO K x→XO K y→YJ x y=cmpT.cmps (x.map Prod.snd) (y.map Prod.snd):=fun hx hy=>by
  unfold YJ;rw[hl hx hy,Zaj,Jg]
 refine⟨⟨fun b=>ser.sers (b.map Prod.snd),fun x y hx hy=>?_⟩,fun x y hx hy h=>?_⟩
 ·rw[he hx hy,lex_sers _ _ (hnm hx) (hnm hy) (by simp[hl hx hy])]
 ·rw[he hx hy]at h;have h1:=cmps_zero (hnm hx) (hnm hy) h;have h2:=hd hx hy;refine Qa8 fun i=>?_
  have a1:(x.map Prod.snd)[i]? =(y.map Prod.snd)[i]?:=by rw[h1]
  have a2:(x.map Prod.fst)[i]? =(y.map Prod.fst)[i]?:=congrArg (fun l:List (List UInt8)=>l[i]?) h2;rw[Q8,Q8]at a1 a2;cases e1:x[i]?<;>cases e2:y[i]?<;>rw[e1,e2]at a1 a2<;>simp at a1 a2;exact congrArg some (QaV a2 a1)
def ZN(l:List Lt)(b:Bnd):List (List UInt8):=l.flatMap ZE++Zo b
def Sol(A:List Am)(l:List Lt)(b σ:Bnd):Prop:=XO (ZN l b) σ∧YD b σ∧ ∀x∈l,Zg7 A σ x
def Zoq(hA:∀a∈A,Yn a=true){l:List Lt}{b:Bnd}(ho:∀x∈l,okX x)(hb:ZO b){p:List Stp}{out:List Bnd}(hp:VH (Zo b) (XR l (ZN l b))=some p)(hr:WT A p [b]=(out,0)):
  (XI YJ (out.map (Vj (ZN l b)))).Pairwise (fun x y=>YJ x y<0)∧ ∀σ,σ∈XI YJ (out.map (Vj (ZN l b)))↔Sol A l b σ:=by
 let S:=ZN l b++l.flatMap fun x=>(Yw x).flatMap Z8
 have hF:XR l (ZN l b)=flL S l 0:=rfl;have hoF:∀y∈flL S l 0,okX y:=Zf7 0 ho;rw[hF]at hp;obtain⟨m1,m2,m3⟩:=Zed hoF hp;have hrun:=ZmS hA p (Zo b) [b] out (fun c hc=>by simp only[Ql]at hc;subst hc;exact⟨hb,fun n=>Iff.rfl⟩) m1 hr;have hdom:∀n,(n∈Zo b∨n∈p.flatMap varS)↔n∈ZN l b∨ ∃d∈dfL S l 0,n=newV d.1:=fun n=>by
  rw[m2,Zbo S l 0 n];simp only[ZN,Qg];constructor
  ·rintro(h|h|h);all_goals first|exact .inl (.inr h)|exact .inl (.inl h)|exact .inr h
  ·rintro((h|h)|h);all_goals first|exact .inr (.inl h)|exact .inl h|exact .inr (.inr h)
 have hout:∀c,c∈out↔ZO c∧YD b c∧(∀n,n∈Zo c↔n∈ZN l b∨ ∃d∈dfL S l 0,n=newV d.1)∧ ∀y∈flL S l 0,Zbk A c y:=fun c=>by
  rw[hrun c];simp only[Ql,exists_eq_left];have hvar:(∀n,n∈Zo c↔n∈ZN l b∨ ∃d∈dfL S l 0,n=newV d.1)→ ∀n∈(flL S l 0).flatMap ZE,n∈Zo c:=fun hd n hn=>by
   refine(hd n).2 ?_;rcases(Zbo S l 0 n).1 hn with h|h
   ·exact .inl (Qx _ h)
   ·exact .inr h
  constructor
  ·rintro⟨g,x,d,s⟩;have d':∀n,n∈Zo c↔n∈ZN l b∨ ∃d∈dfL S l 0,n=newV d.1:=fun n=>(d n).trans (hdom n)
   exact⟨g,x,d',(m3 A c g (hvar d')).1 s⟩
  ·rintro⟨g,x,d,s⟩;exact⟨g,x,fun n=>(d n).trans (hdom n).symm,(m3 A c g (hvar d)).2 s⟩
 have hres:∀c∈out,XO (ZN l b) (Vj (ZN l b) c):=fun c hc=>by
  obtain⟨g,x,d,s⟩:=(hout c).1 hc;refine⟨g.filter _,fun n=>?_⟩;rw[Zbg];exact⟨fun h=>h.1,fun h=>⟨h,(d n).2 (.inl h)⟩⟩
 have hG:∀y∈out.map (Vj (ZN l b)),XO (ZN l b) y:=fun y hy=>by
  obtain⟨c,hc,rfl⟩:=Qi.1 hy;exact hres c hc
 refine⟨(Zrn _).set_asc hG,fun σ=>?_⟩;rw[(Zrn _).set_mem hG,Qi];constructor
 ·rintro⟨c,hc,rfl⟩;obtain⟨g,x,d,s⟩:=(hout c).1 hc;have hsd:=hres c hc;refine⟨hsd,fun n v hn=>?_,Zhy g (Zc2 _ _) ho (fun n hn=>(hsd.2 n).2 (Qx _ hn)) (fun d' hd'=>(d _).2 (.inr ⟨d',hd',rfl⟩)) s⟩;rw[Zan,if_pos (show n∈ZN l b from QB _ (Yh.1 ⟨v,hn⟩))];exact x n v hn
 ·rintro⟨⟨g,d⟩,x,s⟩;have hf:ZaM S σ 0:=fun m _ hm hd=>hm (Qx _ ((d _).1 hd))
  obtain⟨τ,gτ,xτ,dτ,sτ⟩:=ZdI g g (YD.refl σ) hf ho (fun n hn=>(d n).2 (Qx _ hn)) s;refine⟨τ,(hout τ).2 ⟨gτ,x.trans xτ,fun n=>by rw[dτ,d],sτ⟩,?_⟩;refine Zgu (gτ.filter _) g (fun n v hn=>?_) fun n hn=>?_
  ·rw[Zan]at hn;split at hn
   ·rename_i hk;obtain⟨w,hw⟩:=Yh.2 ((d n).2 hk);rw[xτ n w hw]at hn;cases hn;exact hw
   ·cases hn
  ·rw[Zbg];exact⟨(d n).1 hn,Zfq xτ hn⟩
end
def bareT:Tm→List (List UInt8)
 | .mk k _ s l=>if k=5∨k=6 then []else(if k=3 then [s]else [])++bares l
where bares:List Tm→List (List UInt8)
 |[]=>[]
 |t::r=>bareT t++bares r
inductive Rch (S:List (List UInt8)) (l:List Lt):List UInt8→Prop
 |base {n}:n∈S→Rch S l n
 |atom {n} (x:Lt):x∈l→x.kind=1→x.neg=false→n∈bareT.bares x.at_.args→Rch S l n
 |left {n} (x:Lt):x∈l→x.kind=2→x.op=1→x.L.kind=3→(∀m∈nmT x.R,Rch S l m)→n∈nmT x.L→Rch S l n
 |right {n} (x:Lt):x∈l→x.kind=2→x.op=1→x.R.kind=3→(∀m∈nmT x.L,Rch S l m)→n∈nmT x.R→Rch S l n
def Safe(S:List (List UInt8))(l:List Lt):Prop:=∀n∈l.flatMap ZE,Rch S l n
def Zh6(S:List (List UInt8)):(∀t c n,n∈nmT (flT S t c).1↔n∈bareT t∨ ∃d∈(flT S t c).2.2,n=newV d.1)∧ ∀l c n,n∈nmT.nms (flT.flTs S l c).1↔n∈bareT.bares l∨ ∃d∈(flT.flTs S l c).2.2,n=newV d.1:=by
 refine X4 (fun k n s l ih c m=>?_) (fun c m=>by simp[flT.flTs,nmT.nms,bareT.bares]) fun t r h1 h2 c m=>?_
 ·by_cases hk:k=5∨k=6
  ·rw[WY hk,bareT,if_pos hk];simp[nmT,nmT.nms]
  ·rw[WR hk,bareT,if_neg hk];have:=ih c m;simp only[nmT,Qg,or_assoc,this]
 ·have a1:=h1 c m;have a2:=h2 (flT S t c).2.1 m;simp only[flT.flTs,nmT.nms,bareT.bares,Qg,a1,a2];constructor
  ·rintro((h|⟨d,hd,h⟩)|(h|⟨d,hd,h⟩));all_goals first|exact .inl (.inl h)|exact .inr ⟨d,.inl hd,h⟩|exact .inl (.inr h)|exact .inr ⟨d,.inr hd,h⟩
  ·rintro((h|h)|⟨d,hd|hd,h⟩);all_goals first|exact .inl (.inl h)|exact .inr (.inl h)|exact .inl (.inr ⟨d,hd,h⟩)|exact .inr (.inr ⟨d,hd,h⟩)
def bare_sub:(∀t,∀n∈bareT t,n∈nmT t)∧ ∀l,∀n∈bareT.bares l,n∈nmT.nms l:=by
 refine X4 (fun k n s l ih m hm=>?_) (fun m hm=>by cases hm) fun t r h1 h2 m hm=>?_
 ·rw[bareT]at hm;split at hm
  ·cases hm
  ·rw[nmT];rcases Qg.1 hm with h|h
   all_goals first|exact Qx _ h|exact QB _ (ih m h)
 ·simp only[bareT.bares,nmT.nms,Qg]at hm⊢;exact hm.imp (h1 m) (h2 m)
def ZqD(S:List (List UInt8)):(∀t c,∀d∈(flT S t c).2.2,d.2.kind=5∨d.2.kind=6)∧ ∀l c,∀d∈(flT.flTs S l c).2.2,d.2.kind=5∨d.2.kind=6:=by
 refine X4 (fun k n s l ih c d hd=>?_) (fun c d hd=>by cases hd) fun t r h1 h2 c d hd=>?_
 ·by_cases hk:k=5∨k=6
  ·rw[WY hk]at hd;simp only[Ql]at hd;subst hd;exact hk
  ·rw[WR hk]at hd;exact ih c d hd
 ·simp only[flT.flTs]at hd;rcases Qg.1 hd with hd|hd
  all_goals first|exact h1 c d hd|exact h2 _ d hd
def flA(S:List (List UInt8))(x:Lt)(c:Nat):Lt:={x with at_:=⟨x.at_.pred,(flT.flTs S x.at_.args c).1⟩}
def Zfn{S:List (List UInt8)}{y:Lt}:∀{l:List Lt} {c:Nat},y∈flL S l c→(∃x∈l,¬x.kind=1∧y=x)∨(∃x∈l,x.kind=1∧ ∃c',y=flA S x c'∧ ∀d∈(flT.flTs S x.at_.args c').2.2,d∈dfL S l c)∨ ∃d∈dfL S l c,y=Vk d
 |[],_,h=>by cases h
 |x::r,c,h=>by
  simp only[flL]at h;rcases Qg.1 h with h|h
  ·by_cases hk:x.kind=1
   ·rw[Jp hk]at h;rcases Qk.1 h with rfl|h
    ·exact .inr (.inl ⟨x,sm,hk,c,rfl,fun d hd=>by simp only[dfL];exact Qx _ (by rw[dfX,if_pos hk];exact hd)⟩)
    ·obtain⟨d,hd,rfl⟩:=Qi.1 h;exact .inr (.inr ⟨d,by simp only[dfL];exact Qx _ hd,rfl⟩)
   ·rw[(VZ (S:=S) (c:=c) hk).1]at h;simp only[Ql]at h;exact .inl ⟨x,sm,hk,h⟩
  ·rcases Zfn h with⟨z,hz,h⟩|⟨z,hz,hk,c',e,h⟩|⟨d,hd,h⟩
   ·exact .inl ⟨z,by simp[hz],h⟩
   ·exact .inr (.inl ⟨z,by simp[hz],hk,c',e,fun d hd=>by simp only[dfL];exact QB _ (h d hd)⟩)
   ·exact .inr (.inr ⟨d,by simp only[dfL];exact QB _ hd,h⟩)
def Zda{S:List (List UInt8)}:∀{l:List Lt} {c:Nat},(∀x∈l,¬x.kind=1→x∈flL S l c)∧(∀x∈l,x.kind=1→ ∃c',flA S x c'∈flL S l c)∧ ∀d∈dfL S l c,Vk d∈flL S l c
 |[],_=>⟨fun x h=>(by cases h),fun x h=>(by cases h),fun d h=>(by cases h)⟩
 |x::r,c=>by
  obtain⟨a1,a2,a3⟩:=Zda (S:=S) (l:=r) (c:=(flX S x c).2);simp only[flL,dfL];refine⟨fun z hz hk=>?_,fun z hz hk=>?_,fun d hd=>?_⟩
  ·rcases Qk.1 hz with rfl|hz
   ·exact Qx _ (by rw[(VZ (S:=S) (c:=c) hk).1];simp)
   ·exact QB _ (a1 z hz hk)
  ·rcases Qk.1 hz with rfl|hz
   ·exact⟨c,Qx _ (by rw[Jp hk];exact QaS)⟩
   ·obtain⟨c',h⟩:=a2 z hz hk;exact⟨c',QB _ h⟩
  ·rcases Qg.1 hd with hd|hd
   ·refine Qx _ ?_;by_cases hk:x.kind=1
    ·rw[Jp hk];exact Qy _ (Qi.2 ⟨d,hd,rfl⟩)
    ·rw[(VZ (S:=S) (c:=c) hk).2]at hd;cases hd
   ·exact QB _ (a3 d hd)
def Zfd{S:List (List UInt8)}:∀{l:List Lt} {c:Nat},∀d∈dfL S l c,(d.2.kind=5∨d.2.kind=6)∧ ∀n∈nmT d.2,n∈l.flatMap ZE
 |[],_,d,hd=>by cases hd
 |x::r,c,d,hd=>by
  simp only[dfL]at hd;rcases Qg.1 hd with hd|hd
  ·unfold dfX at hd;split at hd
   ·rename_i hk;refine⟨(ZqD S).2 _ c d hd,fun n hn=>?_⟩;rw[QM];refine Qx _ ?_;rw[Ya,if_neg om];exact(Zlw S).2 _ c d hd n hn
   ·cases hd
  ·obtain⟨a,b⟩:=Zfd d hd;exact⟨a,fun n hn=>by rw[QM];exact QB _ (b n hn)⟩
def Zmt{P:List UInt8→Prop}{F:List Lt}(hstep:∀s y S,y∈F→Vu s y→Ready S s→(∀n∈S,P n)→ ∀n∈varS s,P n):∀{p:List Stp} {T:List Lt} {S:List (List UInt8)},Fa2 Vu p T→(∀y∈T,y∈F)→Rdy S p→(∀n∈S,P n)→ ∀n∈p.flatMap varS,P n
 |_,_,_,.nil,_,_,_,n,hn=>by simp at hn
 |_,_,S,.cons (a:=s) h t,hT,hr,hS,n,hn=>by
  have h1:=hstep _ _ S (hT _ sm) h hr.1 hS;rw[QM]at hn;rcases Qg.1 hn with hn|hn
  ·exact h1 n hn
  ·exact Zmt hstep t (fun y hy=>hT y (by simp[hy])) hr.2 (fun m hm=>by rcases Qg.1 hm with hm|hm;all_goals first|exact hS m hm|exact h1 m hm) n hn
section
variable {S:List (List UInt8)}
def Za1{x:Lt}(hk:x.kind=2)(hop:x.op=1):(x.L.kind=3→(∀n∈nmT x.R,n∈S)→YZ S x≠none)∧(x.R.kind=3→(∀n∈nmT x.L,n∈S)→YZ S x≠none):=by
 unfold YZ;rw[if_pos hk];refine⟨fun h3 hr=>?_,fun h3 hl=>?_⟩
 ·split
  ·simp
  ·rw[if_pos ⟨hop,Wy.2 hr,h3⟩];simp
 ·split
  ·simp
  ·split
   ·simp
   ·rw[if_pos ⟨hop,Wy.2 hl,h3⟩];simp
def ZlQ{x:Lt}(hk:x.kind=2)(h:∀n∈ZE x,n∈S):YZ S x≠none:=by
 unfold YZ;have h':∀n,n∈nmT x.L∨n∈nmT x.R→n∈S:=fun n hn=>h n (by rw[Ya,if_pos hk];exact hn)
 rw[if_pos hk,if_pos]
 ·simp
 ·rw[Qh,Wy,Wy];exact⟨fun n hn=>h' n (.inl hn),fun n hn=>h' n (.inr hn)⟩
def Zow{l:List Lt}{b:Bnd}(ho:∀x∈l,okX x)(hk:∀x∈l,x.kind=1∨x.kind=2):(VH (Zo b) (XR l (ZN l b)))≠none↔Safe (Zo b) l:=by
 let S:=ZN l b++l.flatMap fun x=>(Yw x).flatMap Z8
 have hF:XR l (ZN l b)=flL S l 0:=rfl;rw[hF];have hoF:∀y∈flL S l 0,okX y:=Zf7 0 ho;have hnew:∀d∈dfL S l 0,∀n,n∈l.flatMap ZE∨n∈Zo b→ ¬n=newV d.1:=fun d hd n hn e=>by
  refine(ZmR S l 0 d hd).2 ?_;rw[←e];refine Qx _ ?_;rcases hn with hn|hn
  all_goals first|exact Qx _ hn|exact QB _ hn
 have hvar:∀x∈l,∀n∈ZE x,n∈l.flatMap ZE:=fun x hx n hn=>Qw.2 ⟨x,hx,hn⟩
 obtain⟨T,a1,a2,a3,a4,a5⟩:=plan_spec (flL S l 0).length (Zo b) (flL S l 0) hoF;have hnone:=a5 (Qe _);simp only[WZ,Qbt]at hnone;have n1:=ZbS hnone.1;have n2:=ZbS hnone.2;constructor
 ·intro h n hn;cases hp:VH (Zo b) (flL S l 0)with
  |none=>exact absurd hp h
  |some p=>
   obtain⟨m1,m2,_⟩:=Zed hoF hp;have hpe:p=(planF (flL S l 0).length (Zo b) (flL S l 0)).1:=by
    unfold VH at hp;simp only at hp;split at hp
    ·cases hp;rfl
    ·cases hp
   have hall:=Zmt (F:=flL S l 0) (P:=fun n=>Rch (Zo b) l n∨ ∃d∈dfL S l 0,n=newV d.1) (fun s y S' hy hm hr hS' n hn=>?_) (hpe▸a2) (fun y hy=>a1.mem_iff.2 (Qx _ hy)) m1 fun n hn=>.inl (.base hn)
   ·have:n∈Zo b∨n∈p.flatMap varS:=(m2 n).2 (.inr ((Zbo S l 0 n).2 (.inl hn)));rcases this with h|h
    ·exact .base h
    ·rcases hall n h with h|⟨d,hd,e⟩
     ·exact h
     ·exact absurd e (hnew d hd n (.inl hn))
   ·have hR:∀n∈S',n∈l.flatMap ZE→Rch (Zo b) l n:=fun n hn hl=>by
     rcases hS' n hn with h|⟨d,hd,e⟩
     ·exact h
     ·exact absurd e (hnew d hd n (.inl hl))
    cases s with
    |test z=>exact hS' n (hr n hn)
    |bind m t=>
     obtain⟨hk2,hop,hm⟩:=hm;rcases Qk.1 hn with rfl|hn
     ·rcases Zfn hy with⟨x,hx,hk1,rfl⟩|⟨x,hx,hk1,c',rfl,_⟩|⟨d,hd,rfl⟩
      ·rcases hm with⟨h3,rfl,rfl⟩|⟨h3,rfl,rfl⟩
       ·refine .inl (.left y hx hk2 hop h3 (fun m hm=>hR m (hr.2 m hm) (hvar y hx m ?_)) ?_)
        ·rw[Ya,if_pos hk2];exact .inr hm
        ·rw[JV h3 ((ho y hx).1 hk2).1];simp
       ·refine .inl (.right y hx hk2 hop h3 (fun m hm=>hR m (hr.2 m hm) (hvar y hx m ?_)) ?_)
        ·rw[Ya,if_pos hk2];exact .inl hm
        ·rw[JV h3 ((ho y hx).1 hk2).2];simp
      ·simp only[flA]at hk2;omega
      ·rcases hm with⟨h3,rfl,rfl⟩|⟨h3,rfl,rfl⟩
       ·exact .inr ⟨d,hd,rfl⟩
       ·have:=(Zfd d hd).1;simp only[Vk]at h3;omega
     ·exact hS' n (hr.2 n hn)
    |atom a=>
     obtain⟨hk1,hneg,rfl⟩:=hm;rcases Zfn hy with⟨x,hx,hk',rfl⟩|⟨x,hx,hkx,c',rfl,hds⟩|⟨d,hd,rfl⟩
     ·exact absurd hk1 hk'
     ·rcases((Zh6 S).2 x.at_.args c' n).1 hn with h|⟨d,hd,e⟩
      ·exact .inl (.atom x hx hkx hneg h)
      ·exact .inr ⟨d,hds d hd,e⟩
     ·cases hk1
 ·intro hs;have hin:∀n,Rch (Zo b) l n→n∈(planF (flL S l 0).length (Zo b) (flL S l 0)).2.1:=by
   have htake:∀y∈flL S l 0,(YZ (planF (flL S l 0).length (Zo b) (flL S l 0)).2.1 y≠none∨JE y≠none)→ ∀n∈ZE y,n∈(planF (flL S l 0).length (Zo b) (flL S l 0)).2.1:=fun y hy h n hn=>by
    rcases Qg.1 (a1.mem_iff.1 hy)with hT|hr
    ·exact(a4 n).2 (.inr (Qw.2 ⟨y,hT,hn⟩))
    ·rcases h with h|h
     ·exact absurd (n1 y hr) h
     ·exact absurd (n2 y hr) h
   intro n h;induction h with
   |base h=>exact(a4 _).2 (.inl h)
   |atom x hx hkx hneg h=>
    obtain⟨c',hy⟩:=(Zda (S:=S) (l:=l) (c:=0)).2.1 x hx hkx;refine htake _ hy (.inr ?_) _ ?_
    ·simp[JE,flA,hkx,hneg]
    ·rw[Ya,if_neg (show¬(flA S x c').kind=2 by simp only[flA];omega)];exact((Zh6 S).2 x.at_.args c' _).2 (.inl h)
   |left x hx hk2 hop h3 _ h ih=>
    refine htake x ((Zda (S:=S) (l:=l) (c:=0)).1 x hx om) (.inl ((Za1 hk2 hop).1 h3 ih)) _ ?_;rw[Ya,if_pos hk2];exact .inl h
   |right x hx hk2 hop h3 _ h ih=>
    refine htake x ((Zda (S:=S) (l:=l) (c:=0)).1 x hx om) (.inl ((Za1 hk2 hop).2 h3 ih)) _ ?_;rw[Ya,if_pos hk2];exact .inr h
  have hl:∀n∈l.flatMap ZE,n∈(planF (flL S l 0).length (Zo b) (flL S l 0)).2.1:=fun n hn=>hin n (hs n hn)
  have hdef:∀d∈dfL S l 0,newV d.1∈(planF (flL S l 0).length (Zo b) (flL S l 0)).2.1:=fun d hd=>by
   have hy:=(Zda (S:=S) (l:=l) (c:=0)).2.2 d hd;rcases Qg.1 (a1.mem_iff.1 hy)with hT|hr
   ·exact(a4 _).2 (.inr (Qw.2 ⟨_,hT,Zgj.2 (.inl rfl)⟩))
   ·exact absurd (n1 _ hr) ((Za1 rfl rfl).1 rfl fun n hn=>hl n ((Zfd d hd).2 n hn))
  unfold VH;simp only;rw[if_pos]
  ·simp
  ·rw[QA];intro y hr;have hy:y∈flL S l 0:=a1.mem_iff.2 (QB _ hr);rcases Zfn hy with⟨x,hx,hk',rfl⟩|⟨x,hx,hkx,c',rfl,hds⟩|⟨d,hd,rfl⟩
   ·have hk2:y.kind=2:=by rcases hk y hx with h|h;all_goals first|exact absurd h hk'|exact h
    exact absurd (n1 y hr) (ZlQ hk2 fun n hn=>hl n (hvar y hx n hn))
   ·have hk2:¬(flA S x c').kind=2:=by simp only[flA];omega
    simp only[XW,Qh,GU,beq_eq_false_iff_ne,Zbs];refine⟨hk2,fun n hn=>?_⟩;rw[Ya,if_neg hk2]at hn;rcases((Zh6 S).2 x.at_.args c' n).1 hn with h|⟨d,hd,e⟩
    ·exact hl n (hvar x hx n (by rw[Ya,if_neg om];exact bare_sub.2 _ n h))
    ·rw[e];exact hdef d (hds d hd)
   ·exact absurd (n1 _ hr) ((Za1 rfl rfl).1 rfl fun n hn=>hl n ((Zfd d hd).2 n hn))
end
theorem plains_eq:∀l:List Tm,plainT.plains l=l.map plainT
 |[]=>rfl
 |t::r=>by rw[plainT.plains,plains_eq r];rfl
theorem plain_okV:(∀t:Tm,(plainT t).all shape=true→t.all okV=true)∧ ∀l:List Tm,(∀u∈plainT.plains l,u.all shape=true)→ ∀u∈l,u.all okV=true:=by
 refine X4 (fun k n s l ih h=>?_) (fun _ u hu=>by cases hu) fun t r h1 h2 h u hu=>?_
 ·rw[plainT]at h;have h0:=Y1 h;rw[Tm.all_eq,Qh,Tm.VT,QA]at h⊢;refine⟨?_,ih h.2⟩;by_cases hk:k=3
  ·subst hk;simp only[okV,Tm.kind,Tm.args,Tm.name];simp[shape,nargs,named,Tm.kind,Tm.args,Tm.name,Tm.num,plains_eq]at h0;obtain⟨⟨⟨_,hs⟩,_⟩,hl⟩:=h0;have hl:l=[]:=by cases l with
    |nil=>rfl
    |cons _ _=>simp at hl
   subst hl;cases s with
   |nil=>simp at hs
   |cons b r=>rfl
  ·simp[okV,Tm.kind,hk]
 ·simp only[plainT.plains]at h;rcases Qk.1 hu with rfl|hu
  ·exact h1 (h _ sm)
  ·exact h2 (fun w hw=>h w (by simp[hw])) u hu
def ZcD{t:Tm}(h:Zae t=true):t.all okV=true:=by
 simp only[Zae,Xw,Qh]at h;exact plain_okV.1 t h.2
def Zb5{x:Lt}(h:Y5 x=true):okX x∧(x.kind=1∨x.kind=2):=by
 unfold Y5 at h;split at h
 ·rename_i hk;simp only[Qh,QA]at h;exact⟨⟨fun e=>by omega,fun _ u hu=>ZcD (h.2 u hu)⟩,.inl hk⟩
 ·split at h
  ·rename_i hk;simp only[Qh]at h;exact⟨⟨fun _=>⟨ZcD h.1.2,ZcD h.2⟩,fun e=>by omega⟩,.inr hk⟩
  ·cases h
def validB_good:∀{b:Bnd},validB b=true→ZO b
 |[],_=>⟨List.Pairwise.nil,fun q hq=>by cases hq⟩
 |[p],h=>⟨by simp[V3],fun q hq=>by simp only[Ql]at hq;subst hq;exact h⟩
 |p::q::r,h=>by
  simp only[validB,Qh,decide_eq_true_eq]at h;obtain⟨a,v⟩:=validB_good (b:=q::r) h.2;refine⟨UA.2 ⟨fun y hy=>?_,a⟩,fun y hy=>?_⟩
  ·rcases Qk.1 hy with rfl|hy
   ·exact h.1.2
   ·exact serN.trans (y:=q.1) trivial trivial trivial h.1.2 ((UA.1 a).1 y hy)
  ·rcases Qk.1 hy with rfl|hy
   all_goals first|exact h.1.1|exact v y hy
theorem good_validB:∀{b:Bnd},ZO b→validB b=true
 |[],_=>rfl
 |[p],h=>h.val p sm
 |p::q::r,h=>by
  simp only[validB,Qh,decide_eq_true_eq];have a:=UA.1 h.asc;exact⟨⟨h.val p sm,a.1 q sm⟩,good_validB ⟨a.2,fun y hy=>h.val y (by simp[hy])⟩⟩
def Er(e:Int):Prop:=e=0∨e=3∨e=5
def Zlr(t:Tm)(b:Bnd):Er (YP t b).2:=by
 unfold YP Er;split
 ·split<;>simp
 ·simp
def ZqB(A:List Am)(s:Stp)(b:Bnd):Er (stepS A s b).2:=by
 cases s with
 |test x=>
  simp only[stepS,V6];have:=Zlr x.L b;have:=Zlr x.R b;split
  ·simp only[V4];split<;>assumption
  ·exact .inl rfl
 |bind n t=>exact Zlr t b
 |atom a=>exact .inl rfl
def ZsT{f:Bnd→List Bnd×Int}(h:∀b,Er (f b).2)(now:List Bnd):Er (Xk f now).2:=by
 have:∀(now:List Bnd) (p:List Bnd×Int),Er p.2→Er (now.foldl (fun p b=>Wn p (f b)) p).2:=by
  intro now;induction now with
  |nil=>intro p hp;exact hp
  |cons b now ih=>
   intro p hp;refine ih _ ?_;simp only[Wn];split
   ·exact h b
   ·exact hp
 simp only[Xk];split
 ·exact .inr (.inr rfl)
 ·exact this now _ (.inl rfl)
def ZpR(A:List Am):∀(p:List Stp) (now:List Bnd),Er (WT A p now).2
 |[],_=>.inl rfl
 |s::p,now=>by
  simp only[WT];split
  ·exact ZpR A p _
  ·exact ZsT (ZqB A s) now
def WL{A:List Am}(hA:∀a∈A,Yn a=true)(l:List Lt)(b:Bnd):
  (¬(l.all Y5=true∧validB b=true)∧ZQ A l b=([],2))∨
  (l.all Y5=true∧validB b=true∧ ¬Safe (Zo b) l∧ZQ A l b=([],120))∨
  (l.all Y5=true∧validB b=true∧Safe (Zo b) l∧((∃e,(e=3∨e=5)∧ZQ A l b=([],e))∨
   ∃r,ZQ A l b=(r,0)∧r.Pairwise (fun x y=>YJ x y<0)∧ ∀σ,σ∈r↔Sol A l b σ)):=by
 by_cases hv:l.all Y5=true∧validB b=true
 ·have ho:∀x∈l,okX x:=fun x hx=>(Zb5 (QA.1 hv.1 x hx)).1
  have hk:∀x∈l,x.kind=1∨x.kind=2:=fun x hx=>(Zb5 (QA.1 hv.1 x hx)).2
  have hb:=validB_good hv.2;have hs:=Zow (b:=b) ho hk;have hj:ZQ A l b=match VH (Zo b) (XR l (ZN l b))with
   |none=>([],eUnsafe)
   |some p=>if(WT A p [b]).2=0 then(XI YJ ((WT A p [b]).1.map (Vj (ZN l b))),0)else([],(WT A p [b]).2):=by
   unfold ZQ;rw[hv.1,hv.2];rfl
  cases hp:VH (Zo b) (XR l (ZN l b))with
  |none=>
   rw[hp]at hs hj;exact .inr (.inl ⟨hv.1,hv.2,fun h=>hs.2 h rfl,hj⟩)
  |some p=>
   rw[hp]at hj;refine .inr (.inr ⟨hv.1,hv.2,hs.1 (by rw[hp];simp),?_⟩);simp only at hj;have he:=ZpR A p [b];by_cases h0:(WT A p [b]).2=0
   ·rw[if_pos h0]at hj;have:=Zoq hA ho hb hp (out:=(WT A p [b]).1) (by rw[←h0]);exact .inr ⟨_,hj,this.1,this.2⟩
   ·rw[if_neg h0]at hj;refine .inl ⟨_,?_,hj⟩;rcases he with h|h|h
    all_goals first|exact absurd h h0|exact .inl h|exact .inr h
 ·refine .inl ⟨hv,?_⟩;unfold ZQ;rw[if_neg];rw[Qh];exact hv
def Zns{b c:Bnd}:(∀t v,(∀n∈nmT t,Zv n b=Zv n c)→(VJ b t v↔VJ c t v))∧ ∀l q,(∀n∈nmT.nms l,Zv n b=Zv n c)→(VJ.covs b l q↔VJ.covs c l q):=by
 refine X4 (fun k n s l ih v h=>?_) (fun q _=>by simp[VJ.covs]) fun t r h1 h2 q h=>?_
 ·rw[VJ,VJ,Y9 (.mk k n s l) h];by_cases hk:k=3
  ·subst hk;simp only[h s Zf0,if_true]
  ·rw[if_neg hk,if_neg hk,ih v.args fun m hm=>h m (by rw[nmT];exact QB _ hm)]
 ·cases q with
  |nil=>simp[VJ.covs]
  |cons v q=>
   simp only[nmT.nms,Qg]at h;simp only[VJ.covs,h1 v fun m hm=>h m (.inl hm),h2 q fun m hm=>h m (.inr hm)]
section
variable {A:List Am}
def ZfX{b c:Bnd}{x:Lt}(h:∀n∈ZE x,Zv n b=Zv n c):Zg7 A b x↔Zg7 A c x:=by
 unfold Zg7;by_cases h2:x.kind=2
 ·have h':∀n,n∈nmT x.L∨n∈nmT x.R→Zv n b=Zv n c:=fun n hn=>h n (by rw[Ya,if_pos h2];exact hn)
  rw[if_pos h2,if_pos h2,Y9 x.L fun n hn=>h' n (.inl hn),Y9 x.R fun n hn=>h' n (.inr hn)]
 ·have h':∀n∈nmT.nms x.at_.args,Zv n b=Zv n c:=fun n hn=>h n (by rw[Ya,if_neg h2];exact hn)
  simp only[if_neg h2,(Zns (b:=b) (c:=c)).2 x.at_.args _ h']
variable {l m:List Lt} {S:List (List UInt8)}
def ZpU{T:List (List UInt8)}(hl:∀x∈l,x∈m)(hS:∀n∈S,n∈T){n:List UInt8}(h:Rch S l n):Rch T m n:=by
 induction h with
 |base h=>exact .base (hS _ h)
 |atom x hx h1 h2 h=>exact .atom x (hl x hx) h1 h2 h
 |left x hx h1 h2 h3 _ h ih=>exact .left x (hl x hx) h1 h2 h3 ih h
 |right x hx h1 h2 h3 _ h ih=>exact .right x (hl x hx) h1 h2 h3 ih h
def ZlD(h:Safe S (l++m)):Safe (S++l.flatMap ZE) m:=by
 have hr:∀n,Rch S (l++m) n→Rch (S++l.flatMap ZE) m n:=by
  intro n h;induction h with
  |base h=>exact .base (Qx _ h)
  |atom x hx h1 h2 h=>
   rcases Qg.1 hx with hx|hx
   ·refine .base (QB _ (Qw.2 ⟨x,hx,?_⟩));rw[Ya,if_neg om];exact bare_sub.2 _ _ h
   ·exact .atom x hx h1 h2 h
  |left x hx h1 h2 h3 _ h ih=>
   rcases Qg.1 hx with hx|hx
   ·refine .base (QB _ (Qw.2 ⟨x,hx,?_⟩));rw[Ya,if_pos h1];exact .inl h
   ·exact .left x hx h1 h2 h3 ih h
  |right x hx h1 h2 h3 _ h ih=>
   rcases Qg.1 hx with hx|hx
   ·refine .base (QB _ (Qw.2 ⟨x,hx,?_⟩));rw[Ya,if_pos h1];exact .inr h
   ·exact .right x hx h1 h2 h3 ih h
 exact fun n hn=>hr n (h n (by rw[Uc];exact QB _ hn))
def Zhn{σ:Bnd}:Sol A (l++m) [] σ↔ ∃β,Sol A l [] β∧Sol A m β σ:=by
 have hk:∀(l:List Lt) n,n∈ZN l []↔n∈l.flatMap ZE:=fun l n=>by simp[ZN,Zo]
 constructor
 ·rintro⟨⟨g,d⟩,_,s⟩;have hres:∀n,n∈Zo (Vj (l.flatMap ZE) σ)↔n∈l.flatMap ZE:=fun n=>by
   rw[Zbg];exact⟨fun h=>h.1,fun h=>⟨h,(d n).2 ((hk _ n).2 (by rw[Uc];exact Qx _ h))⟩⟩
  refine⟨Vj (l.flatMap ZE) σ,⟨⟨g.filter _,fun n=>by rw[hres,hk]⟩,fun n v h=>(by cases h),fun x hx=>?_⟩,⟨g,fun n=>?_⟩,Zc2 _ _,fun x hx=>s x (QB _ hx)⟩
  ·exact(ZfX fun n hn=>XB (Zc2 _ _) ((hres n).2 (Qw.2 ⟨x,hx,hn⟩))).2 (s x (Qx _ hx))
  ·rw[d,hk,Uc,ZN,Qg,Qg,hres,or_comm]
 ·rintro⟨β,⟨⟨g1,d1⟩,_,s1⟩,⟨g2,d2⟩,x2,s2⟩;refine⟨⟨g2,fun n=>?_⟩,fun n v h=>(by cases h),fun x hx=>?_⟩
  ·rw[d2,hk,Uc,ZN,Qg,Qg,d1,hk,or_comm]
  ·rcases Qg.1 hx with hx|hx
   ·exact(ZfX fun n hn=>XB x2 ((d1 n).2 ((hk _ n).2 (Qw.2 ⟨x,hx,hn⟩)))).1 (s1 x hx)
   ·exact s2 x hx
def ZpA{β γ σ:Bnd}(hβ:Sol A l [] β)(hγ:Sol A l [] γ)(h1:YD β σ)(h2:YD γ σ):β=γ:=by
 refine bnd_ext hβ.1.1.asc hγ.1.1.asc fun n=>?_
 by_cases h:n∈ZN l []
 ·rw[XB h1 ((hβ.1.2 n).2 h),XB h2 ((hγ.1.2 n).2 h)]
 ·rw[XK.2 fun e=>h ((hβ.1.2 n).1 e),XK.2 fun e=>h ((hγ.1.2 n).1 e)]
def ZpI{α:Type}{p q:List α}(hp:p.Nodup)(hq:q.Nodup)(h:∀x,x∈p↔x∈q):p.length=q.length:=by
 letI:DecidableEq α:=fun a b=>Classical.propDecidable (a=b)
 exact Nat.le_antisymm (YL hp fun x hx=>(h x).1 hx) (YL hq fun x hx=>(h x).2 hx)
def Zel{K:List (List UInt8)}{r:List Bnd}(hG:∀x∈r,XO K x)(h:r.Pairwise fun x y=>YJ x y<0):r.Nodup:=by
 refine Qba (fun{a b} ha _ hab e=>?_) h;subst e;rw[(Zrn K).self (hG a ha)]at hab;omega
def ZnF{W F:List Bnd}{G:Bnd→List Bnd}(hW:W.Pairwise fun x y=>YJ x y<0)(hWm:∀σ,σ∈W↔Sol A (l++m) [] σ)
  (hF:F.Pairwise fun x y=>YJ x y<0) (hFm:∀σ,σ∈F↔Sol A l [] σ) (hG:∀β∈F,(G β).Pairwise (fun x y=>YJ x y<0)∧ ∀σ,σ∈G β↔Sol A m β σ):
  (F.flatMap G).length=W.length:=by
 refine ZpI ?_ (Zel (K:=ZN (l++m) []) (fun x hx=>((hWm x).1 hx).1) hW) fun σ=>?_
 ·have hFn:F.Nodup:=Zel (K:=ZN l []) (fun x hx=>((hFm x).1 hx).1) hF;have:∀P:List Bnd,(∀β∈P,β∈F)→P.Nodup→(P.flatMap G).Nodup:=by
   intro P;induction P with
   |nil=>intro _ _;exact Gz
   |cons β P ih=>
    intro hP hn;rw[MZ]at hn;rw[QM,Gn];have hβ:=hP β sm;refine⟨Zel (K:=ZN m β) (fun x hx=>(((hG β hβ).2 x).1 hx).1) (hG β hβ).1,ih (fun y hy=>hP y (by simp[hy])) hn.2,fun x hx y hy e=>?_⟩;subst e;obtain⟨γ,hγ,hy⟩:=Qw.1 hy;have hγF:=hP γ (by simp[hγ]);have:=ZpA ((hFm β).1 hβ) ((hFm γ).1 hγF) (((hG β hβ).2 x).1 hx).2.1 (((hG γ hγF).2 x).1 hy).2.1;subst this;exact hn.1 hγ
  exact this F (fun _ h=>h) hFn
 ·rw[Qw,hWm,Zhn];constructor
  ·rintro⟨β,hβ,h⟩;exact⟨β,(hFm β).1 hβ,((hG β hβ).2 σ).1 h⟩
  ·rintro⟨β,hβ,h⟩;exact⟨β,(hFm β).2 hβ,((hG β ((hFm β).2 hβ)).2 σ).2 h⟩
end
section
variable {t:Tm}
def Zrx(h:okv t=true):t.args.length≤8:=by
 rcases Vs h with h|h|h
 ·rw[h.2.2.2.2];simp
 ·rw[h.2.2.2];simp
 ·omega
def Zqu{K:Nat}:∀{l:List Tm},(∀u∈l,u.sz≤K)→Tm.sz.szs l≤l.length*K
 |[],_=>by simp[Tm.sz.szs]
 |t::r,h=>by
  have h1:=h t sm;have h2:=Zqu (l:=r) fun u hu=>h u (by simp[hu])
  simp only[Tm.sz.szs,Qo,QY,QaK];omega
def okv_size:∀(d:Nat) (t:Tm),t.all okv=true→dep t≤d→7*t.sz+1≤8^d
 |0,t,_,h=>absurd h (by have:=Zmu t;omega)
 |d+1,t,hv,h=>by
  have h1:∀u∈t.args,u.sz≤(8^d - 1) / 7:=fun u hu=>by
   have:=okv_size d u (Xj hv hu) (by have:=ZiA hu;omega);omega
  have h2:=Zqu h1;have h3:=Zrx (Y1 hv);have h4:t.args.length*((8^d - 1) / 7)≤8*((8^d - 1) / 7):=QE _ h3;have h5:1≤8^d:=Nat.pow_pos om;rw[Tm.Zhh,Nat.pow_succ];omega
def ZgL(h:Zr t=true):t.sz≤9817068105:=by
 have:=okv_size 12 t (Ji h) (ZhM h);omega
def Xx(h:Zr t=true):t.Good:=⟨by have:=ZgL h;omega,JA h⟩
def ZkF{b:Bnd}(hb:ZO b):∀t:Tm,(ZV b t).sz≤t.sz*9817068105
 | .mk k n s l=>by
  have h0:∀q:List Tm,(∀u∈q,u∈l)→Tm.sz.szs (q.map (ZV b))≤Tm.sz.szs q*9817068105:=by
   intro q;induction q with
   |nil=>intro _;simp[Tm.sz.szs]
   |cons u q ih=>
    intro hq;have h1:=ih fun v hv=>hq v (by simp[hv])
    have hu:u∈l:=hq u sm;have h2:=ZkF hb u;simp only[Qu,Tm.sz.szs];omega
  have hl:=h0 l fun _ h=>h
  rw[J6];cases e:(if k=3 then Zv s b else none)with
  |none=>simp only[Tm.sz];omega
  |some v=>
   have hv:Zv s b=some v:=by
    split at e
    ·exact e
    ·cases e
   have:=ZgL (hb.look hv);simp only[Tm.sz];omega
termination_by t=>SizeOf.sizeOf t
decreasing_by
 have:=QW hu;simp only[Tm.mk.sizeOf_spec];omega
def ZpK{b:Bnd}(hb:ZO b):∀t:Tm,t.Nm→(ZV b t).Nm
 | .mk k n s l,h=>by
  have h1:∀u∈l,(ZV b u).Nm:=fun u hu=>ZpK hb u (h.arg u hu)
  rw[J6];cases e:(if k=3 then Zv s b else none)with
  |none=>
   cases h with|mk _ _ _ _ h2 h3 h4 h5 h6=>
   exact .mk _ _ _ _ h2 h3 h4 (by simpa using h5) fun u hu=>by obtain⟨v,hv,rfl⟩:=Qi.1 hu;exact h1 v hv
  |some v=>
   have hv:Zv s b=some v:=by
    split at e
    ·exact e
    ·cases e
   exact JA (hb.look hv)
termination_by t=>SizeOf.sizeOf t
decreasing_by
 have:=QW hu;simp only[Tm.mk.sizeOf_spec];omega
def Zko{b:Bnd}(hb:ZO b)(h:t.Nm)(hs:t.sz≤305):(ZV b t).Good:=
 ⟨by have:=ZkF hb t;omega,ZpK hb t h⟩
end
def grT(t:Tm):Bool:=t.all fun u=>!(u.kind==3)
def ZcX(t:Tm):List Tm×Int:=if Xw t&&grT t then match expandS t with
  |some l=>(l,0)
  |none=>([],5)
 else([],2)
def Fa2.get{α β:Type}{R:α→β→Prop}:∀{p:List α} {q:List β},Fa2 R p q→ ∀i (h:i<p.length),∃h':i<q.length,R p[i] q[i]
 |_,_,.cons h t,0,_=>⟨sm,h⟩
 |_,_,.cons h t,i+1,hi=>by
  obtain⟨h',hr⟩:=t.get i (by simpa using hi);exact⟨by simpa using h',hr⟩
/-! JoinSorted. -/
structure Zb8 (b:Bnd) (r:List Bnd×Int):Prop where
 err:r.2=0∨r.1=[]
 good:∀σ∈r.1,ZO σ
 given:∀σ∈r.1,ZO b∧YD b σ
 dom:∀σ∈r.1,∀τ∈r.1,Zo σ=Zo τ
 asc:r.1.Pairwise fun x y=>YJ x y<0
def ZcW{A:List Am}(hA:∀a∈A,Yn a=true)(l:List Lt)(b:Bnd):Zb8 b (ZQ A l b):=by
 have nil:∀e,Zb8 b ([],e):=fun e=>⟨.inr rfl,fun _ h=>(by cases h),fun _ h=>(by cases h),fun _ h=>(by cases h),.nil⟩
 rcases WL hA l b with⟨_,h⟩|⟨_,_,_,h⟩|⟨_,hb,_,⟨e,_,h⟩|⟨r,h,hp,hm⟩⟩
 ·rw[h];exact nil _
 ·rw[h];exact nil _
 ·rw[h];exact nil _
 ·rw[h];refine⟨.inl rfl,fun σ hσ=>((hm σ).1 hσ).1.1,fun σ hσ=>⟨validB_good hb,((hm σ).1 hσ).2.1⟩,fun σ hσ τ hτ=>?_,hp⟩;have h1:=((hm σ).1 hσ).1;have h2:=((hm τ).1 hτ).1;exact Zik h1.1.asc h2.1.asc fun n=>by rw[h1.2,h2.2]
section
variable {r:List Bnd×Int}
def Zb8.len{b:Bnd}(h:Zb8 b r){σ τ:Bnd}(hs:σ∈r.1)(ht:τ∈r.1):σ.length=τ.length:=by
 have:=congrArg List.length (h.dom σ hs τ ht);simpa[Zo]using this
def Zb8.look{b:Bnd}(h:Zb8 b r){σ:Bnd}(hs:σ∈r.1){k:Nat}(hk:k<b.length):Zv b[k].1 σ=some b[k].2∧Zr b[k].2=true:=by
 obtain⟨g,x⟩:=h.given σ hs;exact⟨x _ _ (Zat g.asc (Qa hk)),g.val _ (Qa hk)⟩
/-! JoinMore. -/
/-! JoinSplit. -/
def ZjM{A:List Am}(hA:∀a∈A,Yn a=true)(l m:List Lt)(hw:(ZQ A (l++m) []).2=0)(hf:(ZQ A l []).2=0):
  (∀β∈(ZQ A l []).1,((ZQ A m β).2=0∨(ZQ A m β).2=3∨(ZQ A m β).2=5)∧ ∀σ∈(ZQ A m β).1,σ∈(ZQ A (l++m) []).1)∧
  ((∀β∈(ZQ A l []).1,(ZQ A m β).2=0)→((ZQ A l []).1.flatMap fun β=>(ZQ A m β).1).length=(ZQ A (l++m) []).1.length):=by
 have c1:=WL hA (l++m) [];have c2:=WL hA l [];rcases c1 with⟨_,h⟩|⟨_,_,_,h⟩|⟨hv,_,hsafe,⟨e,he,h⟩|⟨W,hW,hWp,hWm⟩⟩
 ·rw[h]at hw;cases hw
 ·rw[h]at hw;cases hw
 ·rw[h]at hw;simp only at hw;omega
 rcases c2 with⟨_,h⟩|⟨_,_,_,h⟩|⟨_,_,_,⟨e,he,h⟩|⟨F,hF,hFp,hFm⟩⟩
 ·rw[h]at hf;cases hf
 ·rw[h]at hf;cases hf
 ·rw[h]at hf;simp only at hf;omega
 rw[hW,hF];rw[List.all_append,Qh]at hv;have hsp:=ZlD hsafe;have key:∀β∈F,((ZQ A m β).2=0∨(ZQ A m β).2=3∨(ZQ A m β).2=5)∧(∀σ∈(ZQ A m β).1,Sol A m β σ)∧((ZQ A m β).2=0→(ZQ A m β).1.Pairwise (fun x y=>YJ x y<0)∧ ∀σ,σ∈(ZQ A m β).1↔Sol A m β σ):=by
  intro β hβ;have hsol:=(hFm β).1 hβ;have hsb:Safe (Zo β) m:=by
   intro n hn;have:=hsp n hn;refine ZpU (fun _ h=>h) (fun k hk=>?_) this;rw[hsol.1.2];unfold ZN;rcases Qg.1 hk with hk|hk
   ·cases hk
   ·exact Qx _ hk
  rcases WL hA m β with⟨h,_⟩|⟨_,_,h,_⟩|⟨_,_,_,⟨e,he,h⟩|⟨r,h,h1,h2⟩⟩
  ·exact absurd ⟨hv.2,good_validB hsol.1.1⟩ h
  ·exact absurd hsb h
  ·rw[h];exact⟨.inr he,fun _ h=>(by cases h),fun h=>by simp only at h;omega⟩
  ·rw[h];exact⟨.inl rfl,fun σ hσ=>(h2 σ).1 hσ,fun _=>⟨h1,h2⟩⟩
 refine⟨fun β hβ=>⟨(key β hβ).1,fun σ hσ=>(hWm σ).2 (Zhn.2 ⟨β,(hFm β).1 hβ,(key β hβ).2.1 σ hσ⟩)⟩,fun h0=>?_⟩;exact ZnF (G:=fun β=>(ZQ A m β).1) hWp hWm hFp hFm fun β hβ=>(key β hβ).2.2 (h0 β hβ)
/-! JoinAll. -/
end
def vX:Tm:=.mk 3 0 [88] []
def vY:Tm:=.mk 3 0 [89] []
def vZ:Tm:=.mk 3 0 [90] []
def Zbt(a b:Tm):Tm:=.mk 5 0 [43] [a,b]
def zT:Tm:=.mk 0 0 [] []
def Zgr(l:List Tm):Lt:=⟨1,false,⟨[112],l⟩,0,zT,zT⟩
def ZfG(o:Int)(a b:Tm):Lt:=⟨2,false,⟨[],[]⟩,o,a,b⟩
def exA:List Am:=[⟨[112],[Yf 1,Yf 2]⟩,⟨[112],[Yf 2,Yf 3]⟩,⟨[112],[Yf 3,Yf 5]⟩]
theorem aw1:ZQ exA [Zgr [vX,Zbt vZ (Yf 1)]] []=([],120):=by kernel_rfl
theorem aw2:ZQ exA [Zgr [vX,vY],Zgr [vY,vZ]] []=([[([88],Yf 1),([89],Yf 2),([90],Yf 3)],[([88],Yf 2),([89],Yf 3),([90],Yf 5)]],0):=by kernel_rfl
theorem aw3:ZQ exA [Zgr [vX,Zbt vX (Yf 1)],ZfG 1 vY (.mk 6 0 [] [Yf 1,vX]),ZfG 2 vY (Yf 2)] []=([[([88],Yf 1),([89],Yf 1)],[([88],Yf 2),([89],Yf 1)]],0):=by kernel_rfl
theorem aw4:XR [Zgr [vX,Zbt vX (Yf 1)]] []=[Zgr [vX,.mk 3 0 [35,49] []],ZfG 1 (.mk 3 0 [35,49] []) (Zbt vX (Yf 1))]:=by kernel_rfl

def YA(n:Nat)(m:Int):Int:=if(n:Int)≤m then n else m+1
def Zf3(l:List Tm)(i:Nat)(h:i<l.length):Tm.sz.szs (l.take (i+1))=Tm.sz.szs (l.take i)+l[i].sz:=by
 have:∀p q:List Tm,Tm.sz.szs (p++q)=Tm.sz.szs p+Tm.sz.szs q:=by
  intro p q;induction p with
  |nil=>simp[Tm.sz.szs]
  |cons x p ih=>simp only[Q9,Tm.sz.szs,ih];omega
 rw[Qn h,this];simp[Tm.sz.szs]
def ZbD(l:List Tm)(i:Nat):Tm.sz.szs (l.take i)≤Tm.sz.szs l:=by
 have:∀p q:List Tm,Tm.sz.szs (p++q)=Tm.sz.szs p+Tm.sz.szs q:=by
  intro p q;induction p with
  |nil=>simp[Tm.sz.szs]
  |cons x p ih=>simp only[Q9,Tm.sz.szs,ih];omega
 have h:=this (l.take i) (l.drop i);rw[QZ]at h;omega
def Zur(l:List Tm)(m:Int)(H:Za)(i:Nat):Zb:=
 ⟨[(6,.int .i64 i),(5,.int .i64 (YA (Tm.sz.szs (l.take i)) m)),(0,.sl 4 (l.map Tm.enc) .any),(1,.int .i64 m)],[],H⟩
def a39(l:List Tm)(m:Int)(h0:-1≤m)(h1:m≤1000000)(hc:∀t∈l,∀m:Int,0≤m→m≤1000000→Pure prog 33 [t.enc,.int .i64 m] (.int .i64 (YA t.sz m))):Pure prog 74 [.sl 4 (l.map Tm.enc) .any,.int .i64 m] (.int .i64 (YA (Tm.sz.szs l) m)):=by
 intro n H;refine aF func74 fun B=>?_
 refine gz ?_;refine Zt (Zur l m H) l.length rfl ?_ ?_
 ·apply kZ;repeat' first|apply q0|exact xx|apply aI
  simp only[Qaz,Tm.sz.szs,YA,lkv];refine aS ?_;split
  ·exact .refl _
  ·rw[(by omega:m+1=0)];exact .refl _
 intro i hi;refine Yc rfl ?_;rcases Qj i l.length with h|h
 ·rcases Qay m (Tm.sz.szs (l.take i))with h2|h2
  ·have e:YA (Tm.sz.szs (l.take i)) m=m+1:=by rw[YA,if_neg om]
   have hle:decide (m+1≤m)=false:=by rw[decide_eq_false_iff_not];omega
   refine nq3 h e hle ?_;refine gt ?_;refine Zc ?_ (.int _ _) rfl;have:=ZbD l i;rw[YA,if_neg om];refine aq e ?_;exact .refl _
  ·have e:YA (Tm.sz.szs (l.take i)) m=(Tm.sz.szs (l.take i):Int):=by rw[YA,if_pos h2]
   have hlen:=Tm.sz_len (l.take i);rw[Ut hi]at hlen;have hw:IntKind.i64.wrap (m - (Tm.sz.szs (l.take i):Int))=m - (Tm.sz.szs (l.take i):Int):=iw;refine nq3 h e h2 ?_;refine nT ?_;refine nq4 (Tm.Zp _ _ h) h e hw ?_;refine VK (Zf func33 rfl rfl) (hc l[i] (Qa h) (m - (Tm.sz.szs (l.take i):Int)) om om) (by simp only[go_sem,simprocAttr,hw]) ?_;refine aq hw ?_;refine gd ?_;have hn:(Tm.sz.szs (l.take i):Int)+YA l[i].sz (m - (Tm.sz.szs (l.take i):Int))=YA (Tm.sz.szs (l.take (i+1))) m:=by
    rw[Zf3 l i h];unfold YA;split<;>split<;>omega
   have hb:YA (Tm.sz.szs (l.take (i+1))) m≤m+1∧0≤YA (Tm.sz.szs (l.take (i+1))) m:=by unfold YA;split<;>omega
   apply kZ;repeat' first|apply q0|exact xx|apply aI
   ·refine aS ?_;rw[iw];exact .refl _
   ·refine aS ?_;rw[hn,iw];exact .refl _
 ·refine nq (QI.2 h) ?_;refine gg ?_;have hi':i=l.length:=om;subst hi';refine gE ?_;exact Zc (.refl _) (.int _ _) rfl
def a11(t:Tm)(m:Int)(h0:0≤m)(h1:m≤1000000):Pure prog 33 [t.enc,.int .i64 m] (.int .i64 (YA t.sz m)):=by
 intro n H;have hw:IntKind.i64.wrap (m - 1)=m - 1:=iw;have hc:YA t.sz m=1+YA (Tm.sz.szs t.args) (m - 1):=by rw[Tm.Zhh];unfold YA;split<;>split<;>omega
 have hb:YA (Tm.sz.szs t.args) (m - 1)≤m∧0≤YA (Tm.sz.szs t.args) (m - 1):=by unfold YA;split<;>omega
 refine aF func33 fun B=>?_
 refine nR ?_;refine nq hw ?_;refine VK (Zf func74 rfl rfl) (a39 t.args (m - 1) om om (fun u hu m' h0' h1'=>a11 u m' h0' h1')) (by simp only[go_sem,simprocAttr,hw]) ?_;refine aq hw ?_;refine nV ?_;refine Zc ?_ (.int _ _) rfl;refine aS ?_;rw[hc,iw];exact .refl _
termination_by SizeOf.sizeOf t
decreasing_by exact Tm.Xp hu
def a38(t:Am)(m:Int)(h0:0≤m)(h1:m≤1000000):Pure prog 32 [t.enc,.int .i64 m] (.int .i64 (YA t.sz m)):=by
 intro n H;have hw:IntKind.i64.wrap (m - 1)=m - 1:=iw;have hc:YA t.sz m=1+YA (Tm.sz.szs t.args) (m - 1):=by unfold Am.sz YA;split<;>split<;>omega
 have hb:YA (Tm.sz.szs t.args) (m - 1)≤m∧0≤YA (Tm.sz.szs t.args) (m - 1):=by unfold YA;split<;>omega
 refine aF func32 fun B=>?_
 refine nR ?_;refine nq hw ?_;refine VK (Zf func74 rfl rfl) (a39 t.args (m - 1) om om (fun u hu m' h0' h1'=>a11 u m' h0' h1')) (by simp only[go_sem,simprocAttr,hw]) ?_;refine aq hw ?_;refine nV ?_;refine Zc ?_ (.int _ _) rfl;refine aS ?_;rw[hc,iw];exact .refl _
def szA:List Am→Nat
 |[]=>0
 |a::r=>a.sz+szA r
def great(l:List Am):Bool:=decide (150<l.length)||decide (2000<szA l)
def szX(x:Lt):Nat:=1+x.at_.sz+x.L.sz+x.R.sz
def szLs:List Lt→Nat
 |[]=>0
 |x::r=>szX x+szLs r
def Trk(m E v:Int):Prop:=(E≤m∧v=E∧0≤E)∨(m<E∧m<v∧v≤4*m+4)
def Zbr(m n:Int)(x:Lt):Int:=if n≤m then n+(1+YA x.at_.sz (m - n)+YA x.L.sz (m - n)+YA x.R.sz (m - n))else n
def Xi(m:Int)(l:List Lt):Int:=l.foldl (Zbr m) 0
section
variable {m:Int}
def Vy{s:Nat}(h:0≤m):0≤YA s m∧YA s m≤m+1∧(YA s m=s∨(YA s m=m+1∧m<s)):=by
 unfold YA;split<;>omega
variable {v:Int}
def Zn6{E:Int}(x:Lt)(h:Trk m E v)(hE:0≤E):Trk m (E+szX x) (Zbr m v x):=by
 unfold Zbr szX;rcases h with⟨h1,rfl,h0⟩|⟨h1,h2,h3⟩
 ·rw[if_pos h1];obtain⟨a1,a2,a3⟩:=Vy (s:=x.at_.sz) (m:=m - v) om;obtain⟨b1,b2,b3⟩:=Vy (s:=x.L.sz) (m:=m - v) om;obtain⟨c1,c2,c3⟩:=Vy (s:=x.R.sz) (m:=m - v) om;unfold Trk;omega
 ·rw[if_neg om];unfold Trk;omega
def szLs_append:∀p q:List Lt,szLs (p++q)=szLs p+szLs q
 |[],q=>by simp[szLs]
 |x::p,q=>by rw[Q9,szLs,szLs,szLs_append p q];omega
def Zga(hm:0≤m)(l:List Lt):Trk m (szLs l) (Xi m l):=by
 have:∀(l:List Lt) (E v:Int),Trk m E v→0≤E→Trk m (E+szLs l) (l.foldl (Zbr m) v):=by
  intro l;induction l with
  |nil=>intro E v h _;simpa[szLs]using h
  |cons x r ih=>
   intro E v h h0;have:=ih _ _ (Zn6 x h h0) om;rw[Uu,szLs]
   rwa [show E+((szX x+szLs r:Nat):Int)=E+szX x+szLs r by omega]
 have h:=this l 0 0 (.inl ⟨hm,rfl,GN _⟩) (GN _)
 rwa [Int.zero_add]at h
theorem ZnN(h:m<v)(l:List Lt):l.foldl (Zbr m) v=v:=by
 induction l with
 |nil=>rfl
 |cons x r ih=>rw[Uu];rw[show Zbr m v x=v by unfold Zbr;rw[if_neg om]];exact ih
def ZeM{α β:Type}(f:β→α→β)(a:β)(l:List α)(i:Nat)(h:i<l.length):(l.take (i+1)).foldl f a=f ((l.take i).foldl f a) l[i]:=by
 rw[Qn h,U7];rfl
def size_at(hm:0≤m)(l:List Lt)(i:Nat):Trk m (szLs (l.take i)) (Xi m (l.take i)):=Zga hm _
variable {i:Nat} {l:List Lt}
def Znz(h:m<Xi m (l.take i)):Xi m l=Xi m (l.take i):=by
 conv=>lhs;rw[←QZ i l]
 unfold Xi at*;rw[U7,ZnN h]
def Zav(n:Int)(s:Nat):Int:=if n≤300 then n+YA s (300 - n)else n
def Wi(n:Int)(l:List Nat):Int:=l.foldl Zav n
def Tru(E v:Int):Prop:=(E≤300∧v=E)∨(300<E∧300<v∧v≤E+301)
def Zon{E:Int}(s:Nat)(h:Tru E v)(h0:0≤E):Tru (E+s) (Zav v s):=by
 unfold Zav;rcases h with⟨h1,rfl⟩|⟨h1,h2,h3⟩
 ·rw[if_pos h1];obtain⟨a1,a2,a3⟩:=Vy (s:=s) (m:=300 - v) om;unfold Tru;omega
 ·rw[if_neg om];unfold Tru;omega
def sumN:List Nat→Nat
 |[]=>0
 |x::r=>x+sumN r
def sum_tru:∀(l:List Nat) {E v:Int},Tru E v→0≤E→Tru (E+sumN l) (Wi v l)
 |[],E,v,h,_=>by simpa[sumN,Wi]using h
 |s::r,E,v,h,h0=>by
  have:=sum_tru r (Zon s h h0) om;unfold Wi at*;rw[Uu,sumN]
  rwa [show E+((s+sumN r:Nat):Int)=E+s+sumN r by omega]
theorem Zrd(h:300<v)(l:List Nat):Wi v l=v:=by
 unfold Wi;induction l with
 |nil=>rfl
 |cons x r ih=>rw[Uu];rw[show Zav v x=v by unfold Zav;rw[if_neg om]];exact ih
def ZkK{l:List Nat}(h:300<Wi v (l.take i)):Wi v l=Wi v (l.take i):=by
 conv=>lhs;rw[←QZ i l]
 unfold Wi at*;rw[U7];exact Zrd h _
def Zka{l:List Nat}(h:i<l.length):Wi v (l.take (i+1))=Zav (Wi v (l.take i)) l[i]:=ZeM _ _ _ _ h
def sum_le:∀(l:List Nat) {v:Int},0≤v→0≤Wi v l∧(v≤Wi v l)∧(Wi v l≤v∨Wi v l≤301)
 |[],v,h=>⟨h,GN _,.inl (GN _)⟩
 |s::r,v,h=>by
  have h1:0≤Zav v s∧v≤Zav v s∧(Zav v s≤v∨Zav v s≤301):=by
   unfold Zav;split
   ·obtain⟨a1,a2,a3⟩:=Vy (s:=s) (m:=300 - v) om;omega
   ·omega
  have:=sum_le r (v:=Zav v s) h1.1;unfold Wi at*;rw[Uu];omega
theorem sumN_sz:∀l:List Am,sumN (l.map Am.sz)=szA l
 |[]=>rfl
 |a::r=>by rw[Qu,sumN,szA,sumN_sz r]
def farS:Tm→Bool
 | .mk k n _ l=>((k==1)&&(decide (30<n)||decide (n< -30)))||fars k l
where fars (k:Int):List Tm→Bool
 |[]=>false
 |t::r=>(farS t||((k==6)&&(t.kind==6)))||fars k r
theorem Zjb(k:Int):∀l:List Tm,farS.fars k l=l.any fun t=>farS t||((k==6)&&(t.kind==6))
 |[]=>rfl
 |t::r=>by rw[farS.fars,Zjb k r];rfl
def Zrf(t:Tm):farS t=(((t.kind==1)&&(decide (30<t.num)||decide (t.num< -30)))||t.args.any fun u=>farS u||((t.kind==6)&&(u.kind==6))):=by
 cases t;rw[farS,Zjb];rfl
def ZkM(l:List Lt):Bool:=l.any fun x=>(Yw x).any farS
def Zl9(b:Bnd):Bool:=b.any fun p=>farS p.2
def ZcJ(l:List Lt)(A:List Am)(b:Bnd):Bool:=
 decide (300<Wi (Wi ((b.length:Int)+Xi 300 l) (A.map Am.sz)) (b.map fun p=>p.2.sz))||decide (5<l.length)||decide (24<A.length)||ZkM l||Zl9 b
def ZeP{A:List Am}{b:Bnd}(h1:¬300<Wi (Wi ((b.length:Int)+Xi 300 l) (A.map Am.sz)) (b.map fun p=>p.2.sz)):b.length+szLs l+szA A+sumN (b.map fun p=>p.2.sz)≤300:=by
 have t0:=Zga (m:=300) om l;have hs:=sum_le (A.map Am.sz) (v:=(b.length:Int)+Xi 300 l) (by rcases t0 with t0|t0<;>omega);have hs2:=sum_le (b.map fun p=>p.2.sz) (v:=Wi ((b.length:Int)+Xi 300 l) (A.map Am.sz)) hs.1;have e0:Xi 300 l=szLs l:=by rcases t0 with t0|t0<;>omega
 have t1:Tru ((b.length:Int)+szLs l) ((b.length:Int)+Xi 300 l):=.inl ⟨om,om⟩;have t2:=sum_tru (A.map Am.sz) t1 om;have t3:=sum_tru (b.map fun p=>p.2.sz) t2 om;rw[sumN_sz]at t3;rcases t3 with⟨t3,_⟩|⟨_,t3,_⟩
 ·omega
 ·omega
def ZeW{A:List Am}{b:Bnd}(h:ZcJ l A b=false):b.length+szLs l+szA A+sumN (b.map fun p=>p.2.sz)≤300∧l.length≤5∧A.length≤24:=by
 unfold ZcJ at h;simp only[QaI,decide_eq_false_iff_not]at h;obtain⟨⟨⟨⟨h1,h2⟩,h3⟩,_⟩,_⟩:=h;exact⟨ZeP h1,om,om⟩
end
end Go.Proofs.YtmdeagmbfhbbnaaGreatDoorR

namespace Go.Abs
section
variable {κ β:Type} [DecidableEq κ]
def getM(k:κ):List (κ×β)→Option β
 |[]=>none
 |p::r=>if p.1=k then some p.2 else getM k r
def ZfL(k:κ)(v:β):List (κ×β)→List (κ×β)
 |[]=>[(k,v)]
 |p::r=>if p.1=k then(k,v)::r else p::ZfL k v r
def ixM(k:κ):List (κ×β)→Nat
 |[]=>0
 |p::r=>if p.1=k then 0 else ixM k r+1
abbrev Zax(ek:κ→AV)(ev:β→AV)(es:List (κ×β)):List (AV×AV):=es.map fun p=>(ek p.1,ev p.2)
def Zoh(ek:κ→AV):Prop:=∀a b,(ek a).kls=(ek b).kls→a=b
theorem ZmG{ek:κ→AV}(hi:Zoh ek)(ev:β→AV)(k:κ):∀(es:List (κ×β)) (i:Nat),XT (ek k).kls ((Zax ek ev es).map fun p=>p.1.kls) i=if(getM k es).isSome then some (i+ixM k es)else none
 |[],i=>by simp[XT,getM]
 |p::r,i=>by
  simp only[Qu,XT,getM,ixM];by_cases h:p.1=k
  ·simp[h]
  ·have h':¬(ek k).kls=(ek p.1).kls:=fun e=>h (hi _ _ e).symm
   have ih:=ZmG hi ev k r (i+1);simp only[Zax]at ih;simp only[if_neg h,if_neg h',ih];cases getM k r with
   |none=>rfl
   |some v=>simp;omega
def ZiH{k:κ}:∀{es:List (κ×β)} {v:β},getM k es=some v→es[ixM k es]? =some (k,v)
 |[],_,h=>by cases h
 |p::r,v,h=>by
  simp only[getM]at h;simp only[ixM];split at h
  ·rename_i e;cases h;rw[if_pos e];simp[←e]
  ·rename_i e;rw[if_neg e];simpa using ZiH h
def Zg8{k:κ}{v:β}(w:β):∀{es:List (κ×β)},getM k es=some v→ZfL k w es=es.set (ixM k es) (k,w)
 |[],h=>by cases h
 |p::r,h=>by
  simp only[getM]at h;simp only[ZfL,ixM];split at h
  ·rename_i e;rw[if_pos e,if_pos e];rfl
  ·rename_i e;rw[if_neg e,if_neg e,Zg8 w h];rfl
theorem Zhq{k:κ}(w:β):∀{es:List (κ×β)},getM k es=none→ZfL k w es=es++[(k,w)]
 |[],_=>rfl
 |p::r,h=>by
  simp only[getM]at h;simp only[ZfL];split at h
  ·cases h
  ·rename_i e;rw[if_neg e,Zhq w h];rfl
def ZiQ{ek:κ→AV}(hi:Zoh ek)(ev:β→AV)(k:κ)(es:List (κ×β)):Xy (ek k) (Zax ek ev es)=if(getM k es).isSome then some (ixM k es)else none:=by
 unfold Xy;rw[ZmG hi];simp
theorem ZqH{ek:κ→AV}(hi:Zoh ek)(ev:β→AV)(re:Zu)(k:κ)(es:List (κ×β)):lookA re (ek k) (Zax ek ev es) false=match getM k es with|some v=>ev v|none=>nilA (XH re):=by
 unfold lookA;rw[ZiQ hi];cases h:getM k es with
 |none=>rfl
 |some v=>
  have h1:=ZiH h;simp[Zax,h1]
def Zls{ek:κ→AV}(hi:Zoh ek)(ev:β→AV)(k:κ)(v:β)(es:List (κ×β)):Zaw (ek k) (ev v) (Zax ek ev es)=Zax ek ev (ZfL k v es):=by
 unfold Zaw;rw[ZiQ hi];cases h:getM k es with
 |none=>simp[Zhq v h,Zax]
 |some w=>simp[Zg8 v h,Zax,List.map_set]
end
def kinj_str:Zoh AV.str:=fun a b h=>by simp[AV.kls,AV.cells,klAll,AV.kl]at h;exact h
def kinj_int:Zoh (AV.int .i64):=fun a b h=>by simp[AV.kls,AV.cells,klAll,AV.kl]at h;exact h
def ZfQ{κ β:Type}{n:Nat}{ek:κ→AV}{ev:β→AV}{es:List (κ×β)}(h1:∀k,Below n (ek k))(h2:∀p∈es,Below n (ev p.2)):∀p∈Zax ek ev es,Below n p.1∧Below n p.2:=fun p hp=>by
 obtain⟨q,hq,rfl⟩:=Qi.1 hp;exact⟨h1 _,h2 q hq⟩
def ZkJ{n:Nat}{es:List (AV×AV)}(h:∀p∈es,Below n p.1∧Below n p.2):Ze.Below n (.map es):=by
 refine⟨fun a ha=>?_,by simp[Ze.at_]⟩;simp only[Ze.avs,Qg,Qi]at ha;rcases ha with⟨p,hp,rfl⟩|⟨p,hp,rfl⟩
 ·exact(h p hp).1
 ·exact(h p hp).2
end Go.Abs

namespace Go.Proofs.YtmdeagmbfhbbnaaGreatDoorR
open Go.Abs
def subs:Tm→List Tm
 | .mk k n s l=>.mk k n s l::subss l
where subss:List Tm→List Tm
 |[]=>[]
 |t::r=>subs t++subss r
theorem subss_eq:∀l:List Tm,subs.subss l=l.flatMap subs
 |[]=>rfl
 |t::r=>by rw[subs.subss,subss_eq r];rfl
def Zni(t:Tm):subs t=t::t.args.flatMap subs:=by cases t;rw[subs,subss_eq];rfl
def ZeN(H:Za)(x:Nat)(S S':Nat→Option Ze):(H.YN x S).YN x S'=H.YN x S':=by
 funext l k;simp only[Za.YN];split<;>rfl
def Zqb(H:Za)(x k:Nat)(S:Nat→Option Ze):H.YN x S x k=S k:=by simp[Za.YN]
section
variable {x:Nat}
def ZoP(H:Za){l:Nat}(h:l≠x)(k:Nat)(S:Nat→Option Ze):H.YN x S l k=H l k:=by simp[Za.YN,h]
def Zln{H:Za}{S:Nat→Option Ze}(h:∀k,H x k=S k):H.YN x S=H:=by
 funext l k;simp only[Za.YN];split
 ·rename_i e;subst e;exact(h k).symm
 ·rfl
def Zt7(P:Program)(x l:Nat)(L:List Tm)(S:Nat→Nat→Option Ze)(H0:Za):Prop:=
 ∀m H i t,x<m→L[i]? =some t→(∀l' k,l'<x→H l' k=H0 l' k)→(∀k,H x k=S i k)→Vx P m l [t.enc] H fun r H1=>r= .bool true∧H1=H.YN x (S (i+1))
def J9(l:List Tm)(j:Nat):Nat:=((l.take j).flatMap subs).length
def ZtB(t:Tm)(x l n i:Nat)(S:Nat→Nat→Option Ze)(H:Za)(j:Nat):Zb:=
 ⟨[(14,.int .i64 j),(13,.int .i64 t.args.length),(12,.sl 4 (t.args.map Tm.enc) .any),(1,.fn (.yield l) []),(2,.ptr n 2 0)],[(2,.box t.cs)],H.YN x (S (i+1+J9 t.args j))⟩
def Zt5{x l:Nat}{L:List Tm}{S:Nat→Nat→Option Ze}{H0:Za}(hY:Zt7 prog x l L S H0)(hS:∀j k b,S j k=some b→b.Below (x+1))(t:Tm)(ht:t.Good)(i:Nat)(hi:∀k (h:k<(subs t).length),L[i+k]? =some (subs t)[k])
  (n:Nat) (H:Za) (hx:x<n) (h1:∀l' k,l'<x→H l' k=H0 l' k) (h2:∀k,H x k=S i k):
  Zh prog n 164 [t.enc,.fn (.yield l) []] H fun r H1=>r= .bool true∧H1=H.YN x (S (i+(subs t).length)):=by
 have hlen:=ht.len;have hne:x≠n:=om;have hsub:subs t=t::t.args.flatMap subs:=Zni t;refine aF func164 fun B=>?_
 have hf1:∀(L:List (Nat×Ze)) (G:Za) (l' k:Nat),(∀l' k,l'<x→G l' k=H0 l' k)→l'<x→full n L G l' k=H0 l' k:=fun L G l' k hG h=>by
  simp only[full];rw[if_neg om];exact hG l' k h
 have hf2:∀(L:List (Nat×Ze)) (G:Za) (j:Nat),(∀k,G x k=S j k)→ ∀k,full n L G x k=S j k:=fun L G j hG k=>by
  simp only[full];rw[if_neg hne];exact hG k
 refine gc ?_;refine ZrT sS (hY _ _ i t (show x<n+1 by omega) (by have:=hi 0 (by rw[hsub];simp);simpa[hsub]using this) (fun l' k h=>hf1 _ _ l' k h1 h) (hf2 _ _ i h2)) sS ?_;rintro _ _ ⟨rfl,rfl⟩;refine⟨[(2,.box t.cs)],H.YN x (S (i+1)),by rw[Vt hne];rfl,Jf hx (hS _),?_⟩;refine aS ?_;refine gN ?_;refine Zt (ZtB t x l n i S H) t.args.length rfl ?_ ?_
 ·exact KK
 intro j hj;refine Yc rfl ?_;rcases Qj j t.args.length with h|h
 ·refine nq h ?_;refine nT ?_;refine nq2 (Tm.Zp _ _ h) h ?_;refine nR ?_;have hu:=ht.arg (Qa h);have hcnt:J9 t.args (j+1)=J9 t.args j+(subs t.args[j]).length:=by
   unfold J9;rw[Qn h,Uc,Qd];simp
  refine YV (caps:=[]) (avs:=[t.args[j].enc,.fn (.yield l) []]) rfl (Zf func164 rfl rfl) (by
   rw[Qs];exact Zt5 hY hS t.args[j] hu (i+1+J9 t.args j) (fun k hk=>by
    have hk':1+J9 t.args j+k<(subs t).length:=by
     rw[hsub];have h3:J9 t.args (j+1)≤(t.args.flatMap subs).length:=by
      unfold J9
      conv=>rhs;rw[←QZ (j+1) t.args,Uc,Qd]
      omega
     simp only[Qo];omega
    have h4:=hi _ hk';rw[show i+1+J9 t.args j+k=i+(1+J9 t.args j+k) by omega,h4];congr 1
    have h5:t.args.flatMap subs=(t.args.take j).flatMap subs++(subs t.args[j]++(t.args.drop (j+1)).flatMap subs):=by
     rw[←QM (f:=subs),←Qz h,←Uc,QZ]
    have h6:(subs t)[1+J9 t.args j+k]? =some (subs t.args[j])[k]:=by
     rw[hsub,show 1+J9 t.args j+k=(J9 t.args j+k)+1 by omega,UO,h5,MX (by unfold J9;omega)];rw[show J9 t.args j+k - ((t.args.take j).flatMap subs).length=k by unfold J9;omega,Uw hk,Qb hk]
    rw[Qb hk']at h6;exact UU h6) (n+1) _ (show x<n+1 by omega) (fun l' k h=>hf1 _ _ l' k (fun l' k h=>(ZoP H om k _).trans (h1 l' k h)) h) (hf2 _ _ _ (fun k=>Zqb _ _ _ _))) sS ?_
  rintro _ _ ⟨rfl,rfl⟩;refine⟨[(2,.box t.cs),(6,.box t.args[j].cs)],H.YN x (S (i+1+J9 t.args (j+1))),?_,?_,?_⟩
  ·rw[←Vt hne,ZeN,hcnt,←MS];rfl
  ·have:=Jf (H:=H.YN x (S (i+1+J9 t.args j))) hx (hS (i+1+J9 t.args (j+1)))
   rwa [ZeN]at this
  refine gI ?_;apply kZ;repeat' first|apply q0|exact xx|apply aI
  ·refine aS ?_;rw[iw];exact .refl _
 ·refine nq (QI.2 h) ?_;refine gt ?_;have hj':j=t.args.length:=om;subst hj';have hc:i+1+J9 t.args t.args.length=i+(subs t).length:=by
   rw[hsub];unfold J9;rw[QN];simp only[Qo];omega
  rw[hc];refine⟨by simp[XZ],[.bool true],⟨?_,trivial⟩,by simp[ZcI],rfl,rfl⟩;exact xS
termination_by SizeOf.sizeOf t
decreasing_by exact Tm.Xp (Qa h)
def Zvf{l:Nat}{L:List Tm}{S:Nat→Nat→Option Ze}{H0:Za}(hY:Zt7 prog x l L S H0)(hS:∀j k b,S j k=some b→b.Below (x+1))(t:Tm)(ht:t.Good)(hL:L=subs t)
  (n:Nat) (H:Za) (hx:x<n) (h1:∀l' k,l'<x→H l' k=H0 l' k) (h2:∀k,H x k=S 0 k):
  Zh prog n 163 [.fn (.yield l) [],.iptr t.cs] H fun r H1=>H1=H.YN x (S L.length):=by
 subst hL;have hne:x≠n:=om;refine aF func163 fun B=>?_
 refine nR ?_;refine YV (caps:=[]) (avs:=[t.enc,.fn (.yield l) []]) rfl (Zf func164 rfl rfl) (by
  rw[Qs];exact Zt5 hY hS t ht 0 (fun k hk=>by rw[QG,Qb hk]) (n+1) _ (show x<n+1 by omega) (fun l' k h=>by simp only[full];rw[if_neg om];exact h1 l' k h) (fun k=>by simp only[full];rw[if_neg hne];exact h2 k)) sS ?_
 rintro _ _ ⟨rfl,rfl⟩;refine⟨[],H.YN x (S (0+(subs t).length)),by rw[Vt hne],Jf hx (hS _),?_⟩;refine gO ?_;exact⟨by simp[XZ],[],trivial,sm,rfl⟩
end
end Go.Proofs.YtmdeagmbfhbbnaaGreatDoorR

namespace Go.Abs
open Go.Proofs
def ltN(s t:List UInt8):Prop:=Lib.compareBytes s t<0
def Zmj{s t:List UInt8}(h:¬ltN s t)(h':¬ltN t s):s=t:=by
 have:=serN.anti (x:=s) (y:=t) trivial trivial;unfold ltN at*;exact cmpBytes_zero om
def lt_cmp:∀x y:List UInt8,x<y↔ltN x y
 |[],[]=>by simp[ltN,Lib.compareBytes]
 |[],_::_=>by simp[ltN,Lib.compareBytes]
 |_::_,[]=>by simp[ltN,Lib.compareBytes]
 |a::x,b::y=>by
  rw[List.cons_lt_cons_iff,lt_cmp x y];unfold ltN;simp only[Lib.compareBytes];by_cases h1:a<b
  ·simp[h1]
  ·by_cases h2:b<a
   ·have:a≠b:=fun e=>by subst e;exact h1 h2
    simp[h1,h2,this]
   ·have:a=b:=UInt8.le_antisymm (UInt8.not_lt.1 h2) (UInt8.not_lt.1 h1);simp[this]
def ZiO{ys l:List (List UInt8)}(hp:ys.Perm l)(ha':∀i i' (h:i<ys.length) (h':i'<ys.length),i<i'→ ¬ltN ys[i'] ys[i]):Lib.compact ys=XI Lib.compareBytes l:=by
 have hb:∀i (h:i<ys.length),ys.toArray[i]! =ys[i]:=fun i h=>by rw[getElem!_pos ys.toArray i (by simpa using h)];simp
 have key:∀m,m≤ys.length→(∀x,x∈Lib.compactUpTo ys.toArray m↔ ∃j,∃h:j<ys.length,j<m∧ys[j]=x)∧(Lib.compactUpTo ys.toArray m).Pairwise ltN:=by
  intro m;induction m with
  |zero=>intro _;simp[Lib.compactUpTo]
  |succ m ih=>
   intro hm;obtain⟨i1,i2⟩:=ih om;have hml:m<ys.length:=om;rw[Lib.compactUpTo_succ];by_cases hk:Lib.keeps ys.toArray m=true
   ·rw[if_pos hk,hb m hml];refine⟨fun x=>?_,List.pairwise_append.2 ⟨i2,sm,fun x hx y hy=>?_⟩⟩
    ·simp only[Qg,i1,Ql];constructor
     ·rintro(⟨j,h,hj,rfl⟩|rfl)
      ·exact⟨j,h,om,rfl⟩
      ·exact⟨m,hml,om,rfl⟩
     ·rintro⟨j,h,hj,rfl⟩;by_cases e:j=m
      ·subst e;exact .inr rfl
      ·exact .inl ⟨j,h,om,rfl⟩
    ·simp only[Ql]at hy;subst hy;obtain⟨j,h,hj,rfl⟩:=(i1 x).1 hx;have h1:=ha' j m h hml hj;by_cases e:ltN ys[j] ys[m]
     ·exact e
     ·have e2:=Zmj e h1
      exfalso
      have hne:ys[m]≠ys[m - 1]:=by
       simp only[Lib.keeps,Gt,beq_iff_eq,bne_iff_ne,decide_eq_true_eq]at hk;rcases hk with hk|hk
       ·omega
       ·rw[hb m hml,hb (m - 1) om]at hk;exact hk
      by_cases e3:j=m - 1
      ·subst e3;exact hne e2.symm
      ·have a1:=ha' j (m - 1) h om om;have a2:=ha' (m - 1) m om hml om;by_cases a3:ltN ys[m - 1] ys[m]
       ·rw[←e2]at a3;exact a1 a3
       ·exact hne (Zmj a2 a3)
   ·rw[if_neg hk,Qs];refine⟨fun x=>?_,i2⟩;rw[i1];constructor
    ·rintro⟨j,h,hj,rfl⟩;exact⟨j,h,om,rfl⟩
    ·rintro⟨j,h,hj,rfl⟩;by_cases e:j=m
     ·subst e;simp only[Lib.keeps,Gt,beq_iff_eq,bne_iff_ne,decide_eq_true_eq,not_or]at hk;have hj0:j≠0:=fun e=>by simp[e]at hk
      have h2:ys[j]=ys[j - 1]:=by
       have:=hk;rw[hb j h,hb (j - 1) om]at this;simpa using this.2
      exact⟨j - 1,om,om,h2.symm⟩
     ·exact⟨j,h,om,rfl⟩
 obtain⟨h1,h2⟩:=key ys.length (Qe _);refine serN.unique (fun _ _=>trivial) h2 (serN.set_asc fun _ _=>trivial) fun x=>?_
 rw[serN.set_mem (fun _ _=>trivial),Lib.compact,h1,←hp.mem_iff];constructor
 ·rintro⟨j,h,_,rfl⟩;exact Qa h
 ·intro hx;obtain⟨j,h,rfl⟩:=QJ hx;exact⟨j,h,h,rfl⟩
def Zh5(xs:List (List UInt8)):Lib.compact (xs.mergeSort fun x y=>decide (x≤y))=XI Lib.compareBytes xs:=by
 have hle:∀x y:List UInt8,decide (x≤y)=true↔ ¬ltN y x:=fun x y=>by rw[decide_eq_true_eq,←lt_cmp,List.not_lt]
 refine ZiO (List.mergeSort_perm _ _) fun i i' h h' hi=>?_
 have hp:(xs.mergeSort fun x y=>decide (x≤y)).Pairwise fun x y=>decide (x≤y)=true:=by
  refine List.pairwise_mergeSort (fun a b c h1 h2=>?_) (fun a b=>?_) xs
  ·rw[decide_eq_true_eq]at*;exact List.le_trans h1 h2
  ·rw[Gt,decide_eq_true_eq,decide_eq_true_eq];exact List.le_total a b
 exact(hle _ _).1 (Gg.1 hp i i' h h' hi)
open Go.Shelf Go.Sort
section
variable {P:Program}
def Zi8{E:Env}:∀{l:List (List UInt8)} {vs:List Value},VRs E ((l.map AV.str)) vs→vs=l.map encStr
 |[],vs,h=>h.of_nil
 |x::l,vs,h=>by
  obtain⟨v,r,rfl,h1,h2⟩:=VRs.YS h;cases h1;rw[Zi8 h2];rfl
def ZjA(E:Env):∀l:List (List UInt8),VRs E ((l.map AV.str)) (l.map encStr)
 |[]=>VRs.nil E
 |x::l=>VRs.cons (.str _) (ZjA E l)
def Zen{m:Nat}{H:Za}{E:Env}{w:World}(hr:Zq m H E w){l j gb cap e:Nat}{xs:List (List UInt8)}(hh:E.hist l j xs.length=some (.slice (some ⟨gb,0,none⟩) xs.length cap))(hH:H l j=some (.Zg e 1 ((xs.map AV.str)) xs.length))(hpos:0<xs.length):
  ∃cc,E.g l j=some gb∧w.heap[gb]? =some (.cells cc e (0,0))∧xs.length≤cap∧cap≤maxLen∧cc.size=cap∧(∀o,E.F gb o=none)∧cc.toList.take xs.length=xs.map encStr∧gb<w.heap.size:=by
 obtain⟨cc,q1,q2,q3,q4,q5,q6,q7,q8⟩:=hr.mrow hh hH hpos;rw[Qag]at q5 q7;exact⟨cc,q1,q2,q3,q4,q5,q6,Zi8 q7,(QU.1 q2).1⟩
def str_holds{w:World}{gb e:Nat}{cc:Array Value}{xs:List (List UInt8)}(q2:w.heap[gb]? =some (.cells cc e (0,0)))(hl:xs.length≤cc.size)(hc:cc.toList.take xs.length=xs.map encStr):Holds encStr w gb 0 xs.toArray:=fun t ht=>by
 have ht':t<xs.length:=by simpa using ht
 have hcell:w.cell? ⟨gb,0+t,none⟩=cc[t]?:=by simp only[World.cell?,q2];simp
 refine⟨?_,by simp[World.frozen?,q2]⟩;rw[hcell];have h1:(cc.toList.take xs.length)[t]? =(xs.map encStr)[t]?:=by rw[hc]
 rw[QX ht',Q8,Qb ht',Un,UM]at h1;rw[h1,getElem!_pos xs.toArray t ht];simp
def Zhr{m:Nat}{H:Za}{E:Env}{w:World}(hr:Zq m H E w){l j gb cap e:Nat}{xs:List (List UInt8)}(hh:E.hist l j xs.length=some (.slice (some ⟨gb,0,none⟩) xs.length cap))(hH:H l j=some (.Zg e 1 ((xs.map AV.str)) xs.length))(hpos:0<xs.length)
  (d:Array (List UInt8)) (hd:d.size=xs.length) (q:Nat):
  Zq m (H.upd l j (.Zg e 1 ((d.toList.map AV.str)) xs.length)) E (putRow encStr (Go.Sort.ahead w q) gb 0 d)∧Ext m E w E (putRow encStr (Go.Sort.ahead w q) gb 0 d):=by
 obtain⟨cc,q1,q2,q3,q4,q5,q6,q7,q8⟩:=Zen hr hh hH hpos;have hc':(putRow encStr (Go.Sort.ahead w q) gb 0 d).heap[gb]? =some (.cells (putCells encStr 0 d cc) e (0,0)):=by
  simp only[putRow,mapBlock,Gh,if_true,Go.Sort.ahead,q2,Un,onCells]
 have hsz:(putCells encStr 0 d cc).size=cc.size:=by simp[putCells]
 refine hr.turn (.inr q1) (.Zg e 1 ((d.toList.map AV.str)) xs.length) (fun _=>rfl) rfl rfl rfl (fun _=>Gx _ _) (by simp[putRow,mapBlock,Go.Sort.ahead])
  (fun b' hb'=>by simp only[putRow,mapBlock,Gh,Go.Sort.ahead];rw[if_neg (fun e=>hb' e.symm)]) q6 ?_
 obtain⟨⟨_,v0,hv0,hj0,_⟩,hm0⟩:=hr.Zg l j e 1 ((xs.map AV.str)) xs.length (hr.norm.Xu hh) hH;rw[hh]at hv0;cases hv0;refine⟨⟨by simp[hd],_,hh,hj0,.inr ⟨gb,cap,_,rfl,q1,hc',q3,q4,by rw[hsz,q5,Qag],q6,?_⟩⟩,hm0⟩;have e1:(putCells encStr 0 d cc).toList.take (xs.length*1)=d.toList.map encStr:=by
  rw[Qag];apply Gl
  ·simp[putCells,hd];omega
  ·intro t h1 h2;have ht:t<d.size:=by simpa using h2
   rw[Gp];simp only[putCells,U9,QaJ,QV];rw[if_pos ⟨Uo _,om⟩,ML,getElem!_pos d t ht]
 rw[e1];exact ZjA E _
def Zqh{ρ:Ren}(L:Lays.n190 P ρ)(n:Nat)(H:Za)(l j e sz0:Nat)(xs:List (List UInt8))(hH:H l j=some (.Zg e 1 (xs.map AV.str) xs.length))(hlen:xs.length≤1000000000):
  Zh P n (ρ.f 190) [.msl sz0 l j xs.length] H fun r H'=>r= .tup []∧H'=H.upd l j (.Zg e 1 ((xs.mergeSort fun x y=>decide (x≤y)).map AV.str) xs.length):=fun E w vs hr hv=>by
 obtain⟨v1,r1,rfl,h1,hv⟩:=hv.YS;rw[hv.of_nil];cases hxs:xs with
 |nil=>
  subst hxs;have hnone:∀a cap,Calls P (ρ.f 190) #[.slice a 0 cap] w fun e' w'=>∃r v H' E',e'= .returned v∧(r= .tup []∧H'=H.upd l j (.Zg e 1 ((([]:List (List UInt8)).mergeSort fun x y=>decide (x≤y)).map AV.str) 0))∧VR E' r v∧Zq n H' E' w'∧Ext n E w E' w':=fun a cap=>
   (Any.slices_Sort_string_none L a cap w).mono fun e' w' ⟨he,hw⟩=>by
    subst hw he;exact⟨.tup [],_,H,E,rfl,⟨rfl,by simpa using(Yb hH).symm⟩,.tup [] [] rfl (fun i h=>absurd h (Qm _)),hr,.refl _ _ _⟩
  generalize hz:AV.msl sz0 l j ([]:List (List UInt8)).length=av at h1;cases h1<;>cases hz
  ·exact hnone _ _
  ·exact hnone _ _
 |cons x0 xr=>
  rw[←hxs];have hpos:0<xs.length:=by rw[hxs];simp
  obtain⟨nx,hnx⟩:∃m,m=xs.length:=⟨_,rfl⟩
  rw[←hnx]at h1;generalize hz:AV.msl sz0 l j nx=av at h1;cases h1<;>cases hz
  ·omega
  rename_i gb cap hh;subst hnx;obtain⟨cc,q1,q2,q3,q4,q5,q6,q7,hgb⟩:=Zen hr hh hH hpos;have hH1:Holds encStr w gb 0 xs.toArray:=str_holds q2 om q7;refine Calls.mono (Any.slices_Sort_string L gb 0 cap xs w hH1 hgb om) ?_;rintro e' w' ⟨rfl,m,os,rfl⟩;have hds:(xs.mergeSort fun x y=>decide (x≤y)).toArray.size=xs.length:=sm;obtain⟨hh2,hx2⟩:=Zhr hr hh hH hpos _ hds m;obtain⟨hh3,hx3⟩:=hh2.below (w':=grow (putRow encStr (Go.Sort.ahead w m) gb 0 (xs.mergeSort fun x y=>decide (x≤y)).toArray) os) ⟨rfl,rfl,rfl,by simp[grow],fun b hb=>by show((putRow encStr (Go.Sort.ahead w m) gb 0 (xs.mergeSort fun x y=>decide (x≤y)).toArray).heap++os)[b]? =_;rw[MW hb]⟩ (fun _=>Qe _);exact⟨.tup [],_,_,E,rfl,⟨rfl,rfl⟩,.tup [] [] rfl (fun i h=>absurd h (Qm _)),hh3,hx2.trans hx3⟩
def ZkB{ρ:Ren}(L:Lays.n194 P ρ)(n:Nat)(H:Za)(l j e:Nat)(xs:List (List UInt8))(hpos:0<xs.length)(hH:H l j=some (.Zg e 1 ((xs.map AV.str)) xs.length))(hlen:xs.length≤1000000000):
  Zh P n (ρ.f 194) [.msl 1 l j xs.length] H fun r H'=>r= .sub 1 l j xs.length 0 (Lib.compact xs).length∧H'=H.upd l j (.Zg e 1 (List.map AV.str (Lib.compact xs++List.replicate (xs.length - (Lib.compact xs).length) [])) xs.length):=fun E w vs hr hv=>by
 obtain⟨v1,r1,rfl,h1,hv⟩:=hv.YS;rw[hv.of_nil];obtain⟨nx,hnx⟩:∃m,m=xs.length:=⟨_,rfl⟩
 rw[←hnx]at h1;generalize hz:AV.msl 1 l j nx=av at h1;cases h1<;>cases hz
 ·omega
 rename_i gb cap hh;subst hnx;obtain⟨cc,q1,q2,q3,q4,q5,q6,q7,hgb⟩:=Zen hr hh hH hpos;have hH0:Holds encStr w gb 0 xs.toArray:=str_holds q2 om q7;refine Calls.mono (Any.slices_Compact_string L gb 0 cap xs w hH0 om q3) ?_;rintro e' w' ⟨rfl,q,rfl⟩;have hle:(Lib.compact xs).length≤xs.length:=Lib.compact_length_le xs;obtain⟨hh2,hx2⟩:=Zhr hr hh hH hpos (Lib.compact xs++List.replicate (xs.length - (Lib.compact xs).length) []).toArray (by simp;omega) q;refine⟨_,_,_,E,rfl,⟨rfl,rfl⟩,?_,hh2,hx2⟩;have:=VR.sub (E:=E) 1 l j xs.length 0 (Lib.compact xs).length gb cap hh om;simpa using this
def ZhV{ρ:Ren}(L:Lays.n194 P ρ)(n:Nat)(H:Za)(l j:Nat):Zh P n (ρ.f 194) [.msl 1 l j 0] H fun r H'=>r= .msl 1 l j 0∧H'=H:=fun E w vs hr hv=>by
 obtain⟨v1,r1,rfl,h1,hv⟩:=hv.YS;rw[hv.of_nil];have:∃a cap,v1= .slice a 0 cap:=by
  generalize hz:AV.msl 1 l j 0=av at h1;cases h1<;>cases hz
  ·exact⟨_,_,rfl⟩
  ·exact⟨_,_,rfl⟩
 obtain⟨a,cap,rfl⟩:=this;refine Calls.mono (Any.slices_Compact_string_empty L a cap w) ?_;rintro e w' ⟨rfl,rfl⟩;exact⟨_,_,_,E,rfl,⟨rfl,rfl⟩,h1,hr,.refl _ _ _⟩
end
section
variable {cs:List AV} {H:Za} {L:List (Nat×Ze)} {tm:List (Nat×AV)}
def JK{n N:Nat}{j0 j i k0:Nat}(e k:Nat)(hb:lkb L j0=some (.box cs))(hi:cs[i]? =some (.sl k0 [] .full))(hj:lkb L j=none):
  AWk n N ⟨tm,L,H⟩ ⟨tm,setb (setb L j (.Zg e k [] 0)) j0 (.box (cs.set i (.msl k n j 0))),H⟩:=fun B E w a hs=>by
 have h:=hs.heap;obtain⟨b0,hm0,c,t,hc,hv⟩:=h.box n j0 cs (Qq n) (by simp only[full,if_true];exact hb);obtain⟨hil,hie⟩:=Ub.1 hi;have hvi:=hv.2 i hil (by rw[hv.1];exact hil);rw[hie]at hvi;have hval:∃ad,c.toList[i]'(by rw[hv.1];exact hil)= .slice ad 0 0∧ ∀x,ad=some x→x.spot=none:=by
  generalize c.toList[i]'(by rw[hv.1];exact hil)=x at hvi;cases hvi with
  |slnil _ _ a ho ha=>obtain rfl:=ha sm;exact⟨none,rfl,fun _ e=>by cases e⟩
  |sl _ _ _ b off cap c hk hc hv hcap hm ho=>
   have:cap=0:=ho;subst this;exact⟨_,rfl,fun _ e=>by cases e;rfl⟩
 obtain⟨ad,hval,hsp⟩:=hval;have hfree:full n L H n j=none:=by simp only[full,if_true];exact hj
 obtain⟨hh,hx⟩:=h.adopt (Qq n) hfree ad e k true;have hne:j0≠j:=fun e=>by rw[e,hj]at hb;cases hb
 have hm1:(E.Yv n j (.slice ad 0 0)).m n j0=some b0:=hm0;obtain⟨hh2,hx2⟩:=hh.turn (w':=w) (.inl hm1) (.box (cs.set i (.msl k n j 0))) (fun hg=>absurd (hh.m_g hm1) hg) rfl rfl rfl (fun _=>Qe _) rfl (fun _ _=>rfl) (fun o=>hh.mF _ _ _ o hm1)
  ⟨b0,hm1,c,t,hc,by rw[Me];exact hv.1,fun i' h1 h2=>by
   rw[Gj];split
   ·rename_i e1;subst e1;rw[hval];exact .mnil _ _ _ _ (by simp[Env.Yv]) hsp
   ·exact(hv.2 i' (by simpa using h1) h2).mono h.norm hx.le⟩
 have hxx:=hx.trans hx2;refine⟨_,⟨hs.size,hs.defs.ext hxx,fun t'=>(hs.tmps t').mono h.norm hxx.le,?_,hs.out⟩,hxx.mono (Uj n)⟩;show Zq (n+1) (full n (setb (setb L j _) j0 _) H) _ _;rw[Zn,Zn];exact hh2
def ZaK{cx:Cx}{c:Code}{k:List Itm}{Q:Exit→Zb→Prop}{k0:Nat}(j0 j i e sz:Nat)(hb:lkb L j0=some (.box cs))(hi:cs[i]? =some (.sl k0 [] .full))(hj:lkb L j=none)
  (h:AKc cx (.code c::k) Q ⟨tm,setb (setb L j (.Zg e sz [] 0)) j0 (.box (cs.set i (.msl sz cx.n j 0))),H⟩):AKc cx (.code c::k) Q ⟨tm,L,H⟩:=
 ZK (JK e sz hb hi hj) h
def YU{n N:Nat}{tm':List (Nat×AV)}{j0 j i e sz k:Nat}{av av':AV}{cs0:List AV}(T:Nat)(hT:T<N)(xs:List AV)(hne:j0≠j)(hj0:lkb L j0=some (.box cs0))(hi:cs0[i]? =some av)(hav:(∃sz0,av= .msl sz0 n j k∧av'= .sl sz xs .any)∨(∃o m,av= .sub sz n j k o m∧av'= .sl sz ((xs.drop o).take m) .any))(hb:lkb L j=some (.Zg e sz cs k))
  (hfl:flat xs=cs) (hxl:xs.length=k) (hxk:∀x∈xs,x.cells.length=sz) (hcs:∀c∈cs,Inside n (fun k=>k≠j) c) (h1:∀p∈tm',p.1≠T∧Wk (lkv tm p.1) p.2∧Inside n (fun k=>k≠j) (lkv tm p.1))
  (hL:∀p∈delb (setb L j0 (.box (cs0.set i .dead))) j,p.2.Inside n (fun k=>k≠j)):
  AWk n N ⟨tm,L,H⟩ ⟨tm',setb (delb (setb L j0 (.box (cs0.set i .dead))) j) j0 (.box (cs0.set i av')),H⟩:=fun B E w a hs=>by
 have h:=hs.heap;obtain⟨b0,hm0,c,t,hc,hv⟩:=h.box n j0 cs0 (Qq n) (by simp only[full,if_true];exact hj0);obtain⟨hil,hie⟩:=Ub.1 hi;have hcl:i<c.toList.length:=by rw[hv.1];exact hil
 have hvi:=hv.2 i hil hcl;rw[hie]at hvi
 obtain⟨hh2,hx2⟩:=h.turn (w':=w) (.inl hm0) (.box (cs0.set i .dead)) (fun hg=>absurd (h.m_g hm0) hg) rfl rfl rfl (fun _=>Qe _) rfl (fun _ _=>rfl) (fun o=>h.mF _ _ _ o hm0)
  ⟨b0,hm0,c,t,hc,by rw[Me];exact hv.1,fun i' g1 g2=>by
   rw[Gj];split
   ·exact .dead _
   ·exact hv.2 i' (by simpa using g1) g2⟩
 rw[←Zn]at hh2;have hb2:lkb (setb L j0 (.box (cs0.set i .dead))) j=some (.Zg e sz cs k):=by rw[lkb_setb,if_neg (fun e=>hne e.symm)];exact hb
 have hs1:Yp B n N ⟨(T,av)::tm,setb L j0 (.box (cs0.set i .dead)),H⟩ E {a with tmps:=a.tmps.setIfInBounds T c.toList[i]} w:=by
  refine⟨by simpa using hs.size,hs.defs,fun t'=>?_,hh2,hs.out⟩;show VR E (lkv ((T,av)::tm) t') _;simp only[lkv,QF];by_cases ht:T=t'
  ·subst ht;rw[if_pos rfl];have:T<a.tmps.size:=by rw[hs.size];exact hT
   simpa[this]using hvi
  ·rw[if_neg ht,UG ht];have:=hs.tmps t'
   rwa [QF]at this
 obtain⟨o,hs2,hx3⟩:=Zgq (tm':=(T,av')::tm') xs hb2 hfl hxl hxk hcs (fun p hp=>by
  rcases Qk.1 hp with rfl|hp
  ·have e:lkv ((T,av)::tm) T=av:=by simp[lkv]
   rw[e];exact .inr hav
  ·obtain⟨g1,g2,g3⟩:=h1 p hp;have e:lkv ((T,av)::tm) p.1=lkv tm p.1:=by simp only[lkv,if_neg (Ne.symm g1)]
   rw[e];exact .inl ⟨g2,g3⟩) hL B E w _ hs1
 have hval:VR (E.freeze n j o) av' c.toList[i]:=by
  have:=hs2.tmps T;simp only[lkv,if_true,QF]at this;have hTs:T<a.tmps.size:=by rw[hs.size];exact hT
  simpa[hTs]using this
 have hm0':(E.freeze n j o).m n j0=some b0:=by simp only[Env.freeze];rw[if_neg (fun e=>hne e.2)];exact hm0
 have hcur:lkb (delb (setb L j0 (.box (cs0.set i .dead))) j) j0=some (.box (cs0.set i .dead)):=by
  rw[lkb_delb,if_neg hne,lkb_setb,if_pos rfl]
 obtain⟨b1,hm1,c1,t1,hc1,hv1⟩:=hs2.heap.box n j0 _ (Qq n) (by simp only[full,if_true];exact hcur);rw[hm0']at hm1;cases hm1;rw[hc]at hc1;cases hc1;obtain⟨hh4,hx4⟩:=hs2.heap.turn (w':=w) (.inl hm0') (.box (cs0.set i av')) (fun hg=>absurd (hs2.heap.m_g hm0') hg) rfl rfl rfl (fun _=>Qe _) rfl (fun _ _=>rfl) (fun o=>hs2.heap.mF _ _ _ o hm0')
  ⟨b0,hm0',c,t,hc,by rw[Me];exact hv.1,fun i' g1 g2=>by
   rw[Gj];split
   ·rename_i e;subst e;exact hval
   ·rename_i e;have:=hv1.2 i' (by simpa using g1) g2
    rwa [List.getElem_set_ne e]at this⟩
 rw[←Zn]at hh4;refine⟨E.freeze n j o,⟨hs.size,hs.defs.ext hx3,fun t'=>?_,hh4,hs.out⟩,hx3⟩;rcases lkv_mem (tm:=tm') (t:=t')with hd|hmm
 ·show VR _ (lkv tm' t') _;rw[hd];exact .dead _
 ·obtain⟨g1,_,_⟩:=h1 _ hmm;have:=hs2.tmps t';simp only[lkv,if_neg (Ne.symm g1),QF]at this;rw[UG (Ne.symm g1)]at this;show VR _ (lkv tm' t') _
  rwa [QF]
def Zh.ZiN{P:Program}{n:Nat}{f:FuncId}{args:List AV}{H:Za}{Q:AV→Za→Prop}{k:Nat}{o:Own}(h1:Zh P n f (.Xg::args) H Q)(h2:Zh P n f (.sln k::args) H Q):Zh P n f (.sl k [] o::args) H Q:=fun E w vs hr hv=>by
 obtain⟨v,r,rfl,hv1,hv2⟩:=hv.YS;rcases hv1.ZiN with h|h
 ·exact h1 E w _ hr (VRs.cons h hv2)
 ·exact h2 E w _ hr (VRs.cons h hv2)
def Zh.args{P:Program}{n:Nat}{f:FuncId}{args args':List AV}{H:Za}{Q:AV→Za→Prop}(h:Zh P n f args H Q)(hw:Wks args' args):Zh P n f args' H Q:=fun E w vs hr hv=>h E w vs hr (forall₂_vr hw hv)
def Pure.args{P:Program}{f:FuncId}{args args':List AV}{r:AV}(h:Pure P f args r)(hw:Wks args' args):Pure P f args' r:=fun n H=>(h n H).args hw
def Wk.sln(k:Nat):Wk (.sln k) (.sl k [] .any):=.sem fun _ _ h=>h.Zse
def Wk.Xg(k:Nat):Wk .Xg (.sl k [] .full):=.sem fun _ _ h=>h.ZiU
end
end Go.Abs

namespace Go.Proofs
open Go.Shelf
def Tryz.lays190_ren:Go.Shelf.Ren:=⟨fun|190=>105|125=>97|258=>165|128=>150|129=>151|302=>204|303=>205|304=>206|305=>207|306=>208|307=>209|308=>210|309=>211|310=>212|333=>241|329=>193|330=>194|334=>242|335=>243|336=>244|344=>269|n=>n,fun|31=>35|9=>9|3=>3|46=>144|0=>0|51=>194|53=>196|4=>4|183=>188|182=>187|131=>165|5=>5|218=>223|222=>227|228=>253|229=>254|n=>n,fun|n=>n⟩
def Tryz.lays190:Go.Proofs.Lays.n190 prog Tryz.lays190_ren:=by
 repeat' first|kernel_rfl|exact bO|(intro w;kernel_rfl)|constructor
def Tryz.lays194_ren:Go.Shelf.Ren:=⟨fun|194=>106|n=>n,fun|31=>35|9=>9|3=>3|4=>4|0=>0|n=>n,fun|n=>n⟩
def Tryz.lays194:Go.Proofs.Lays.n194 prog Tryz.lays194_ren:=by
 repeat' first|kernel_rfl|exact bO|(intro w;kernel_rfl)|constructor
end Go.Proofs
