/- Ordered lists without duplicates; ordered bindings. No program. -/
import Derived.Test.YtmdeagmbfhbbnaaGreatDoorRM04
import Derived.Lib.SlicesCompact
import Derived.Shelf.Sort.Plain
import Derived.Lib.RowBridge
import Derived.Shelf.Slices.CompactS
import Derived.Shelf.Slices.In.SortNone
set_option linter.all false
set_option maxRecDepth 100000
open Go.Proofs.Tryz
namespace Go.Abs
open Go.Proofs.YtmdeagmbfhbbnaaGreatDoorR
structure Zhx {α:Type} (G:α→Prop) (c:α→α→Int):Prop where
 ex:∃f:α→List Int,∀x y,G x→G y→c x y=lexI (f x) (f y)
 zero:∀x y,G x→G y→c x y=0→x=y
namespace Zhx
variable {α:Type} {G:α→Prop} {c:α→α→Int} (h:Zhx G c)
include h
def self{x:α}(hx:G x):c x x=0:=by
 obtain⟨f,hf⟩:=h.ex;rw[hf x x hx hx,lexI_self]
def anti{x y:α}(hx:G x)(hy:G y):c y x= -c x y:=by
 obtain⟨f,hf⟩:=h.ex;rw[hf x y hx hy,hf y x hy hx,lexI_anti]
def trans{x y z:α}(hx:G x)(hy:G y)(hz:G z)(h1:c x y<0)(h2:c y z<0):c x z<0:=by
 obtain⟨f,hf⟩:=h.ex;rw[hf _ _ hx hy]at h1;rw[hf _ _ hy hz]at h2;rw[hf _ _ hx hz];exact ZkE h1 h2
def Zit{x:α}(hx:G x):∀{r:List α},(∀y∈r,G y)→ ∀z,z∈Zeq c x r↔z=x∨z∈r
 |[],_,z=>by simp[Zeq]
 |y::r,hr,z=>by
  have ih:=Zit hx (r:=r) (fun y hy=>hr y (by simp[hy])) z;unfold Zeq;split
  ·rename_i e;have:=h.zero x y hx (hr y sm) e;subst this;simp
  ·split
   ·simp
   ·simp only[Ql,ih];constructor
    ·rintro(a|a|a)
     ·exact .inr (.inl a)
     ·exact .inl a
     ·exact .inr (.inr a)
    ·rintro(a|a|a)
     ·exact .inr (.inl a)
     ·exact .inl a
     ·exact .inr (.inr a)
def ZnC{x:α}(hx:G x):∀{r:List α},(∀y∈r,G y)→r.Pairwise (fun a b=>c a b<0)→(Zeq c x r).Pairwise (fun a b=>c a b<0)
 |[],_,_=>by simp[Zeq]
 |y::r,hr,hp=>by
  have hy:=hr y sm;have hr':∀z∈r,G z:=fun z hz=>hr z (by simp[hz])
  rw[UN]at hp;unfold Zeq;split
  ·exact UN.2 hp
  ·rename_i e;split
   ·rename_i e';refine UN.2 ⟨fun z hz=>?_,UN.2 hp⟩;rcases Ql.1 hz with rfl|hz
    ·exact e'
    ·exact h.trans hx hy (hr' z hz) e' (hp.1 z hz)
   ·rename_i e';refine UN.2 ⟨fun z hz=>?_,ZnC hx hr' hp.2⟩;rcases(h.Zit hx hr' z).1 hz with rfl|hz
    ·have:=h.anti hx hy;omega
    ·exact hp.1 z hz
def set_mem:∀{l:List α},(∀y∈l,G y)→ ∀z,z∈XT c l↔z∈l
 |[],_,z=>by simp[XT]
 |x::l,hl,z=>by
  have hl':∀y∈l,G y:=fun y hy=>hl y (by simp[hy])
  have ih:=set_mem hl';show z∈Zeq c x (XT c l)↔_;rw[h.Zit (hl x sm) (fun y hy=>hl' y ((ih y).1 hy)),ih z,Ql]
def set_asc:∀{l:List α},(∀y∈l,G y)→(XT c l).Pairwise (fun a b=>c a b<0)
 |[],_=>List.Pairwise.nil
 |x::l,hl=>by
  have hl':∀y∈l,G y:=fun y hy=>hl y (by simp[hy])
  exact h.ZnC (hl x sm) (fun y hy=>hl' y ((h.set_mem hl' y).1 hy)) (set_asc hl')
theorem unique:∀{p q:List α},(∀y∈p,G y)→p.Pairwise (fun a b=>c a b<0)→q.Pairwise (fun a b=>c a b<0)→(∀x,x∈p↔x∈q)→p=q
 |[],[],_,_,_,_=>rfl
 |[],y::q,_,_,_,e=>absurd ((e y).2 sm) sm
 |x::p,[],_,_,_,e=>absurd ((e x).1 sm) sm
 |x::p,y::q,hG,hp,hq,e=>by
  rw[UN]at hp hq;have hx:=hG x sm;have hy:G y:=hG y ((e y).2 sm);have exy:x=y:=by
   rcases Ql.1 ((e x).1 sm)with h1|h1
   ·exact h1
   ·rcases Ql.1 ((e y).2 sm)with h2|h2
    ·exact h2.symm
    ·have h3:=hq.1 x h1;have h4:=hp.1 y h2;have:=h.anti hx hy;omega
  subst exy;have hG':∀z∈p,G z:=fun z hz=>hG z (by simp[hz])
  congr 1
  refine unique hG' hp.2 hq.2 fun z=>⟨fun hz=>?_,fun hz=>?_⟩
  ·rcases Ql.1 ((e z).1 (by simp[hz]))with rfl|h1
   ·have:=hp.1 _ hz;rw[h.self hx]at this;omega
   ·exact h1
  ·rcases Ql.1 ((e z).2 (by simp[hz]))with rfl|h1
   ·have:=hq.1 _ hz;rw[h.self hx]at this;omega
   ·exact h1
end Zhx
def Zf3(s t:List UInt8):Lib.compareBytes s t=lexI (Zfp s) (Zfp t):=by
 have:=lex_serS s t [] [];simp only[Qs]at this;rw[this,show lexI ([]:List Int) []=0 from rfl,Jv]
def serN:Zhx (fun _:List UInt8=>True) Lib.compareBytes:=⟨⟨Zfp,fun x y _ _=>Zf3 x y⟩,fun _ _ _ _ h=>cmpBytes_zero h⟩
def serI:Zhx (fun _:Int=>True) YO:=⟨⟨fun x=>[x],fun x y _ _=>by simp[lexI,Jv]⟩,fun _ _ _ _ h=>ZaI h⟩
def ZtA(t:Tm):nmT t=(if t.kind=3 then [t.name]else [])++nmT.nms t.args:=by cases t;rw[nmT];rfl
theorem nms_eq:∀l:List Tm,nmT.nms l=l.flatMap nmT
 |[]=>rfl
 |t::r=>by rw[nmT.nms,nms_eq r];rfl
theorem Jm(b:Bnd):∀l:List Tm,Zv.apps b l=l.map (Zv b)
 |[]=>rfl
 |t::r=>by rw[Zv.apps,Jm b r];rfl
def X5(t:Tm)(n:List UInt8):n∈ZU t↔n∈nmT t:=serN.set_mem (fun _ _=>trivial) n
/-! Ordered bindings. -/
def Jg(b:Bnd):Prop:=b.Pairwise fun p q=>Lib.compareBytes p.1 q.1<0
def Zp(b:Bnd):List (List UInt8):=b.map Prod.fst
def WZ{n:List UInt8}:∀{b:Bnd},Zz n b=none↔n∉Zp b
 |[]=>by simp[Zz,Zp]
 |p::r=>by
  have:=WZ (n:=n) (b:=r);simp only[Zz,Zp,Qv,Ql,not_or]at*;split
  ·rename_i e;simp[e]
  ·rename_i e;rw[this];exact⟨fun h=>⟨fun e'=>e e'.symm,h⟩,fun h=>h.2⟩
section
variable {b:Bnd} {n:List UInt8}
def ZX:(∃v,Zz n b=some v)↔n∈Zp b:=by
 have:=WZ (n:=n) (b:=b);cases h:Zz n b with
 |none=>simp[this.1 h]
 |some v=>simp only[h,reduceCtorEq,false_iff,Classical.not_not]at this;simp[this]
def ZaF{n:List UInt8}{v:Tm}:∀{b:Bnd},Zz n b=some v→(n,v)∈b
 |[],h=>by cases h
 |p::r,h=>by
  simp only[Zz]at h;split at h
  ·rename_i e;cases h;simp[←e]
  ·exact Qz _ (ZaF h)
def ZaO{n:List UInt8}{v:Tm}:∀{b:Bnd},Jg b→(n,v)∈b→Zz n b=some v
 |p::r,hb,h=>by
  rw[Jg,UN]at hb;simp only[Zz];rcases Ql.1 h with rfl|h
  ·simp
  ·have h1:=hb.1 _ h;split
   ·rename_i e;rw[←e,cmpBytes_self]at h1;omega
   ·exact ZaO hb.2 h
def VN(n m:List UInt8)(v:Tm):∀b:Bnd,Zz m (WH n v b)=if n=m then some v else Zz m b
 |[]=>by simp[WH,Zz]
 |p::r=>by
  simp only[WH];split
  ·rename_i h;have:=VN n m v r;simp only[Zz,this];by_cases e:n=m
   ·subst e;rw[if_pos rfl,if_neg (fun e=>by rw[e,cmpBytes_self]at h;omega)];simp
   ·simp[e]
  ·simp only[Zz]
def Zb0{n:List UInt8}{v:Tm}:∀{b:Bnd} {q},q∈WH n v b↔q=(n,v)∨q∈b
 |[],q=>by simp[WH]
 |p::r,q=>by
  simp only[WH];split
  ·simp only[Ql,Zb0 (b:=r)];constructor
   ·rintro(a|a|a)
    ·exact .inr (.inl a)
    ·exact .inl a
    ·exact .inr (.inr a)
   ·rintro(a|a|a)
    ·exact .inr (.inl a)
    ·exact .inl a
    ·exact .inr (.inr a)
  ·simp
def ZdX{m:List UInt8}{v:Tm}:m∈Zp (WH n v b)↔m=n∨m∈Zp b:=by
 simp only[Zp,Qi,Zb0];constructor
 ·rintro⟨q,rfl|hq,rfl⟩
  ·exact .inl rfl
  ·exact .inr ⟨q,hq,rfl⟩
 ·rintro(rfl|⟨q,hq,rfl⟩)
  ·exact⟨(m,v),.inl rfl,rfl⟩
  ·exact⟨q,.inr hq,rfl⟩
def Zg1{n:List UInt8}{v:Tm}:∀{b:Bnd},Jg b→n∉Zp b→Jg (WH n v b)
 |[],_,_=>by simp[WH,Jg]
 |p::r,hb,hn=>by
  have hb':=hb;rw[Jg,UN]at hb;simp only[Zp,Qv,Ql,not_or]at hn;simp only[WH];split
  ·rename_i h;refine UN.2 ⟨fun q hq=>?_,Zg1 hb.2 hn.2⟩;rcases Zb0.1 hq with rfl|hq
   ·exact h
   ·exact hb.1 q hq
  ·rename_i h;have h1:Lib.compareBytes n p.1<0:=by
    have:=serN.anti (x:=p.1) (y:=n) trivial trivial;have h2:Lib.compareBytes p.1 n≠0:=fun e=>hn.1 (cmpBytes_zero e).symm
    omega
   refine UN.2 ⟨fun q hq=>?_,hb'⟩;rcases Ql.1 hq with rfl|hq
   ·exact h1
   ·exact serN.trans (y:=p.1) trivial trivial trivial h1 (hb.1 q hq)
def Zj3{p:List UInt8×Tm→Bool}(h:Jg b):Jg (b.filter p):=List.Pairwise.filter p h
def ZdJ(h:Jg b):(Zp b).Pairwise fun x y=>Lib.compareBytes x y<0:=G7.2 h
def Zin{c:Bnd}(hb:Jg b)(hc:Jg c)(h:∀n,n∈Zp b↔n∈Zp c):Zp b=Zp c:=
 serN.unique (fun _ _=>trivial) (ZdJ hb) (ZdJ hc) h
theorem bnd_ext:∀{b c:Bnd},Jg b→Jg c→(∀n,Zz n b=Zz n c)→b=c:=fun{b c} hb hc h=>by
 have hd:Zp b=Zp c:=Zin hb hc fun n=>by rw[←ZX,←ZX,h n]
 refine Qbm fun i=>?_
 have h1:(Zp b)[i]? =(Zp c)[i]?:=by rw[hd]
 simp only[Zp,Ua]at h1;cases hi:b[i]? with
 |none=>rw[hi]at h1;cases hj:c[i]? with
  |none=>rfl
  |some q=>rw[hj]at h1;cases h1
 |some p=>rw[hi]at h1;cases hj:c[i]? with
  |none=>rw[hj]at h1;cases h1
  |some q=>
   rw[hj]at h1;simp only[Us,Qp]at h1;have a1:=ZaO hb (n:=p.1) (v:=p.2) (GH hi);have a2:=ZaO hc (n:=q.1) (v:=q.2) (GH hj);rw[h,h1,a2]at a1;exact congrArg some (Qbc h1 (U7 a1).symm)
def Zdq{p:List UInt8→Bool}(n:List UInt8):∀b:Bnd,Zz n (b.filter fun q=>p q.1)=if p n=true then Zz n b else none
 |[]=>by simp[Zz]
 |q::r=>by
  have ih:=Zdq (p:=p) n r;simp only[Qbs];split
  ·rename_i h;simp only[Zz,ih];by_cases e:q.1=n
   ·subst e;simp[h]
   ·simp[e]
  ·rename_i h;simp only[Zz,ih];by_cases e:q.1=n
   ·subst e;simp[h]
   ·simp[e]
def YM(b c:Bnd):Prop:=∀n v,Zz n b=some v→Zz n c=some v
def YM.refl(b:Bnd):YM b b:=fun _ _ h=>h
def YM.trans{c d:Bnd}(h:YM b c)(h':YM c d):YM b d:=fun n v e=>h' n v (h n v e)
def YM.ext(hn:n∉Zp b)(v:Tm):YM b (WH n v b):=fun m w h=>by
 rw[VN,if_neg]
 ·exact h
 ·rintro rfl;rw[WZ.2 hn]at h;cases h
end
end Go.Abs

namespace Go.Proofs.YtmdeagmbfhbbnaaGreatDoorR
open Go.Abs
inductive Fa2 {α β:Type} (R:α→β→Prop):List α→List β→Prop
 |nil:Fa2 R [] []
 |cons {a b p q}:R a b→Fa2 R p q→Fa2 R (a::p) (b::q)
theorem Fa2.len{α β:Type}{R:α→β→Prop}:∀{p:List α} {q:List β},Fa2 R p q→p.length=q.length
 |_,_,.nil=>rfl
 |_,_,.cons _ h=>congrArg (· +1) h.len
def Fa2.mono{α β:Type}{R R':α→β→Prop}:∀{p:List α} {q:List β},Fa2 R p q→(∀a∈p,∀b,R a b→R' a b)→Fa2 R' p q
 |_,_,.nil,_=>.nil
 |_,_,.cons h t,f=>.cons (f _ sm _ h) (t.mono fun a ha=>f a (by simp[ha]))
def Fa2.left{α β:Type}{R:α→β→Prop}{a:α}:∀{p:List α} {q:List β},Fa2 R p q→a∈p→ ∃b∈q,R a b
 |_,_,.cons h t,m=>by
  rcases Ql.1 m with rfl|m
  ·exact⟨_,sm,h⟩
  ·obtain⟨b,hb,h⟩:=t.left m;exact⟨b,by simp[hb],h⟩
def Fa2.right{α β:Type}{R:α→β→Prop}{b:β}:∀{p:List α} {q:List β},Fa2 R p q→b∈q→ ∃a∈p,R a b
 |_,_,.cons h t,m=>by
  rcases Ql.1 m with rfl|m
  ·exact⟨_,sm,h⟩
  ·obtain⟨a,ha,h⟩:=t.right m;exact⟨a,by simp[ha],h⟩
def Zhd{α:Type}:∀{ps:List (List α)} {r:List α},r∈Z7 ps↔Fa2 (fun x p=>x∈p) r ps
 |[],r=>by
  simp only[Z7,Qm];constructor
  ·rintro rfl;exact .nil
  ·intro h;cases h;rfl
 |p::ps,r=>by
  simp only[Z7,Qx,Qi,Zhd (ps:=ps)];constructor
  ·rintro⟨x,hx,q,hq,rfl⟩;exact .cons hx hq
  ·intro h;cases h with|cons hx hq=>exact⟨_,hx,_,hq,rfl⟩
def expandSs_fa:∀{l:List Tm} {ps:List (List Tm)},expandS.expandSs l=some ps→Fa2 (fun t p=>expandS t=some p) l ps
 |[],ps,h=>by simp only[expandS.expandSs,Qp]at h;subst h;exact .nil
 |t::r,ps,h=>by
  simp only[expandS.expandSs,U1]at h;obtain⟨p,hp,q,hq,h⟩:=h;cases h;exact .cons hp (expandSs_fa hq)
theorem fa_expandSs:∀{l:List Tm} {ps:List (List Tm)},Fa2 (fun t p=>expandS t=some p) l ps→expandS.expandSs l=some ps
 |_,_,.nil=>rfl
 |_,_,.cons h t=>by simp only[expandS.expandSs,h,fa_expandSs t];rfl
def deps_le:∀(l:List Tm) (m d:Int),m≤d→(∀u∈l,dep u≤d)→dep.deps l m≤d
 |[],_,_,h,_=>h
 |t::r,m,d,h,hl=>by
  simp only[dep.deps];refine deps_le r _ d ?_ fun u hu=>hl u (by simp[hu])
  split
  ·exact hl t sm
  ·exact h
def le_deps:∀(l:List Tm) (m:Int),m≤dep.deps l m∧ ∀u∈l,dep u≤dep.deps l m
 |[],m=>⟨G6 _,fun u hu=>by cases hu⟩
 |t::r,m=>by
  simp only[dep.deps];have:=le_deps r (if dep t>m then dep t else m);refine⟨by have:=this.1;split at this<;>rename_i h<;>simp only[h,if_true,if_false]<;>omega,fun u hu=>?_⟩;rcases Ql.1 hu with rfl|hu
  ·have:=this.1;split at this<;>rename_i h<;>simp only[h,if_true,if_false]<;>omega
  ·exact this.2 u hu
section
variable {t u:Tm}
def ZfE(h:u∈t.args):dep u+1≤dep t:=by
 rw[Zjo t];have:=(le_deps t.args 0).2 u h;omega
def Ztn{d:Int}(h0:0≤d)(h:∀u∈t.args,dep u≤d):dep t≤d+1:=by
 rw[Zjo t];have:=deps_le t.args 0 d h0 h;omega
def ZmZ(t:Tm):1≤dep t:=(dep_sz t).1
def okG(t:Tm):Bool:=shape t&& !(t.kind==3)
def ZhI(h:okG t=true):(okv t=true∧(t.kind=1∨t.kind=2)∧t.args=[])∨(okv t=true∧t.kind=4∧t.num=0∧sym t.name=true∧1≤t.args.length∧t.args.length≤8)∨
  (t.kind=5∧1≤t.args.length∧t.args.length≤2)∨(t.kind=6∧t.args.length=2):=by
 unfold okG at h;rw[Qd]at h;obtain⟨h,h3⟩:=h;by_cases k1:t.kind=1
 ·refine .inl ⟨by simp[okv,plain,k1,h],.inl k1,?_⟩;simp[shape,k1,nargs]at h;exact h.2
 by_cases k2:t.kind=2
 ·refine .inl ⟨by simp[okv,plain,k2,h],.inr k2,?_⟩;simp[shape,k2,nargs]at h;exact h.2
 by_cases k4:t.kind=4
 ·have hv:okv t=true:=by simp[okv,plain,k4,h]
  rcases XK hv with h1|h1|h1
  ·omega
  ·omega
  ·exact .inr (.inl ⟨hv,h1⟩)
 by_cases k3:t.kind=3
 ·simp[k3]at h3
 by_cases k5:t.kind=5
 ·refine .inr (.inr (.inl ⟨k5,?_⟩));simp[shape,k5,nargs,named]at h;omega
 by_cases k6:t.kind=6
 ·refine .inr (.inr (.inr ⟨k6,?_⟩));simp[shape,k6,nargs]at h;omega
 ·simp[shape,k1,k2,k3,k4,k5,k6]at h
variable {n:Int}
def ZfO(h:Y6 n=true):(Ye n).all okv=true:=by
 simp only[Y6,Qd,decide_eq_true_eq]at h;simp[Ye,Tm.all,Tm.all.alls,okv,plain,shape,nargs,Tm.kind,Tm.num,Tm.name,Tm.args,h]
theorem ZfK(n:Int):dep (Ye n)=1:=rfl
def ZhK{op:List UInt8}{a:List Int}(h:Wj op a=some n):Y6 n=true:=by
 unfold Wj at h;split at h
 ·rename_i ha;split at h
  ·rename_i x;split at h
   ·cases h;simp only[Qbp,List.all_nil,Qao,Y6,Qd,decide_eq_true_eq]at ha⊢;omega
   ·cases h
  ·simp only[VX,U1]at h;obtain⟨m,_,h⟩:=h;split at h
   ·rename_i hm;cases h;exact hm
   ·cases h
  ·cases h
 ·cases h
def min_mem:∀(l:List Int) (x:Int),l.foldl min x∈x::l
 |[],x=>by simp
 |y::l,x=>by
  have:=min_mem l (min x y);simp only[Uz];rcases Ql.1 this with h|h
  ·rw[h];rcases Int.le_total x y with h'|h'
   ·rw[Int.min_eq_left h'];simp
   ·rw[Int.min_eq_right h'];simp
  ·simp[h]
def max_mem:∀(l:List Int) (x:Int),l.foldl max x∈x::l
 |[],x=>by simp
 |y::l,x=>by
  have:=max_mem l (max x y);simp only[Uz];rcases Ql.1 this with h|h
  ·rw[h];rcases Int.le_total x y with h'|h'
   ·rw[Int.max_eq_right h'];simp
   ·rw[Int.max_eq_left h'];simp
  ·simp[h]
variable {l:List Int}
def Zp2(h:l≠[]):minS l∈l:=by
 cases l with
 |nil=>exact absurd rfl h
 |cons x r=>exact min_mem r x
def Zqm(h:l≠[]):maxS l∈l:=by
 cases l with
 |nil=>exact absurd rfl h
 |cons x r=>exact max_mem r x
def ZhQ{l:List Tm}(h:∀v∈l,v.all okv=true):∀n∈Yp l,Y6 n=true:=fun n hn=>by
 simp only[Yp,Qi,Uy,beq_iff_eq]at hn;obtain⟨v,⟨hv,hk⟩,rfl⟩:=hn;have:=Ym (h v hv);rcases XK this with h1|h1|h1
 ·simp[Y6,h1]
 ·omega
 ·omega
variable {s:List UInt8}
def Zah{k:Int}{a l:List Tm}(he:expandS (.mk k n s a)=some l)(h:a≠[]):∃ps,expandS.expandSs a=some ps∧(if k=6 then WY (Yp (ps.getD 0 [])) (Yp (ps.getD 1 []))else if k=5 then Zbu s ps else ZcX s ps)=some l:=by
 cases a with
 |nil=>exact absurd rfl h
 |cons u r=>
  simp only[expandS,U1]at he;exact he
def Vy{k:Int}:expandS (.mk k n s [])=some [.mk k n s []]:=by rw[expandS]
def expand_val:∀(t:Tm),t.all okG=true→ ∀l,expandS t=some l→ ∀v∈l,v.all okv=true∧dep v≤dep t
 | .mk k n s a,hG,l,he,v,hv=>by
  have ih:∀u∈a,∀p,expandS u=some p→ ∀v∈p,v.all okv=true∧dep v≤dep u:=fun u hu p hp v hv=>expand_val u (YV hG hu) p hp v hv
  have h0:=ZhI (Ym hG);simp only[Tm.kind,Tm.args,Tm.num,Tm.name]at h0;by_cases ha:a=[]
  ·subst ha;rw[Vy]at he;cases he;simp only[Qm]at hv;subst hv;refine⟨?_,G6 _⟩;rcases h0 with h|h|h|h
   ·simp only[Tm.all,Tm.all.alls,h.1,Qao]
   ·exact absurd h.2.2.2.2.1 sm
   ·exact absurd h.2.1 sm
   ·exact absurd h.2 sm
  obtain⟨ps,hps,he⟩:=Zah he ha;have hf:=expandSs_fa hps;have hp:∀p∈ps,∀v∈p,v.all okv=true:=fun p hp v hv=>by
   obtain⟨u,hu,hup⟩:=hf.right hp;exact(ih u hu p hup v hv).1
  have hi:∀i,∀m∈Yp (ps.getD i []),Y6 m=true:=fun i m hm=>by
   refine ZhQ (l:=ps.getD i []) (fun v hv=>?_) m hm;rw[Qn]at hv;cases e:ps[i]? with
   |none=>rw[e]at hv;cases hv
   |some p=>rw[e]at hv;exact hp p (GH e) v hv
  have hd:=ZmZ (.mk k n s a);by_cases k6:k=6
  ·rw[if_pos k6]at he;unfold WY at he;split at he
   ·cases he;cases hv
   ·rename_i hne;rw[not_or]at hne;split at he
    ·cases he
    ·rename_i hc;cases he;obtain⟨i,hi',rfl⟩:=Qi.1 hv;have h1:=hi 0 _ (Zp2 hne.1);have h2:=hi 1 _ (Zqm hne.2);simp only[Y6,Qd,decide_eq_true_eq]at h1 h2;rw[U9]at hi';refine⟨ZfO ?_,?_⟩
     ·simp only[Y6,Qd,decide_eq_true_eq];omega
     ·rw[ZfK];exact hd
  ·rw[if_neg k6]at he;by_cases k5:k=5
   ·rw[if_pos k5]at he;unfold Zbu Zo7 at he;split at he
    ·cases he
    ·cases he;obtain⟨m,hm,rfl⟩:=Qi.1 hv;rw[serI.set_mem (fun _ _=>trivial)]at hm;obtain⟨r,hr,hm⟩:=QaF.1 hm;exact⟨ZfO (ZhK hm),by rw[ZfK];exact hd⟩
   ·rw[if_neg k5]at he;unfold ZcX at he;split at he
    ·cases he;cases hv
    ·simp only[U1,Qp]at he;obtain⟨_,_,he⟩:=he;subst he;obtain⟨r,hr,rfl⟩:=Qi.1 hv;have hr:=Zhd.1 hr;rcases h0 with h|h|h|h
     ·exact absurd h.2.2 ha
     ·have hlen:r.length=a.length:=by rw[hr.len,hf.len]
      refine⟨?_,?_⟩
      ·rw[Tm.all_eq,Qd,Tm.WJ,Qy];refine⟨?_,fun w hw=>?_⟩
       ·have h1:=h.2.2.2.1;simp[okv,plain,shape,Tm.kind,Tm.num,Tm.name,Tm.args,named,nargs,h1,hlen];have:=Ztc h1;simp only[beq_eq_false_iff_ne]at this;exact⟨this,om,om⟩
       ·obtain⟨p,hpm,hw⟩:=hr.left hw;exact hp p hpm w hw
      ·have h1:dep (.mk 4 0 s r)≤(dep (.mk k n s a) - 1)+1:=Ztn om fun w hw=>by
        obtain⟨p,hpm,hw⟩:=hr.left (show w∈r from hw);obtain⟨u,hu,hup⟩:=hf.right hpm;have:=(ih u hu p hup w hw).2;have:=ZfE (t:=.mk k n s a) (u:=u) hu;omega
       omega
     ·exact absurd h.1 k5
     ·exact absurd h.1 k6
termination_by t=>SizeOf.sizeOf t
decreasing_by
 have:=QL hu;simp only[Tm.mk.sizeOf_spec];omega
def value_of(h:t.all okv=true)(hd:dep t≤12):Zo t=true:=by
 have e:t.all okv=(t.all plain&&t.all shape):=Zbf plain shape t;rw[e,Qd]at h;simp[Zo,YI,h,hd]
def ZhW(h:Zo t=true):dep t≤12:=by
 simp only[Zo,YI,Qd,decide_eq_true_eq]at h;exact h.2.1
def VL(h:Zo t=true)(hu:u∈t.args):Zo u=true:=value_of (YV (Xr h) hu) (by have:=ZhW h;have:=ZfE hu;omega)
theorem expand_self:∀(t:Tm),t.all okv=true→expandS t=some [t]
 | .mk k n s a,h=>by
  have ih:∀u∈a,expandS u=some [u]:=fun u hu=>expand_self u (YV h hu)
  cases a with
  |nil=>exact Vy
  |cons u r=>
   have h0:=XK (Ym h);simp only[Tm.kind,Tm.args,Tm.num,Tm.name]at h0;rcases h0 with h0|h0|h0
   ·exact absurd h0.2.2.2.2 sm
   ·exact absurd h0.2.2.2 sm
   ·have hps:expandS.expandSs (u::r)=some ((u::r).map fun x=>[x]):=by
     refine fa_expandSs ?_;have:∀q:List Tm,(∀x∈q,x∈u::r)→Fa2 (fun t p=>expandS t=some p) q (q.map fun x=>[x]):=by
      intro q;induction q with
      |nil=>intro _;exact .nil
      |cons x q ihq=>intro hq;exact .cons (ih x (hq x sm)) (ihq fun y hy=>hq y (by simp[hy]))
     exact this _ fun x hx=>hx
    have hrow:∀q:List Tm,Z7 (q.map fun x=>[x])=[q]:=by
     intro q;induction q with
     |nil=>rfl
     |cons x q ihq=>simp[Z7,ihq]
    have hcnt:∀q:List Tm,Zkr (q.map fun x=>[x])=some 1:=by
     intro q;unfold Zkr;induction q with
     |nil=>rfl
     |cons x q ihq=>simp only[Qv,MQ];exact ihq
    have hany:((u::r).map fun x=>[x]).any (·.isEmpty)=false:=by
     rw[Qar];intro p hp;obtain⟨x,_,rfl⟩:=Qi.1 hp;simp
    have k6:¬k=6:=om;have k5:¬k=5:=om;have e1:k=4:=h0.1;have e2:n=0:=h0.2.1;simp only[expandS,hps,UJ,if_neg k6,if_neg k5];unfold ZcX;rw[if_neg (by rw[hany];simp),hcnt,hrow,e1,e2];rfl
termination_by t=>SizeOf.sizeOf t
decreasing_by
 have:=QL hu;simp only[Tm.mk.sizeOf_spec];omega
def okv_nm:∀(t:Tm),t.all okv=true→t.Nm
 | .mk k n s a,h=>by
  have h0:=XK (Ym h);simp only[Tm.kind,Tm.args,Tm.num,Tm.name]at h0;have ih:∀u∈a,u.Nm:=fun u hu=>okv_nm u (YV h hu)
  rcases h0 with h0|h0|h0
  ·refine .mk _ _ _ _ ?_ om om (by rw[h0.2.2.2.2];simp) ih;rw[h0.2.2.2.1];simp
  ·refine .mk _ _ _ _ ?_ om om (by rw[h0.2.2.2];simp) ih;have:=Zds h0.2.2.1;omega
  ·refine .mk _ _ _ _ ?_ om om om ih;have:=Zds h0.2.2.1;omega
termination_by t=>SizeOf.sizeOf t
decreasing_by
 have:=QL hu;simp only[Tm.mk.sizeOf_spec];omega
def JK(h:Zo t=true):t.Nm:=okv_nm t (Xr h)
def Wh(ht:Zo t=true)(hu:Zo u=true):cmpT t u=0↔t=u:=by
 constructor
 ·exact cmpT_zero (JK ht) (JK hu)
 ·rintro rfl;rw[Zj9 (JK ht) (JK ht),lexI_self]
end
structure ZI (b:Bnd):Prop where
 asc:Jg b
 val:∀q∈b,Zo q.2=true
section
variable {v:Tm} {b:Bnd}
def ZI.look(h:ZI b){n:List UInt8}(e:Zz n b=some v):Zo v=true:=h.val _ (ZaF e)
def ZI.ext(h:ZI b){n:List UInt8}(hn:n∉Zp b)(hv:Zo v=true):ZI (WH n v b):=
 ⟨Zg1 h.asc hn,fun q hq=>by rcases Zb0.1 hq with rfl|hq;all_goals first|exact hv|exact h.val q hq⟩
def ZI.filter{b:Bnd}(h:ZI b)(p:List UInt8×Tm→Bool):ZI (b.filter p):=⟨Zj3 h.asc,fun q hq=>h.val q (Uy.1 hq).1⟩
def Jd(S:List (List UInt8))(b:Bnd):Bnd:=b.filter fun q=>decide (q.1∈S)
def ZaJ(S:List (List UInt8))(b:Bnd)(n:List UInt8):Zz n (Jd S b)=if n∈S then Zz n b else none:=by
 have:=Zdq (p:=fun m=>decide (m∈S)) n b;simp only[decide_eq_true_eq]at this;exact this
def Zec{S:List (List UInt8)}{n:List UInt8}:n∈Zp (Jd S b)↔n∈S∧n∈Zp b:=by
 rw[←ZX,ZaJ,←ZX];split<;>rename_i h<;>simp[h]
def Zkt(S:List (List UInt8))(b:Bnd):YM (Jd S b) b:=fun n v h=>by
 rw[ZaJ]at h;split at h
 ·exact h
 ·cases h
variable {c:Bnd}
def Vq(h:YM b c){n:List UInt8}(hn:n∈Zp b):Zz n b=Zz n c:=by
 obtain⟨v,hv⟩:=ZX.2 hn;rw[hv,h n v hv]
def ZfN(h:YM b c){n:List UInt8}(hn:n∈Zp b):n∈Zp c:=by
 obtain⟨v,hv⟩:=ZX.2 hn;exact ZX.1 ⟨v,h n v hv⟩
def Zan(b:Bnd)(k n:Int)(s:List UInt8)(l:List Tm):Zv b (.mk k n s l)=match (if k=3 then Zz s b else none)with
  |some v=>v
  |none=>.mk k n s (l.map (Zv b)):=by rw[Zv,Jm];rfl
variable {l:List Tm} {s:List UInt8} {n:Int}
def Wp(h:Zz s b=some v):Zv b (.mk 3 n s l)=v:=by rw[Zan,if_pos rfl,h]
variable {k:Int}
def XI(h:¬k=3):Zv b (.mk k n s l)= .mk k n s (l.map (Zv b)):=by rw[Zan,if_neg h]
variable {m:List UInt8}
def ZeP{u:Tm}(hu:u∈l)(hm:m∈nmT u):m∈nmT (.mk k n s l):=by
 rw[nmT,nms_eq];exact QS _ (Qx.2 ⟨u,hu,hm⟩)
def ZcS:s∈nmT (.mk 3 n s l):=by rw[nmT];simp
def ZsE(h:m∈nmT (.mk k n s l)):(k=3∧m=s)∨ ∃u∈l,m∈nmT u:=by
 rw[nmT,nms_eq]at h;rcases Qk.1 h with h|h
 ·split at h
  ·rename_i e;exact .inl ⟨e,by simpa using h⟩
  ·cases h
 ·obtain⟨u,hu,h⟩:=Qx.1 h;exact .inr ⟨u,hu,h⟩
def Zcm{b c:Bnd}:∀t:Tm,(∀n∈nmT t,Zz n b=Zz n c)→Zv b t=Zv c t
 | .mk k n s l,h=>by
  have hl:l.map (Zv b)=l.map (Zv c):=MH fun u hu=>Zcm u fun m hm=>h m (ZeP hu hm)
  rw[Zan,Zan,hl];by_cases hk:k=3
  ·subst hk;rw[if_pos rfl,if_pos rfl,h s ZcS]
  ·rw[if_neg hk,if_neg hk]
termination_by t=>SizeOf.sizeOf t
decreasing_by
 have:=QL hu;simp only[Tm.mk.sizeOf_spec];omega
variable {t:Tm}
def ZfB(h:YM b c)(ht:∀n∈nmT t,n∈Zp b):Zv b t=Zv c t:=Zcm t fun n hn=>Vq h (ht n hn)
def Zg8(l:List Tm)(h:∀n∈nmT.nms l,Zz n b=Zz n c):Zv.apps b l=Zv.apps c l:=by
 rw[Jm,Jm];rw[nms_eq]at h;exact MH fun u hu=>Zcm u fun n hn=>h n (Qx.2 ⟨u,hu,hn⟩)
def okV(t:Tm):Bool:=!(t.kind==3)||(t.args.isEmpty&& !t.name.isEmpty)
def Zd3(h:Tm.all okV (.mk 3 n s l)=true):l=[]:=by
 have:=Ym h;simp[okV,Tm.kind,Tm.args]at this;exact this.1
def Zjx(h:t.all okV=true)(hk:t.kind=3):t.name≠[]:=by
 have:=Ym h;simp[okV,hk]at this;exact this.2
theorem Jz{b:Bnd}(hb:ZI b):∀t:Tm,(∀n∈nmT t,n∈Zp b)→(Zv b t).all (fun u=>!(u.kind==3))=true
 | .mk k n s l,h=>by
  by_cases hk:k=3
  ·subst hk;obtain⟨v,hv⟩:=ZX.2 (h s ZcS);rw[Wp hv];have h1:=hb.look hv;simp only[Zo,Qd]at h1;have:∀u:Tm,u.all plain=true→u.all (fun u=>!(u.kind==3))=true:=by
    intro u;induction u using Tm.rec (motive_2:=fun l=>Tm.all.alls plain l=true→Tm.all.alls (fun u=>!(u.kind==3)) l=true)with
    |mk k n s l ih=>
     intro h;simp only[Tm.all,Qd]at h⊢;refine⟨?_,ih h.2⟩;have:=h.1;simp only[plain,Tm.kind,GR,beq_iff_eq]at this;simp only[Tm.kind,MJ,beq_eq_false_iff_ne];omega
    |nil=>rfl
    |cons t r h1 h2=>
     rename_i h;simp only[Tm.all.alls,Qd]at h⊢;exact⟨h1 h.1,h2 h.2⟩
   exact this v h1.1
  ·rw[XI hk,Tm.all_eq,Qd,Tm.WJ,Qy];refine⟨by simp[Tm.kind,hk],fun u hu=>?_⟩;obtain⟨w,hw,rfl⟩:=Qi.1 (show u∈l.map (Zv b) from hu);exact Jz hb w fun m hm=>h m (ZeP hw hm)
termination_by t=>SizeOf.sizeOf t
decreasing_by
 have:=QL hw;simp only[Tm.mk.sizeOf_spec];omega
def ZhV{b:Bnd}:∀t:Tm,t.all okV=true→(Zv b t).all plain=true→ ∀n∈nmT t,n∈Zp b
 | .mk k n s l,hV,hp,m,hm=>by
  rcases ZsE hm with⟨hk,rfl⟩|⟨u,hu,hm⟩
  ·subst hk;cases e:Zz m b with
   |some v=>exact ZX.1 ⟨v,e⟩
   |none=>
    rw[Zan,if_pos rfl,e]at hp;have:=Ym hp;simp[plain,Tm.kind]at this
  ·by_cases hk:k=3
   ·subst hk;rw[Zd3 hV]at hu;cases hu
   ·rw[XI hk]at hp;exact ZhV u (YV hV hu) (YV hp (Qi.2 ⟨u,hu,rfl⟩)) m hm
termination_by t=>SizeOf.sizeOf t
decreasing_by
 have:=QL hu;simp only[Tm.mk.sizeOf_spec];omega
/-! Expansions under a binding. -/
def X6(t:Tm)(h:∀n∈nmT t,Zz n b=Zz n c):Yz t b=Yz t c:=by unfold Yz;rw[Zcm t h]
def Zad(hb:ZI b)(ht:∀n∈nmT t,n∈Zp b)(hv:v∈(Yz t b).1):Zo v=true:=by
 unfold Yz at hv;split at hv
 ·rename_i hval;split at hv
  ·rename_i l hl;have hg:=Jz hb t ht;simp only[YI,Qd,decide_eq_true_eq]at hval;have hok:(Zv b t).all okG=true:=by
    have:=Zbf shape (fun u=>!(u.kind==3)) (Zv b t);rw[hval.2,hg]at this;exact this
   have:=expand_val _ hok l hl v hv;exact value_of this.1 om
  ·cases hv
 ·cases hv
def Ze9(h:Zo v=true):YI v=true:=by simp only[Zo,Qd]at h;exact h.2
def ZfM(hb:ZI b)(hk:t.kind=3)(hv:Zz t.name b=some v):Yz t b=([v],0):=by
 cases t with
 |mk k n s l=>
  simp only[Tm.kind,Tm.name]at hk hv;subst hk;have h1:=hb.look hv;unfold Yz;rw[Wp hv,Ze9 h1,if_pos rfl,expand_self v (Xr h1)]
/-! Matches. -/
def mat_sound:∀(t v:Tm) (b c:Bnd),t.all okV=true→Zo v=true→ZI b→matT t v b=some c→
  ZI c∧YM b c∧(∀n,n∈Zp c↔n∈Zp b∨n∈nmT t)∧Zv c t=v
 | .mk k n s l,v,b,c,hV,hv,hb,h=>by
  by_cases hk:k=3
  ·subst hk;have hl:=Zd3 hV;subst hl;have hnm:∀m,m∈nmT (.mk 3 n s [])↔m=s:=fun m=>by simp[nmT,nmT.nms]
   rw[matT,if_pos rfl]at h;cases e:Zz s b with
   |none=>
    rw[e]at h;cases h;have hn:=WZ.1 e;refine⟨hb.ext hn hv,YM.ext hn v,fun m=>?_,Wp (by rw[VN,if_pos rfl])⟩;rw[ZdX,hnm,or_comm]
   |some w=>
    rw[e]at h;simp only at h;split at h
    ·rename_i h0;cases h;have:=(Wh (hb.look e) hv).1 h0;subst this;refine⟨hb,YM.refl b,fun m=>?_,Wp e⟩;rw[hnm];constructor
     ·exact .inl
     ·rintro(h|rfl)
      ·exact h
      ·exact ZX.1 ⟨_,e⟩
    ·cases h
  ·have hlist:∀(r q:List Tm) (b c:Bnd),(∀u∈r,u∈l)→(∀u∈q,Zo u=true)→r.length=q.length→ZI b→matT.matL r q b=some c→
     ZI c∧YM b c∧(∀n,n∈Zp c↔n∈Zp b∨n∈nmT.nms r)∧r.map (Zv c)=q:=by
    intro r;induction r with
    |nil=>
     intro q b c _ _ hlen hb h;rw[matT.matL]at h;cases h;cases q with
     |nil=>exact⟨hb,YM.refl _,fun m=>by simp[nmT.nms],rfl⟩
     |cons _ _=>simp at hlen
    |cons u r ihr=>
     intro q b c hr hq hlen hb h;cases q with
     |nil=>simp at hlen
     |cons w q=>
      rw[matT.matL]at h;have hu:u∈l:=hr u sm;cases e:matT u w b with
      |none=>rw[e]at h;cases h
      |some d=>
       rw[e]at h;obtain⟨g1,x1,d1,a1⟩:=mat_sound u w b d (YV hV hu) (hq w sm) hb e;obtain⟨g2,x2,d2,a2⟩:=ihr q d c (fun y hy=>hr y (by simp[hy])) (fun y hy=>hq y (by simp[hy])) (by simpa using hlen) g1 h;refine⟨g2,x1.trans x2,fun m=>?_,?_⟩
       ·rw[d2,d1,nmT.nms,Qk,or_assoc]
       ·rw[Qv,a2,←ZfB x2 (fun m hm=>(d1 m).2 (.inr hm)),a1]
   rw[matT,if_neg hk]at h;split at h
   ·rename_i hc;have hargs:∀u∈v.args,Zo u=true:=fun u hu=>VL hv hu
    obtain⟨g,x,d,a⟩:=hlist l v.args b c (fun u h=>h) hargs hc.2.2.2 hb h;refine⟨g,x,fun m=>?_,?_⟩
    ·rw[d,nmT,if_neg hk,Q5]
    ·rw[XI hk,a,hc.1,hc.2.1,hc.2.2.1];cases v;rfl
   ·cases h
termination_by t=>SizeOf.sizeOf t
decreasing_by
 have:=QL hu;simp only[Tm.mk.sizeOf_spec];omega
def ZdL{σ:Bnd}(hσ:ZI σ):∀(t:Tm) (b:Bnd),t.all okV=true→YM b σ→(∀n∈nmT t,n∈Zp σ)→Zo (Zv σ t)=true→
  ∃c,matT t (Zv σ t) b=some c∧YM c σ
 | .mk k n s l,b,hV,hx,hn,hv=>by
  by_cases hk:k=3
  ·subst hk;obtain⟨u,hu⟩:=ZX.2 (hn s ZcS);rw[Wp hu,matT,if_pos rfl];cases e:Zz s b with
   |none=>
    refine⟨_,rfl,fun m w hw=>?_⟩;rw[VN]at hw;split at hw
    ·rename_i e';cases hw;rw[←e',hu]
    ·exact hx m w hw
   |some w=>
    have:=hx s w e;rw[hu]at this;cases this;exact⟨b,by simp[(Wh (hσ.look hu) (hσ.look hu)).2 rfl],hx⟩
  ·have hlist:∀(r:List Tm) (b:Bnd),(∀u∈r,u∈l)→YM b σ→ ∃c,matT.matL r (r.map (Zv σ)) b=some c∧YM c σ:=by
    intro r;induction r with
    |nil=>intro b _ hx;exact⟨b,rfl,hx⟩
    |cons u r ihr=>
     intro b hr hx;have hu:u∈l:=hr u sm;rw[XI hk]at hv;have hvu:Zo (Zv σ u)=true:=VL hv (Qi.2 ⟨u,hu,rfl⟩);obtain⟨c,hc,hx1⟩:=ZdL hσ u b (YV hV hu) hx (fun m hm=>hn m (ZeP hu hm)) hvu;obtain⟨d,hd,hx2⟩:=ihr c (fun y hy=>hr y (by simp[hy])) hx1;exact⟨d,by rw[Qv,matT.matL,hc];exact hd,hx2⟩
   obtain⟨c,hc,hx1⟩:=hlist l b (fun u h=>h) hx;refine⟨c,?_,hx1⟩;rw[XI hk,matT,if_neg hk];simp only[Tm.kind,Tm.num,Tm.name,Tm.args,Qw,and_self,if_true];exact hc
termination_by t=>SizeOf.sizeOf t
decreasing_by
 have:=QL hu;simp only[Tm.mk.sizeOf_spec];omega
def Zgg{q:List Tm}(hV:∀u∈l,u.all okV=true)(hq:∀u∈q,Zo u=true)(hlen:l.length=q.length)(hb:ZI b)(h:matT.matL l q b=some c):
  ZI c∧YM b c∧(∀n,n∈Zp c↔n∈Zp b∨n∈nmT.nms l)∧Zv.apps c l=q:=by
 induction l generalizing q b with
 |nil=>
  rw[matT.matL]at h;cases h;cases q with
  |nil=>exact⟨hb,YM.refl _,fun m=>by simp[nmT.nms],rfl⟩
  |cons _ _=>simp at hlen
 |cons u r ihr=>
  cases q with
  |nil=>simp at hlen
  |cons w q=>
   rw[matT.matL]at h;cases e:matT u w b with
   |none=>rw[e]at h;cases h
   |some d=>
    rw[e]at h;obtain⟨g1,x1,d1,a1⟩:=mat_sound u w b d (hV u sm) (hq w sm) hb e;obtain⟨g2,x2,d2,a2⟩:=ihr (fun y hy=>hV y (by simp[hy])) (fun y hy=>hq y (by simp[hy])) (by simpa using hlen) g1 h;refine⟨g2,x1.trans x2,fun m=>?_,?_⟩
    ·rw[d2,d1,nmT.nms,Qk,or_assoc]
    ·rw[Zv.apps,a2,←ZfB x2 (fun m hm=>(d1 m).2 (.inr hm)),a1]
def Zhs{σ:Bnd}(hσ:ZI σ)(hV:∀u∈l,u.all okV=true)(hx:YM b σ)(hn:∀n∈nmT.nms l,n∈Zp σ)(hv:∀u∈l,Zo (Zv σ u)=true):
  ∃c,matT.matL l (Zv.apps σ l) b=some c∧YM c σ:=by
 induction l generalizing b with
 |nil=>exact⟨b,rfl,hx⟩
 |cons u r ihr=>
  rw[nms_eq]at hn;obtain⟨c,hc,hx1⟩:=ZdL hσ u b (hV u sm) hx (fun m hm=>hn m (Qx.2 ⟨u,sm,hm⟩)) (hv u sm);obtain⟨d,hd,hx2⟩:=ihr (fun y hy=>hV y (by simp[hy])) hx1 (fun m hm=>hn m (by rw[nms_eq]at hm;obtain⟨y,hy,hm⟩:=Qx.1 hm;exact Qx.2 ⟨y,by simp[hy],hm⟩)) (fun y hy=>hv y (by simp[hy]));exact⟨d,by rw[Zv.apps,matT.matL,hc];exact hd,hx2⟩
end
def ZbQ(A:List Am)(σ:Bnd):Stp→Prop
 | .test x=>∃v∈(Yz x.L σ).1,∃w∈(Yz x.R σ).1,YX x.op v w=true
 | .bind n t=>∃v∈(Yz t σ).1,Zz n σ=some v
 | .atom a=>∃x∈A,x.sg=a.sg∧Zv.apps σ a.args=x.args
def varS:Stp→List (List UInt8)
 | .test x=>nmT x.L++nmT x.R
 | .bind n t=>n::nmT t
 | .atom a=>nmT.nms a.args
def Ready(S:List (List UInt8)):Stp→Prop
 | .test x=>∀n∈nmT x.L++nmT x.R,n∈S
 | .bind n t=>n∉S∧ ∀m∈nmT t,m∈S
 | .atom a=>∀u∈a.args,u.all okV=true
def ZfS{A:List Am}{b c:Bnd}:∀s:Stp,(∀n∈varS s,Zz n b=Zz n c)→(ZbQ A b s↔ZbQ A c s)
 | .test x,h=>by
  simp only[varS,Qk]at h;simp only[ZbQ,X6 x.L fun n hn=>h n (.inl hn),X6 x.R fun n hn=>h n (.inr hn)]
 | .bind n t,h=>by
  simp only[varS,Ql]at h;simp only[ZbQ,X6 t fun n hn=>h n (.inr hn),h n (.inl rfl)]
 | .atom a,h=>by
  simp only[ZbQ,Zg8 a.args h]
section
variable {b:Bnd}
def ZfR{c:Bnd}(hb:ZI b)(hc:ZI c)(hx:YM b c)(hd:∀n,n∈Zp c→n∈Zp b):b=c:=by
 refine bnd_ext hb.asc hc.asc fun n=>?_
 cases e:Zz n b with
 |some v=>exact(hx n v e).symm
 |none=>
  have:=WZ.1 e;exact(WZ.2 fun h=>this (hd n h)).symm
def Ze1{b:Bnd}:∀{l:List Tm} {i j:Int} {v:Tm},JF b l i=some (j,v)→ ∃k:Nat,j=i+k∧ ∃h:k<l.length,v=Zv b l[k]∧Zo v=true
 |t::r,i,j,v,h=>by
  simp only[JF]at h;split at h
  ·rename_i hv;cases h;exact⟨0,om,sm,rfl,hv⟩
  ·obtain⟨k,hj,hk,hv⟩:=Ze1 h;exact⟨k+1,om,by simp only[Qq];omega,by simpa using hv⟩
variable {x a:Am} {A:List Am}
def Zqj(h:x∈Vx A a b):x∈A∧x.sg=a.sg:=by
 unfold Vx at h;split at h
 ·have:=Uy.1 h;simp only[ZkN,Qd,beq_iff_eq]at this;exact⟨this.1,this.2.1.1.1⟩
 ·have:=Uy.1 h;simp only[beq_iff_eq]at this;exact this
def Zqk{σ:Bnd}(hV:∀u∈a.args,u.all okV=true)(hx:YM b σ)(hA:x∈A)(hs:x.sg=a.sg)(he:Zv.apps σ a.args=x.args):x∈Vx A a b:=by
 unfold Vx;cases e:JF b a.args 0 with
 |none=>exact Uy.2 ⟨hA,by simp[hs]⟩
 |some p=>
  obtain⟨j,v⟩:=p;obtain⟨k,hj,hk,hv,hval⟩:=Ze1 e;refine Uy.2 ⟨hA,?_⟩;have h1:(Zv b a.args[k]).all plain=true:=by
   rw[hv]at hval;simp only[Zo,Qd]at hval;exact hval.1
  have h2:Zv b a.args[k]=Zv σ a.args[k]:=ZfB hx (ZhV _ (hV _ (Qa hk)) h1);have h3:x.args[k]? =some v:=by
   rw[←he,Jm,Ua,Qb hk,hv,h2];rfl
  have hn:a.sg.n=(a.args.length:Int):=rfl;have e1:j.toNat=k:=om;simp only[ZkN,Qd,beq_iff_eq,decide_eq_true_eq,colEq,e1,h3];exact⟨⟨⟨hs,om⟩,om⟩,(eqT_iff v v).2 rfl⟩
def ZqE{e f:Int}(h:e≠0∨f≠0):Je e f≠0:=by unfold Je;split<;>omega
def ZqT(h:x.sg=a.sg):x.args.length=a.args.length:=by
 have:x.sg.n=a.sg.n:=by rw[h]
 simp only[Am.sg]at this;omega
def Zgb(hA:∀a∈A,Yh a=true)(hb:ZI b):∀{s:Stp},Ready (Zp b) s→(stepS A s b).2=0→
  ∀c,c∈(stepS A s b).1↔ZI c∧YM b c∧(∀n,n∈Zp c↔n∈Zp b∨n∈varS s)∧ZbQ A c s
 | .test x,hr,he,c=>by
  have h0:¬((Yz x.L b).2≠0∨(Yz x.R b).2≠0):=fun h=>by
   simp only[stepS,Jj,if_pos h]at he;exact ZqE h he
  simp only[stepS,Jj,if_neg h0];have hc:∀c,ZI c→YM b c→(∀n,n∈Zp c↔n∈Zp b∨n∈varS (.test x))→b=c:=fun c hc hx hd=>
   ZfR hb hc hx fun n hn=>by
    rcases(hd n).1 hn with h|h
    ·exact h
    ·exact hr n h
  have hany:((Yz x.L b).1.any fun v=>(Yz x.R b).1.any (YX x.op v))=true↔ZbQ A b (.test x):=by
   simp only[UW,ZbQ]
  constructor
  ·intro h;split at h
   ·rename_i ha;simp only[Qm]at h;subst h;exact⟨hb,YM.refl _,fun n=>⟨.inl,fun h=>by rcases h with h|h;all_goals first|exact h|exact hr n h⟩,hany.1 ha⟩
   ·cases h
  ·rintro⟨g,hx,hd,hs⟩;have:=hc c g hx hd;subst this;rw[if_pos (hany.2 hs)];simp
 | .bind n t,hr,he,c=>by
  obtain⟨hn,ht⟩:=hr;simp only[stepS,Qi,ZbQ];constructor
  ·rintro⟨v,hv,rfl⟩;have hx:=YM.ext hn v;refine⟨hb.ext hn (Zad hb ht hv),hx,fun m=>?_,v,?_,by rw[VN,if_pos rfl]⟩
   ·rw[ZdX];simp only[varS,Ql];constructor
    ·rintro(h|h)
     ·exact .inr (.inl h)
     ·exact .inl h
    ·rintro(h|h|h)
     ·exact .inr h
     ·exact .inl h
     ·exact .inr (ht m h)
   ·rw[←X6 t fun m hm=>Vq hx (ht m hm)];exact hv
  ·rintro⟨g,hx,hd,v,hv,hl⟩;rw[←X6 t fun m hm=>Vq hx (ht m hm)]at hv;refine⟨v,hv,?_⟩;refine ZfR (hb.ext hn (Zad hb ht hv)) g (fun m w hm=>?_) fun m hm=>?_
   ·rw[VN]at hm;split at hm
    ·rename_i e;cases hm;rw[←e,hl]
    ·exact hx m w hm
   ·rw[ZdX];rcases(hd m).1 hm with h|h
    ·exact .inr h
    ·rcases Ql.1 h with h|h
     ·exact .inl h
     ·exact .inr (ht m h)
 | .atom a,hr,he,c=>by
  simp only[stepS,QaF,ZbQ];have hval:∀{x:Am},x∈A→ ∀u∈x.args,Zo u=true:=fun hx u hu=>by
   have:=hA _ hx;simp only[Yh,Qd,Qy]at this;exact this.2 u hu
  constructor
  ·rintro⟨x,hx,hm⟩;have h1:=Zqj hx;obtain⟨g,hx',hd,ha⟩:=Zgg hr (hval h1.1) (ZqT h1.2).symm hb hm;exact⟨g,hx',hd,x,h1.1,h1.2,ha⟩
  ·rintro⟨g,hx,hd,x,hxA,hs,ha⟩;refine⟨x,Zqk hr hx hxA hs ha,?_⟩;obtain⟨d,hm,hxd⟩:=Zhs g hr hx (fun n hn=>(hd n).2 (.inr hn)) (fun u hu=>by
    refine hval hxA _ ?_;rw[←ha,Jm];exact Qi.2 ⟨u,hu,rfl⟩)
   rw[ha]at hm;obtain⟨g2,_,hd2,_⟩:=Zgg hr (hval hxA) (ZqT hs).symm hb hm;have:d=c:=ZfR g2 g hxd fun n hn=>(hd2 n).2 ((hd n).1 hn)
   subst this;exact hm
/-! All bindings of a step. -/
def Zsb{α:Type}(l:List α):(Zg5 l).length≤20000→Zg5 l=l:=by
 unfold Zg5;split
 ·intro h;rw[QM]at h;omega
 ·intro _;rfl
def ZjY(f:Bnd→List Bnd×Int):∀(now:List Bnd) (p:List Bnd×Int),let r:=now.foldl (fun p b=>WC p (f b)) p
  (r.2=0→p.2=0∧ ∀b∈now,(f b).2=0)∧(r.1.length≤20000→p.1.length≤20000∧r.1=p.1++now.flatMap fun b=>(f b).1)
 |[],p=>⟨fun h=>⟨h,fun b hb=>by cases hb⟩,fun h=>⟨h,sm⟩⟩
 |b::now,p=>by
  obtain⟨h1,h3⟩:=ZjY f now (WC p (f b));simp only[Uz];refine⟨fun h=>?_,fun h=>?_⟩
  ·obtain⟨a,c⟩:=h1 h;simp only[WC]at a;split at a
   ·rename_i e;refine⟨om,fun d hd=>?_⟩;rcases Ql.1 hd with rfl|hd
    ·exact a
    ·exact c d hd
   ·rename_i e;omega
  ·obtain⟨a,c⟩:=h3 h;have e:(WC p (f b)).1=p.1++(f b).1:=Zsb _ a;rw[e,Qh]at a;exact⟨om,by rw[c,e];simp⟩
def ZnF{f:Bnd→List Bnd×Int}{now:List Bnd}(h:(Xo f now).2=0):(∀b∈now,(f b).2=0)∧(Xo f now).1=now.flatMap fun b=>(f b).1:=by
 obtain⟨h1,h3⟩:=ZjY f now ([],0);simp only[Xo]at h⊢;split at h
 ·omega
 ·rename_i hc;rw[not_and]at hc;exact⟨(h1 h).2,by simpa using(h3 (by have:=hc h;omega)).2⟩
def Rdy:List (List UInt8)→List Stp→Prop
 |_,[]=>True
 |S,s::r=>Ready S s∧Rdy (S++varS s) r
def Zac{S T:List (List UInt8)}(h:∀n,n∈S↔n∈T):∀{s:Stp},Ready S s→Ready T s
 | .test _,hr=>fun n hn=>(h n).1 (hr n hn)
 | .bind _ _,hr=>⟨fun hn=>hr.1 ((h _).2 hn),fun m hm=>(h m).1 (hr.2 m hm)⟩
 | .atom _,hr=>hr
def ZmM{A:List Am}(hA:∀a∈A,Yh a=true):∀(p:List Stp) (S:List (List UInt8)) (now out:List Bnd),(∀b∈now,ZI b∧ ∀n,n∈Zp b↔n∈S)→Rdy S p→Vt A p now=(out,0)→
  ∀c,c∈out↔ ∃b∈now,ZI c∧YM b c∧(∀n,n∈Zp c↔n∈S∨n∈p.flatMap varS)∧ ∀s∈p,ZbQ A c s
 |[],S,now,out,hnow,_,hr,c=>by
  simp only[Vt,QaS,and_true]at hr;subst hr;constructor
  ·intro hc;exact⟨c,hc,(hnow c hc).1,YM.refl c,fun n=>by simp[(hnow c hc).2 n],fun s hs=>by cases hs⟩
  ·rintro⟨b,hb,g,hx,hd,_⟩;have:b=c:=ZfR (hnow b hb).1 g hx fun n hn=>by
    have:=(hd n).1 hn;simp only[List.flatMap_nil,QA,or_false]at this;exact((hnow b hb).2 n).2 this
   exact this▸hb
 |s::p,S,now,out,hnow,hrdy,hr,c=>by
  simp only[Vt]at hr;split at hr
  ·rename_i h0;obtain⟨hz,heq⟩:=ZnF h0;have hrb:∀b∈now,Ready (Zp b) s:=fun b hb=>Zac (fun n=>((hnow b hb).2 n).symm) hrdy.1
   have hmem:∀c,c∈(Xo (stepS A s) now).1↔ ∃b∈now,ZI c∧YM b c∧(∀n,n∈Zp c↔n∈Zp b∨n∈varS s)∧ZbQ A c s:=fun c=>by
    rw[heq,Qx];constructor
    ·rintro⟨b,hb,h⟩;exact⟨b,hb,(Zgb hA (hnow b hb).1 (hrb b hb) (hz b hb) c).1 h⟩
    ·rintro⟨b,hb,h⟩;exact⟨b,hb,(Zgb hA (hnow b hb).1 (hrb b hb) (hz b hb) c).2 h⟩
   have hnow':∀b∈(Xo (stepS A s) now).1,ZI b∧ ∀n,n∈Zp b↔n∈S++varS s:=fun b hb=>by
    obtain⟨b0,hb0,g,_,hd,_⟩:=(hmem b).1 hb;exact⟨g,fun n=>by rw[hd,(hnow b0 hb0).2,Qk]⟩
   rw[ZmM hA p _ _ out hnow' hrdy.2 hr c];constructor
   ·rintro⟨b',hb',g,hx,hd,hs⟩;obtain⟨b,hb,g',hx',hd',hs'⟩:=(hmem b').1 hb';refine⟨b,hb,g,hx'.trans hx,fun n=>?_,fun t ht=>?_⟩
    ·rw[hd,Qk,QV,Qk,or_assoc]
    ·rcases Ql.1 ht with rfl|ht
     ·exact(ZfS t fun n hn=>Vq hx ((hd' n).2 (.inr hn))).1 hs'
     ·exact hs t ht
   ·rintro⟨b,hb,g,hx,hd,hs⟩;have hres:∀n,n∈Zp (Jd (S++varS s) c)↔n∈S++varS s:=fun n=>by
     rw[Zec];refine⟨fun h=>h.1,fun h=>⟨h,(hd n).2 ?_⟩⟩;rcases Qk.1 h with h|h
     ·exact .inl h
     ·exact .inr (by rw[QV];exact QG _ h)
    have hx2:=Zkt (S++varS s) c;refine⟨Jd (S++varS s) c,(hmem _).2 ⟨b,hb,g.filter _,fun n v hn=>?_,fun n=>?_,?_⟩,g,hx2,fun n=>?_,fun t ht=>hs t (by simp[ht])⟩
    ·have h1:n∈S:=((hnow b hb).2 n).1 (ZX.1 ⟨v,hn⟩);rw[ZaJ,if_pos (QG _ h1)];exact hx n v hn
    ·rw[hres,(hnow b hb).2,Qk]
    ·exact(ZfS s fun n hn=>Vq hx2 ((hres n).2 (QS _ hn))).2 (hs s sm)
    ·rw[hd,Qk,QV,Qk,or_assoc]
  ·rename_i h0;simp only[QaS]at hr;exact absurd hr.2 h0
end
def okX(x:Lt):Prop:=(x.kind=2→x.L.all okV=true∧x.R.all okV=true)∧(x.kind=1→ ∀u∈x.at_.args,u.all okV=true)
def VK(s:Stp)(x:Lt):Prop:=match s with
 | .test y=>y=x∧x.kind=2
 | .bind n t=>x.kind=2∧x.op=1∧((x.L.kind=3∧n=x.L.name∧t=x.R)∨(x.R.kind=3∧n=x.R.name∧t=x.L))
 | .atom a=>x.kind=1∧x.neg=false∧a=x.at_
def Zb7(A:List Am)(σ:Bnd)(x:Lt):Prop:=
 if x.kind=2 then∃v∈(Yz x.L σ).1,∃w∈(Yz x.R σ).1,YX x.op v w=true
 else if x.kind=1∧x.neg=false then∃a∈A,a.sg=x.at_.sg∧Zv.apps σ x.at_.args=a.args else True
section
variable {n:List UInt8} {x:Lt}
def Yx:n∈ZA x↔if x.kind=2 then n∈nmT x.L∨n∈nmT x.R else n∈nmT.nms x.at_.args:=by
 unfold ZA;split
 ·simp[X5]
 ·rw[nms_eq];simp only[Qx,X5]
variable {S:List (List UInt8)}
def ZbW{l:List (List UInt8)}:Vd S l=true↔ ∀n∈l,n∈S:=by simp[Vd]
def WL{t:Tm}:Vd S (ZU t)=true↔ ∀n∈nmT t,n∈S:=by
 rw[ZbW];exact⟨fun h n hn=>h n ((X5 t n).2 hn),fun h n hn=>h n ((X5 t n).1 hn)⟩
def Zae{t:Tm}(hk:t.kind=3)(hV:t.all okV=true):nmT t=[t.name]:=by
 cases t with
 |mk k n s l=>simp only[Tm.kind]at hk;subst hk;rw[Zd3 hV];simp[nmT,nmT.nms,Tm.name]
variable {s:Stp}
def ZhX(h:VK s x)(ho:okX x):n∈varS s↔n∈ZA x:=by
 rw[Yx];cases s with
 |test y=>obtain⟨rfl,hk⟩:=h;rw[if_pos hk];simp[varS]
 |bind m t=>
  obtain⟨hk,_,h⟩:=h;rw[if_pos hk];rcases h with⟨h1,rfl,rfl⟩|⟨h1,rfl,rfl⟩
  ·rw[Zae h1 (ho.1 hk).1];simp[varS]
  ·rw[Zae h1 (ho.1 hk).2];simp only[varS,Ql,QA,or_false];exact or_comm
 |atom a=>obtain⟨hk,_,rfl⟩:=h;rw[if_neg om];rfl
def Zmo(ho:okX x)(h:Y3 S x=some s):VK s x∧Ready S s:=by
 unfold Y3 at h;split at h
 ·rename_i hk;split at h
  ·rename_i hb;cases h;rw[Qd,WL,WL]at hb;exact⟨⟨rfl,hk⟩,fun n hn=>by rcases Qk.1 hn with hn|hn;all_goals first|exact hb.1 n hn|exact hb.2 n hn⟩
  ·rename_i hb;rw[Qd,WL,WL]at hb;split at h
   ·rename_i hc;obtain⟨c1,c2,c3⟩:=hc;rw[WL]at c2;have hn:¬x.L.name∈S:=fun hn=>hb ⟨fun n h=>by rw[Zae c3 (ho.1 hk).1]at h;simp at h;subst h;exact hn,c2⟩
    split at h
    ·rename_i he;exact absurd he (Zjx (ho.1 hk).1 c3)
    ·cases h;exact⟨⟨hk,c1,.inl ⟨c3,rfl,rfl⟩⟩,hn,c2⟩
   ·split at h
    ·rename_i hc;obtain⟨c1,c2,c3⟩:=hc;rw[WL]at c2;have hn:¬x.R.name∈S:=fun hn=>hb ⟨c2,fun n h=>by rw[Zae c3 (ho.1 hk).2]at h;simp at h;subst h;exact hn⟩
     split at h
     ·rename_i he;exact absurd he (Zjx (ho.1 hk).2 c3)
     ·cases h;exact⟨⟨hk,c1,.inr ⟨c3,rfl,rfl⟩⟩,hn,c2⟩
    ·cases h
 ·cases h
def Zn4(ho:okX x)(h:JR x=some s):VK s x∧Ready S s:=by
 unfold JR at h;split at h
 ·rename_i hk;cases h;exact⟨⟨hk.1,hk.2,rfl⟩,ho.2 hk.1⟩
 ·cases h
def ZeB{f:Lt→Option Stp}:∀{l:List Lt} {s:Stp} {x:Lt} {r:List Lt},ZaB f l=some (s,x,r)→f x=some s∧l.Perm (x::r)
 |y::l,s,x,r,h=>by
  simp only[ZaB]at h;split at h
  ·rename_i e;cases h;exact⟨e,.refl _⟩
  ·simp only[Ur]at h;obtain⟨⟨s',x',r'⟩,hp,he⟩:=h;simp only[QaS]at he;obtain⟨rfl,rfl,rfl⟩:=he;obtain⟨h1,h2⟩:=ZeB hp;exact⟨h1,(h2.cons y).trans (.swap _ _ _)⟩
def Zcl{f:Lt→Option Stp}:∀{l:List Lt},ZaB f l=none→ ∀x∈l,f x=none
 |y::l,h,x,hx=>by
  simp only[ZaB]at h;split at h
  ·cases h
  ·rename_i e;rw[Option.map_eq_none_iff]at h;rcases Ql.1 hx with rfl|hx
   ·exact e
   ·exact Zcl h x hx
def Zil{l:List Lt}{r:List Lt}(ho:∀x∈l,okX x)(h:Vj S l=some (s,x,r)):VK s x∧Ready S s∧l.Perm (x::r):=by
 unfold Vj at h;cases e:ZaB (Y3 S) l with
 |some p=>
  rw[e]at h;cases h;obtain⟨h1,h2⟩:=ZeB e;have:=Zmo (ho x (h2.mem_iff.2 sm)) h1;exact⟨this.1,this.2,h2⟩
 |none=>
  rw[e]at h;obtain⟨h1,h2⟩:=ZeB h;have:=Zn4 (S:=S) (ho x (h2.mem_iff.2 sm)) h1;exact⟨this.1,this.2,h2⟩
def rdy_congr:∀(p:List Stp) {S T:List (List UInt8)},(∀n,n∈S↔n∈T)→Rdy S p→Rdy T p
 |[],_,_,_,_=>trivial
 |s::p,S,T,h,hr=>⟨Zac h hr.1,rdy_congr p (fun n=>by simp[h n]) hr.2⟩
theorem plan_spec:∀(f:Nat) (S:List (List UInt8)) (l:List Lt),(∀x∈l,okX x)→ ∃T:List Lt,l.Perm (T++(planF f S l).2.2)∧Fa2 VK (planF f S l).1 T∧Rdy S (planF f S l).1∧
  (∀n,n∈(planF f S l).2.1↔n∈S∨n∈T.flatMap ZA)∧(l.length≤f→Vj (planF f S l).2.1 (planF f S l).2.2=none)
 |0,S,l,_=>⟨[],.refl _,.nil,trivial,fun n=>by simp[planF],fun h=>by
   cases l with
   |nil=>rfl
   |cons _ _=>simp at h⟩
 |f+1,S,l,ho=>by
  simp only[planF];split
  ·rename_i h0;exact⟨[],.refl _,.nil,trivial,fun n=>by simp,fun _=>h0⟩
  ·rename_i s x r h0;obtain⟨h1,h2,h3⟩:=Zil ho h0;have hox:=ho x (h3.mem_iff.2 sm);obtain⟨T,a1,a2,a3,a4,a5⟩:=plan_spec f (S++ZA x) r fun y hy=>ho y (h3.mem_iff.2 (by simp[hy]))
   refine⟨x::T,h3.trans (a1.cons x),.cons h1 a2,⟨h2,rdy_congr _ (fun n=>?_) a3⟩,fun n=>?_,fun hl=>a5 ?_⟩
   ·simp[ZhX h1 hox]
   ·rw[a4];simp[or_assoc]
   ·have:=h3.length_eq;simp only[Qq]at this;omega
def ZpT{A:List Am}{σ:Bnd}(hσ:ZI σ)(h:VK s x)(ho:okX x)(hd:∀n∈ZA x,n∈Zp σ):ZbQ A σ s↔Zb7 A σ x:=by
 unfold Zb7;cases s with
 |test y=>obtain⟨rfl,hk⟩:=h;rw[if_pos hk];rfl
 |atom a=>
  obtain⟨hk,hn,rfl⟩:=h;rw[if_neg om,if_pos ⟨hk,hn⟩];rfl
 |bind m t=>
  obtain⟨hk,hop,h⟩:=h;have hord:∀{v w:Tm},Zo v=true→Zo w=true→(YX x.op v w=true↔v=w):=fun hv hw=>by
   rw[hop,←Wh hv hw];simp[YX]
  have hd':∀n,n∈nmT x.L∨n∈nmT x.R→n∈Zp σ:=fun n hn=>hd n (by rw[Yx,if_pos hk];exact hn)
  rw[if_pos hk];rcases h with⟨h1,rfl,rfl⟩|⟨h1,rfl,rfl⟩
  ·obtain⟨u,hu⟩:=ZX.2 (hd' x.L.name (.inl (by rw[Zae h1 (ho.1 hk).1];simp)));have hvu:=hσ.look hu;have hR:∀v∈(Yz x.R σ).1,Zo v=true:=fun v hv=>Zad hσ (fun n hn=>hd' n (.inr hn)) hv
   simp only[ZbQ,ZfM hσ h1 hu,Qm,exists_eq_left,hu,Qp];constructor
   ·rintro⟨v,hv,rfl⟩;exact⟨u,hv,(hord hvu hvu).2 rfl⟩
   ·rintro⟨w,hw,h2⟩;have:=(hord hvu (hR w hw)).1 h2;exact⟨w,hw,this⟩
  ·obtain⟨u,hu⟩:=ZX.2 (hd' x.R.name (.inr (by rw[Zae h1 (ho.1 hk).2];simp)));have hvu:=hσ.look hu;have hL:∀v∈(Yz x.L σ).1,Zo v=true:=fun v hv=>Zad hσ (fun n hn=>hd' n (.inl hn)) hv
   simp only[ZbQ,ZfM hσ h1 hu,Qm,exists_eq_left,hu,Qp];constructor
   ·rintro⟨v,hv,rfl⟩;exact⟨u,hv,(hord hvu hvu).2 rfl⟩
   ·rintro⟨w,hw,h2⟩;have:=(hord (hL w hw) hvu).1 h2;exact⟨w,hw,this.symm⟩
def Zns{A:List Am}{σ:Bnd}(hσ:ZI σ):∀{p:List Stp} {T:List Lt},Fa2 VK p T→(∀x∈T,okX x)→(∀n∈T.flatMap ZA,n∈Zp σ)→((∀s∈p,ZbQ A σ s)↔ ∀x∈T,Zb7 A σ x)
 |_,_,.nil,_,_=>by simp
 |_,_,.cons (a:=s) (b:=x) h t,ho,hd=>by
  rw[QV]at hd;have ih:=Zns (A:=A) hσ t (fun y hy=>ho y (by simp[hy])) (fun n hn=>hd n (QS _ hn));have h1:=ZpT (A:=A) hσ h (ho x sm) (fun n hn=>hd n (QG _ hn));simp only[Ql,forall_eq_or_imp,ih,h1]
def fa_vars:∀{p:List Stp} {T:List Lt},Fa2 VK p T→(∀x∈T,okX x)→ ∀n,n∈p.flatMap varS↔n∈T.flatMap ZA
 |_,_,.nil,_,_=>by simp
 |_,_,.cons h t,ho,n=>by
  simp only[QV,Qk,ZhX h (ho _ sm),fa_vars t (fun y hy=>ho y (by simp[hy])) n]
def ZeF{l:List Lt}{p:List Stp}(ho:∀x∈l,okX x)(h:Ja S l=some p):
  Rdy S p∧(∀n,n∈S∨n∈p.flatMap varS↔n∈S∨n∈l.flatMap ZA)∧
  ∀(A:List Am) (σ:Bnd),ZI σ→(∀n∈l.flatMap ZA,n∈Zp σ)→((∀s∈p,ZbQ A σ s)↔ ∀x∈l,Zb7 A σ x):=by
 obtain⟨T,a1,a2,a3,a4,a5⟩:=plan_spec l.length S l ho;unfold Ja at h;simp only at h;split at h
 ·rename_i hall;cases h;have hnone:=a5 (Qg _);have hr:∀x∈(planF l.length S l).2.2,¬x.kind=2∧(∀n∈ZA x,n∈(planF l.length S l).2.1)∧ ¬(x.kind=1∧x.neg=false):=fun x hx=>by
   have h1:=Qy.1 hall x hx;simp only[X7,Qd,MJ,beq_eq_false_iff_ne,ZbW]at h1;refine⟨h1.1,h1.2,fun hk=>?_⟩;simp only[Vj,QbF]at hnone;have:=Zcl hnone.2 x hx;simp only[JR,if_pos hk]at this;cases this
  have hoT:∀x∈T,okX x:=fun x hx=>ho x (a1.mem_iff.2 (QG _ hx))
  refine⟨a3,fun n=>?_,fun A σ hσ hd=>?_⟩
  ·rw[fa_vars a2 hoT n];constructor
   ·rintro(h|h)
    ·exact .inl h
    ·obtain⟨x,hx,h⟩:=Qx.1 h;exact .inr (Qx.2 ⟨x,a1.mem_iff.2 (QG _ hx),h⟩)
   ·rintro(h|h)
    ·exact .inl h
    ·obtain⟨x,hx,h⟩:=Qx.1 h;rcases Qk.1 (a1.mem_iff.1 hx)with hx|hx
     ·exact .inr (Qx.2 ⟨x,hx,h⟩)
     ·exact(a4 n).1 ((hr x hx).2.1 n h)
  ·rw[Zns hσ a2 hoT fun n hn=>hd n (by
    obtain⟨x,hx,h⟩:=Qx.1 hn;exact Qx.2 ⟨x,a1.mem_iff.2 (QG _ hx),h⟩)]
   constructor
   ·intro h x hx;rcases Qk.1 (a1.mem_iff.1 hx)with hx|hx
    ·exact h x hx
    ·have:=hr x hx;rw[Zb7,if_neg this.1,if_neg this.2.2];trivial
   ·intro h x hx;exact h x (a1.mem_iff.2 (QG _ hx))
 ·cases h
end
def WW(b:UInt8):Bool:=b==40||b==41||b==44
def tok_split:∀(p q r s:List UInt8),(∀b∈p,WW b=false)→(∀b∈q,WW b=false)→(∀b r',r=b::r'→WW b=true)→(∀b s',s=b::s'→WW b=true)→p++r=q++s→p=q∧r=s
 |[],[],r,s,_,_,_,_,h=>⟨rfl,h⟩
 |[],b::q,r,s,_,hq,hr,_,h=>by
  have:=hr b (q++s) (by simpa using h);rw[hq b sm]at this;cases this
 |a::p,[],r,s,hp,_,_,hs,h=>by
  have:=hs a (p++r) (by simpa using h.symm);rw[hp a sm]at this;cases this
 |a::p,b::q,r,s,hp,hq,hr,hs,h=>by
  simp only[Q8,Uf]at h;obtain⟨h1,h2⟩:=tok_split p q r s (fun b hb=>hp b (by simp[hb])) (fun b hb=>hq b (by simp[hb])) hr hs h.2;exact⟨by rw[h.1,h1],h2⟩
def ZnR{b:UInt8}(h:isIn (b.toNat:Int)=true):WW b=false:=by
 rcases b.toNat_lt with _;simp only[isIn,isLow,isUp,Zfa,GR,Qd,decide_eq_true_eq,beq_iff_eq]at h;simp only[WW,QaW,beq_eq_false_iff_ne];refine⟨⟨?_,?_⟩,?_⟩<;>(rintro rfl;simp at h)
def und_take:∀(s:List UInt8),∀b∈s.take (und s),b=95
 |[],b,h=>by simp at h
 |c::r,b,h=>by
  simp only[und]at h;split at h
  ·rename_i hc;simp only[MR,Ql]at h;rcases h with rfl|h
   ·have:(b.toNat:Int)=95:=by simpa using hc
    exact UInt8.toNat_inj.1 (by show b.toNat=95;omega)
   ·exact und_take r b h
  ·simp at h
section
variable {s:List UInt8}
def Xy(h:sym s=true):(∀b∈s,WW b=false)∧ ∃b r,s=b::r∧(b=95∨isLow (b.toNat:Int)=true):=by
 simp only[sym,Qd,decide_eq_true_eq]at h;obtain⟨⟨⟨h1,h2⟩,h3⟩,_⟩:=h;simp only[wd,Qd,Qy]at h3;refine⟨fun b hb=>?_,?_⟩
 ·rw[←Q7 (und s) s]at hb;rcases Qk.1 hb with hb|hb
  ·rw[und_take s b hb];rfl
  ·exact ZnR (h3.1 b hb)
 ·cases s with
  |nil=>simp at h1
  |cons b r=>
   refine⟨b,r,rfl,?_⟩;simp only[und]at h2;split at h2
   ·rename_i hc;left
    have:(b.toNat:Int)=95:=by simpa using hc
    exact UInt8.toNat_inj.1 (by show b.toNat=95;omega)
   ·right;simpa[bt]using h2
open Go.Lib in
theorem Zef(u:Nat):∀b∈decDigits u,48≤b.toNat∧b.toNat≤57:=by
 induction u using Nat.strongRecOn with
 |_ u ih=>
  intro b hb;rw[decDigits]at hb;split at hb
  ·rename_i h;simp only[Qm]at hb;subst hb;rw[UInt8.toNat_ofNat'];omega
  ·rcases Qk.1 hb with hb|hb
   ·exact ih (u / 10) om b hb
   ·simp only[Qm]at hb;subst hb;rw[UInt8.toNat_ofNat'];omega
open Go.Lib in
theorem Zs3(u:Nat):decDigits u≠[]:=by
 rw[decDigits];split<;>simp
def Ztf(l:List UInt8):Nat:=l.foldl (fun n b=>10*n+(b.toNat - 48)) 0
open Go.Lib in
theorem ZkF(u:Nat):Ztf (decDigits u)=u:=by
 induction u using Nat.strongRecOn with
 |_ u ih=>
  rw[decDigits];split
  ·simp only[Ztf,Uz,QbK,UInt8.toNat_ofNat'];omega
  ·have:=ih (u / 10) om;simp only[Ztf,Md,Uz,QbK]at this⊢;rw[this,UInt8.toNat_ofNat'];omega
open Go.Lib in
theorem Znc{u v:Nat}(h:decDigits u=decDigits v):u=v:=by rw[←ZkF u,h,ZkF]
open Go.Lib in
theorem Zen(u:Nat):∃b r,decDigits u=b::r∧48≤b.toNat∧b.toNat≤57:=by
 cases h:decDigits u with
 |nil=>exact absurd h (Zs3 u)
 |cons b r=>exact⟨b,r,rfl,Zef u b (by rw[h];simp)⟩
def VZ(n:Int):(∀b∈Lib.itoa n,WW b=false)∧ ∃b r,Lib.itoa n=b::r∧(b=45∨(48≤b.toNat∧b.toNat≤57)):=by
 have hd:∀b:UInt8,48≤b.toNat∧b.toNat≤57→WW b=false:=fun b hb=>by
  simp only[WW,QaW,beq_eq_false_iff_ne];refine⟨⟨?_,?_⟩,?_⟩<;>(rintro rfl;simp at hb)
 unfold Lib.itoa;split
 ·refine⟨fun b hb=>?_,45,_,rfl,.inl rfl⟩;rcases Ql.1 hb with rfl|hb
  ·rfl
  ·exact hd b (Zef _ b hb)
 ·refine⟨fun b hb=>hd b (Zef _ b hb),?_⟩;obtain⟨b,r,h1,h2⟩:=Zen n.toNat;exact⟨b,r,h1,.inr h2⟩
def Zjw{m n:Int}(h:Lib.itoa m=Lib.itoa n):m=n:=by
 unfold Lib.itoa at h;split at h<;>split at h
 ·have:=Znc (by simpa using h);omega
 ·obtain⟨b,r,h1,h2⟩:=Zen n.toNat;rw[h1]at h;simp only[Uf]at h;rw[←h.1]at h2;simp at h2
 ·obtain⟨b,r,h1,h2⟩:=Zen m.toNat;rw[h1]at h;simp only[Uf]at h;rw[h.1]at h2;simp at h2
 ·have:=Znc h;omega
def Zdm(n:Int)(h:sym s=true):Lib.itoa n≠s:=fun e=>by
 obtain⟨_,b,r,h1,h2⟩:=VZ n;obtain⟨_,c,q,h3,h4⟩:=Xy h;rw[h1,h3]at e;simp only[Uf]at e;obtain⟨rfl,_⟩:=e;simp only[isLow,Qd,decide_eq_true_eq]at h4;rcases h2 with rfl|h2
 ·rcases h4 with h4|h4
  ·cases h4
  ·simp at h4
 ·rcases h4 with rfl|h4
  ·simp at h2
  ·omega
variable {t:Tm}
def ZeS(h:okv t=true):(t.kind=1∧t.name=[]∧t.args=[])∨(t.kind=2∧t.num=0∧sym t.name=true∧t.args=[])∨(t.kind=4∧t.num=0∧sym t.name=true∧t.args≠[]):=by
 simp only[okv,Qd,plain,GR,beq_iff_eq]at h;obtain⟨hk,hs⟩:=h;have nil:∀{l:List Tm},l.length≤0→l=[]:=fun h=>by simpa using h
 rcases hk with(hk|hk)|hk
 ·left
  simp only[shape,hk,if_true,nargs,Qd,decide_eq_true_eq,beq_iff_eq]at hs;exact⟨hk,hs.1.2,nil om⟩
 ·right;left
  simp only[shape,hk,Int.reduceEq,if_false,if_true,nargs,named,Qd,decide_eq_true_eq,beq_iff_eq]at hs;exact⟨hk,hs.1.1.1,hs.1.2,nil om⟩
 ·right;right
  simp only[shape,hk,Int.reduceEq,if_false,if_true,nargs,named,Qd,decide_eq_true_eq,beq_iff_eq]at hs;refine⟨hk,hs.1.1.1,hs.1.2,fun e=>?_⟩;rw[e]at hs;simp at hs
def WQ(x:List UInt8)(r:List (List UInt8)):Lib.joinTail [44] (x::r)=44::Lib.join (x::r) [44]:=by
 rw[Lib.join_cons];simp[Lib.joinTail]
def Hd(r:List UInt8):Prop:=∀b r',r=b::r'→b=41∨b=44
def Hd.stop{r:List UInt8}(h:Hd r):∀b r',r=b::r'→WW b=true:=fun b r' e=>by
 rcases h b r' e with rfl|rfl<;>rfl
def Hd.nil:Hd []:=fun _ _ e=>by cases e
def Hd.close(r:List UInt8):Hd (41::r):=fun _ _ e=>by cases e;exact .inl rfl
def Hd.tail(l:List (List UInt8))(r:List UInt8):Hd (Lib.joinTail [44] l++41::r):=by
 cases l with
 |nil=>exact Hd.close r
 |cons x l=>rw[WQ];exact fun _ _ e=>by cases e;exact .inr rfl
def join_split:∀(p q:List Tm) (r s:List UInt8),(∀t∈p,∀u∈q,∀r s,Hd r→Hd s→txt t++r=txt u++s→t=u∧r=s)→p≠[]→q≠[]→
  Lib.join (p.map txt) [44]++41::r=Lib.join (q.map txt) [44]++41::s→p=q∧r=s
 |[],_,_,_,_,h,_,_=>absurd rfl h
 |_,[],_,_,_,_,h,_=>absurd rfl h
 |t::p,u::q,r,s,ih,_,_,h=>by
  rw[Qv,Qv,Lib.join_cons,Lib.join_cons,Uc,Uc]at h;obtain⟨h1,h2⟩:=ih t sm u sm _ _ (Hd.tail _ _) (Hd.tail _ _) h;subst h1;cases p with
  |nil=>
   cases q with
   |nil=>simp[Lib.joinTail]at h2;exact⟨rfl,h2⟩
   |cons x q=>rw[Qv,WQ]at h2;simp[Lib.joinTail]at h2
  |cons y p=>
   cases q with
   |nil=>rw[Qv,WQ]at h2;simp[Lib.joinTail]at h2
   |cons x q=>
    rw[Qv,Qv,WQ,WQ,Q8,Q8,Uf]at h2;have:=join_split (y::p) (x::q) r s (fun t ht u hu=>ih t (by simp at ht⊢;right;exact ht) u (by simp at hu⊢;right;exact hu)) sm sm h2.2;exact⟨by rw[this.1],this.2⟩
def ZlI{u:Tm}(h1:t.kind=u.kind)(h2:t.num=u.num)(h3:t.name=u.name)(h4:t.args=u.args):t=u:=by
 cases t;cases u;simp only[Tm.kind,Tm.num,Tm.name,Tm.args]at*;subst h1 h2 h3 h4;rfl
def Zba(h:t.kind=1):txt t=Lib.itoa t.num:=by rw[ZbK,if_pos h]
def Zbe(h:t.kind=2):txt t=t.name:=by rw[ZbK,if_neg om,if_neg om]
def Za6(h:t.kind=4)(r:List UInt8):txt t++r=t.name++(40::(Lib.join (t.args.map txt) [44]++41::r)):=by
 rw[ZbK,if_neg om,if_pos h];simp
def ZeD(t:Tm):∀(u:Tm) (r s:List UInt8),t.all okv=true→u.all okv=true→Hd r→Hd s→txt t++r=txt u++s→t=u∧r=s:=by
 intro u r s ht hu hr hs h;have h40:∀x:List UInt8,∀b r',(40::x)=b::r'→WW b=true:=fun x b r' e=>by cases e;rfl
 rcases ZeS (Ym ht)with⟨k1,k2,k3⟩|⟨k1,k2,k3,k4⟩|⟨k1,k2,k3,k4⟩<;>rcases ZeS (Ym hu)with⟨l1,l2,l3⟩|⟨l1,l2,l3,l4⟩|⟨l1,l2,l3,l4⟩
 ·rw[Zba k1,Zba l1]at h;obtain⟨e1,e2⟩:=tok_split _ _ _ _ (VZ _).1 (VZ _).1 hr.stop hs.stop h;exact⟨ZlI (by rw[k1,l1]) (Zjw e1) (by rw[k2,l2]) (by rw[k3,l3]),e2⟩
 ·rw[Zba k1,Zbe l1]at h;exact absurd (tok_split _ _ _ _ (VZ _).1 (Xy l3).1 hr.stop hs.stop h).1 (Zdm _ l3)
 ·rw[Zba k1,Za6 l1]at h;exact absurd (tok_split _ _ _ _ (VZ _).1 (Xy l3).1 hr.stop (h40 _) h).1 (Zdm _ l3)
 ·rw[Zbe k1,Zba l1]at h;exact absurd (tok_split _ _ _ _ (Xy k3).1 (VZ _).1 hr.stop hs.stop h).1.symm (Zdm _ k3)
 ·rw[Zbe k1,Zbe l1]at h;obtain⟨e1,e2⟩:=tok_split _ _ _ _ (Xy k3).1 (Xy l3).1 hr.stop hs.stop h;exact⟨ZlI (by rw[k1,l1]) (by rw[k2,l2]) e1 (by rw[k4,l4]),e2⟩
 ·rw[Zbe k1,Za6 l1]at h;have:=(tok_split _ _ _ _ (Xy k3).1 (Xy l3).1 hr.stop (h40 _) h).2;rcases hr _ _ this with e|e<;>cases e
 ·rw[Za6 k1,Zba l1]at h;exact absurd (tok_split _ _ _ _ (Xy k3).1 (VZ _).1 (h40 _) hs.stop h).1.symm (Zdm _ k3)
 ·rw[Za6 k1,Zbe l1]at h;have:=(tok_split _ _ _ _ (Xy k3).1 (Xy l3).1 (h40 _) hs.stop h).2;rcases hs _ _ this.symm with e|e<;>cases e
 ·rw[Za6 k1,Za6 l1]at h;obtain⟨e1,e2⟩:=tok_split _ _ _ _ (Xy k3).1 (Xy l3).1 (h40 _) (h40 _) h;obtain⟨e3,e4⟩:=join_split t.args u.args r s (fun x hx y hy r s=>ZeD x y r s (YV ht hx) (YV hu hy)) k4 l4 (List.cons.inj e2).2;exact⟨ZlI (by rw[k1,l1]) (by rw[k2,l2]) e1 e3,e4⟩
termination_by SizeOf.sizeOf t
decreasing_by exact Tm.Y2 hx
def ZdH(h:Zo t=true):t.all okv=true:=by
 simp only[Zo,YI,Qd]at h;have:=Zbf plain shape t;rw[h.1,h.2.2,QaT]at this;exact this
def ZrE{u:Tm}(ht:Zo t=true)(hu:Zo u=true)(h:txt t=txt u):t=u:=
 (ZeD t u [] [] (ZdH ht) (ZdH hu) Hd.nil Hd.nil (by rw[h])).1
theorem Zqn{a b:Am}(ha:Yh a=true)(hb:Yh b=true)(h:JI a=JI b):a=b:=by
 obtain⟨a1,_,a3⟩:=Za1 ha;obtain⟨b1,_,b3⟩:=Za1 hb;rw[Qy]at a3 b3;have e:a.pred++(40::(Lib.join (a.args.map txt) [44]++[41]))=b.pred++(40::(Lib.join (b.args.map txt) [44]++[41])):=by
  simpa[JI]using h
 obtain⟨e1,e2⟩:=tok_split _ _ _ _ (Xy a1).1 (Xy b1).1 (fun b r e=>by cases e;rfl) (fun b r e=>by cases e;rfl) e;have e3:=(List.cons.inj e2).2;have first:∀(t:Tm) (l:List Tm),Zo t=true→ ∃c r,Lib.join ((t::l).map txt) [44]=c::r∧WW c=false:=fun t l ht=>by
  have ho:=ZdH ht;have key:∀x:List UInt8,(∀b∈x,WW b=false)→(∃b r,x=b::r)→ ∀y,∃c r,x++y=c::r∧WW c=false:=fun x hx ⟨b,r,e⟩ y=>⟨b,r++y,by rw[e];rfl,hx b (by rw[e];simp)⟩
  rw[Qv,Lib.join_cons];rcases ZeS (Ym ho)with⟨k1,k2,k3⟩|⟨k1,k2,k3,k4⟩|⟨k1,k2,k3,k4⟩
  ·rw[Zba k1];obtain⟨h1,b,r,h2,_⟩:=VZ t.num;exact key _ h1 ⟨b,r,h2⟩ _
  ·rw[Zbe k1];obtain⟨h1,b,r,h2,_⟩:=Xy k3;exact key _ h1 ⟨b,r,h2⟩ _
  ·rw[Za6 k1];obtain⟨h1,b,r,h2,_⟩:=Xy k3;exact key _ h1 ⟨b,r,h2⟩ _
 cases a with
 |mk ap al=>
 cases b with
 |mk bp bl=>
 simp only at e1 e3 a3 b3;subst e1;congr 1
 cases al with
 |nil=>
  cases bl with
  |nil=>rfl
  |cons u m=>
   obtain⟨c,r,h1,h2⟩:=first u m (b3 u sm)
   rw[h1,Ux,Lib.join_nil]at e3;simp only[Q5,Q8,Uf]at e3;rw[←e3.1]at h2;cases h2
 |cons t l=>
  cases bl with
  |nil=>
   obtain⟨c,r,h1,h2⟩:=first t l (a3 t sm)
   rw[h1,Ux,Lib.join_nil]at e3;simp only[Q5,Q8,Uf]at e3;rw[e3.1]at h2;cases h2
  |cons u m=>exact(join_split _ _ [] [] (fun x hx y hy r s=>ZeD x y r s (ZdH (a3 x hx)) (ZdH (b3 y hy))) sm sm e3).1
end
def ZdY{m n:Nat}(h:newV m=newV n):m=n:=by
 simp only[newV,Uf,true_and]at h;have:=Zjw h;omega
def Xd{α:Type} [DecidableEq α]:∀{p q:List α},p.Nodup→(∀x∈p,x∈q)→p.length≤q.length
 |[],_,_,_=>Uw _
 |x::p,q,hn,h=>by
  rw[GN]at hn;have hx:=h x sm;have:=Xd (q:=q.erase x) hn.2 fun y hy=>(List.mem_erase_of_ne (fun e=>hn.1 (by rw[←e];exact hy))).2 (h y (by simp[hy]))
  rw[List.length_erase_of_mem hx]at this;have:=List.length_pos_of_mem hx;simp only[Qq];omega
def Zkh(S:List (List UInt8)):∀f n,n≤Zbp S f n
 |0,n=>Qg _
 |f+1,n=>by
  simp only[Zbp];split
  ·have:=Zkh S f (n+1);omega
  ·exact Qg _
def ZkV{S:List (List UInt8)}:∀{f n},newV (Zbp S f n)∈S→ ∀i,i≤f→newV (n+i)∈S
 |0,n,h,i,hi=>by
  have:i=0:=om;subst this;exact h
 |f+1,n,h,i,hi=>by
  simp only[Zbp]at h;split at h
  ·rename_i h0;cases i with
   |zero=>exact h0
   |succ i=>have:=ZkV h i om;rwa [show n+1+i=n+(i+1) by omega]at this
  ·rename_i h0;exact absurd h h0
def Zlg(S:List (List UInt8))(n:Nat):n<XG S n:=by have:=Zkh S (S.length+1) (n+1);unfold XG;omega
def Zhy(S:List (List UInt8))(n:Nat):newV (XG S n)∉S:=fun h=>by
 have h1:=ZkV h;have h2:((List.range (S.length+2)).map fun i=>newV (n+1+i)).length≤S.length:=by
  refine Xd ?_ fun x hx=>?_
  ·refine List.Pairwise.map _ (fun a b hab e=>?_) Qac;have:=ZdY e;omega
  ·obtain⟨i,hi,rfl⟩:=Qi.1 hx;rw[U9]at hi;exact h1 i om
 rw[Qw,Gp]at h2;omega
def XA(σ:Bnd):Tm→Tm→Prop
 | .mk k n s l,v=>if k=5∨k=6 then v∈(Yz (.mk k n s l) σ).1 else if k=3 then Zz s σ=some v else k=v.kind∧n=v.num∧s=v.name∧covs σ l v.args
where covs (σ:Bnd):List Tm→List Tm→Prop
 |[],q=>q=[]
 |t::r,q=>match q with
  |[]=>False
  |v::q=>XA σ t v∧covs σ r q
def ZcW(A:List Am)(σ:Bnd)(x:Lt):Prop:=
 if x.kind=2 then∃v∈(Yz x.L σ).1,∃w∈(Yz x.R σ).1,YX x.op v w=true
 else if x.kind=1 then(if x.neg=false then∃a∈A,a.sg=x.at_.sg∧XA.covs σ x.at_.args a.args else∃q,XA.covs σ x.at_.args q)else True
def XL{P:Tm→Prop}{Q:List Tm→Prop}(h1:∀k n s l,Q l→P (.mk k n s l))(h2:Q [])(h3:∀t r,P t→Q r→Q (t::r)):(∀t,P t)∧ ∀l,Q l:=by
 have h:∀t,P t:=fun t=>Tm.rec (motive_1:=P) (motive_2:=Q) h1 h2 (fun t r ht hr=>h3 t r ht hr) t
 exact⟨h,fun l=>by induction l with
  |nil=>exact h2
  |cons t r ih=>exact h3 t r (h t) ih⟩
section
variable {s:List UInt8} {S:List (List UInt8)}
def Ve{k n:Int}{l:List Tm}{c:Nat}(h:k=5∨k=6):flT S (.mk k n s l) c=(.mk 3 0 (newV (XG S c)) [],XG S c,[(XG S c,.mk k n s l)]):=by
 rw[flT,if_pos h]
def Vf{k n:Int}{l:List Tm}{c:Nat}(h:¬(k=5∨k=6)):flT S (.mk k n s l) c=(.mk k n s (flT.flTs S l c).1,(flT.flTs S l c).2.1,(flT.flTs S l c).2.2):=by
 rw[flT,if_neg h]
def ZpU(S:List (List UInt8)):(∀t c,c≤(flT S t c).2.1∧ ∀d∈(flT S t c).2.2,c<d.1∧d.1≤(flT S t c).2.1∧newV d.1∉S)∧
  ∀l c,c≤(flT.flTs S l c).2.1∧ ∀d∈(flT.flTs S l c).2.2,c<d.1∧d.1≤(flT.flTs S l c).2.1∧newV d.1∉S:=by
 refine XL (fun k n s l ih c=>?_) (fun c=>⟨Qg _,fun d hd=>by cases hd⟩) fun t r h1 h2 c=>?_
 ·by_cases hk:k=5∨k=6
  ·rw[Ve hk];have:=Zlg S c;refine⟨by simp only;omega,fun d hd=>?_⟩;simp only[Qm]at hd;subst hd;exact⟨this,Qg _,Zhy S c⟩
  ·rw[Vf hk];exact ih c
 ·simp only[flT.flTs];have a1:=h1 c;have a2:=h2 (flT S t c).2.1;refine⟨om,fun d hd=>?_⟩;rcases Qk.1 hd with hd|hd
  ·have:=a1.2 d hd;exact⟨this.1,om,this.2.2⟩
  ·have:=a2.2 d hd;exact⟨om,this.2.1,this.2.2⟩
def ZiZ(S:List (List UInt8)):(∀t c n,(n∈nmT (flT S t c).1∨ ∃d∈(flT S t c).2.2,n∈nmT d.2)↔(n∈nmT t∨ ∃d∈(flT S t c).2.2,n=newV d.1))∧
  ∀l c n,(n∈nmT.nms (flT.flTs S l c).1∨ ∃d∈(flT.flTs S l c).2.2,n∈nmT d.2)↔(n∈nmT.nms l∨ ∃d∈(flT.flTs S l c).2.2,n=newV d.1):=by
 refine XL (fun k n s l ih c m=>?_) (fun c m=>by simp[flT.flTs,nmT.nms]) fun t r h1 h2 c m=>?_
 ·by_cases hk:k=5∨k=6
  ·rw[Ve hk];simp[nmT,nmT.nms];exact or_comm
  ·rw[Vf hk];have:=ih c m;simp only[nmT,Qk,or_assoc]at this⊢;rw[this]
 ·simp only[flT.flTs,nmT.nms,Qk];have a1:=h1 c m;have a2:=h2 (flT S t c).2.1 m;constructor
  ·rintro((h|h)|⟨d,hd|hd,h⟩)
   ·rcases a1.1 (.inl h)with h|⟨d,hd,h⟩
    all_goals first|exact .inl (.inl h)|exact .inr ⟨d,.inl hd,h⟩
   ·rcases a2.1 (.inl h)with h|⟨d,hd,h⟩
    all_goals first|exact .inl (.inr h)|exact .inr ⟨d,.inr hd,h⟩
   ·rcases a1.1 (.inr ⟨d,hd,h⟩)with h|⟨d,hd,h⟩
    all_goals first|exact .inl (.inl h)|exact .inr ⟨d,.inl hd,h⟩
   ·rcases a2.1 (.inr ⟨d,hd,h⟩)with h|⟨d,hd,h⟩
    all_goals first|exact .inl (.inr h)|exact .inr ⟨d,.inr hd,h⟩
  ·rintro((h|h)|⟨d,hd|hd,h⟩)
   ·rcases a1.2 (.inl h)with h|⟨d,hd,h⟩
    all_goals first|exact .inl (.inl h)|exact .inr ⟨d,.inl hd,h⟩
   ·rcases a2.2 (.inl h)with h|⟨d,hd,h⟩
    all_goals first|exact .inl (.inr h)|exact .inr ⟨d,.inr hd,h⟩
   ·rcases a1.2 (.inr ⟨d,hd,h⟩)with h|⟨d,hd,h⟩
    all_goals first|exact .inl (.inl h)|exact .inr ⟨d,.inl hd,h⟩
   ·rcases a2.2 (.inr ⟨d,hd,h⟩)with h|⟨d,hd,h⟩
    all_goals first|exact .inl (.inr h)|exact .inr ⟨d,.inr hd,h⟩
def Zu6(S:List (List UInt8)):(∀t c,t.all okV=true→(flT S t c).1.all okV=true∧ ∀d∈(flT S t c).2.2,d.2.all okV=true)∧
  ∀l c,(∀u∈l,u.all okV=true)→(∀u∈(flT.flTs S l c).1,u.all okV=true)∧ ∀d∈(flT.flTs S l c).2.2,d.2.all okV=true:=by
 refine XL (fun k n s l ih c h=>?_) (fun c _=>⟨fun u hu=>(by cases hu),fun d hd=>by cases hd⟩) fun t r h1 h2 c h=>?_
 ·by_cases hk:k=5∨k=6
  ·rw[Ve hk];exact⟨by simp[Tm.all,Tm.all.alls,okV,Tm.kind,Tm.args,Tm.name,newV],fun d hd=>by simp only[Qm]at hd;subst hd;exact h⟩
  ·rw[Vf hk];have h':=ih c fun u hu=>YV h hu
   refine⟨?_,h'.2⟩;rw[Tm.all_eq,Qd,Tm.WJ,Qy];refine⟨?_,h'.1⟩;by_cases hk3:k=3
   ·subst hk3;have e:=Zd3 h;subst e;exact Ym h
   ·simp[okV,Tm.kind,hk3]
 ·simp only[flT.flTs];have a1:=h1 c (h t sm);have a2:=h2 (flT S t c).2.1 fun u hu=>h u (by simp[hu])
  refine⟨fun u hu=>?_,fun d hd=>?_⟩
  ·rcases Ql.1 hu with rfl|hu
   all_goals first|exact a1.1|exact a2.1 u hu
  ·rcases Qk.1 hd with hd|hd
   all_goals first|exact a1.2 d hd|exact a2.2 d hd
def ZgY(σ τ:Bnd)(ds:List (Nat×Tm)):Prop:=∀d∈ds,∃w∈(Yz d.2 σ).1,Zz (newV d.1) τ=some w
def ZqL(S:List (List UInt8)){σ τ:Bnd}(hx:YM σ τ):(∀t c,t.all okV=true→(∀n∈nmT t,n∈Zp σ)→ZgY σ τ (flT S t c).2.2→XA σ t (Zv τ (flT S t c).1))∧
  ∀l c,(∀u∈l,u.all okV=true)→(∀n∈nmT.nms l,n∈Zp σ)→ZgY σ τ (flT.flTs S l c).2.2→XA.covs σ l (Zv.apps τ (flT.flTs S l c).1):=by
 refine XL (fun k n s l ih c hV hn hd=>?_) (fun c _ _ _=>by simp[flT.flTs,XA.covs,Zv.apps]) fun t r h1 h2 c hV hn hd=>?_
 ·by_cases hk:k=5∨k=6
  ·rw[Ve hk]at hd⊢;obtain⟨w,hw,hl⟩:=hd _ (Qm.2 rfl);rw[XA,if_pos hk,Wp hl];exact hw
  ·rw[Vf hk]at hd⊢;rw[XA,if_neg hk];by_cases h3:k=3
   ·subst h3;obtain⟨v,hv⟩:=ZX.2 (hn s ZcS);rw[if_pos rfl,Wp (hx s v hv)];exact hv
   ·rw[if_neg h3,XI h3,←Jm];refine⟨rfl,rfl,rfl,ih c (fun u hu=>YV hV hu) (fun m hm=>hn m ?_) hd⟩;rw[nmT];exact QS _ hm
 ·simp only[flT.flTs]at hd⊢;simp only[XA.covs,Zv.apps];simp only[nmT.nms,Qk]at hn;exact⟨h1 c (hV t sm) (fun m hm=>hn m (.inl hm)) fun d h=>hd d (QG _ h),
   h2 _ (fun u hu=>hV u (by simp[hu])) (fun m hm=>hn m (.inr hm)) fun d h=>hd d (QS _ h)⟩
def Za7(S:List (List UInt8))(τ:Bnd)(c:Nat):Prop:=∀m,c<m→newV m∉S→newV m∉Zp τ
def Zko(S:List (List UInt8)){σ:Bnd}(hσ:ZI σ):(∀t c τ v,ZI τ→YM σ τ→Za7 S τ c→t.all okV=true→(∀n∈nmT t,n∈Zp σ)→XA σ t v→
   ∃τ',ZI τ'∧YM τ τ'∧(∀n,n∈Zp τ'↔n∈Zp τ∨ ∃d∈(flT S t c).2.2,n=newV d.1)∧Zv τ' (flT S t c).1=v∧ZgY σ τ' (flT S t c).2.2)∧
  ∀l c τ q,ZI τ→YM σ τ→Za7 S τ c→(∀u∈l,u.all okV=true)→(∀n∈nmT.nms l,n∈Zp σ)→XA.covs σ l q→
   ∃τ',ZI τ'∧YM τ τ'∧(∀n,n∈Zp τ'↔n∈Zp τ∨ ∃d∈(flT.flTs S l c).2.2,n=newV d.1)∧Zv.apps τ' (flT.flTs S l c).1=q∧ZgY σ τ' (flT.flTs S l c).2.2:=by
 refine XL (fun k n s l ih c τ v hg hx hf hV hn hc=>?_) (fun c τ q hg hx hf _ _ hc=>⟨τ,hg,YM.refl _,fun n=>by simp[flT.flTs],by simp[XA.covs]at hc;simp[flT.flTs,Zv.apps,hc],fun d hd=>by cases hd⟩)
  fun t r h1 h2 c τ q hg hx hf hV hn hc=>?_
 ·by_cases hk:k=5∨k=6
  ·rw[Ve hk];rw[XA,if_pos hk]at hc;have hfree:=hf _ (Zlg S c) (Zhy S c);have hl:Zz (newV (XG S c)) (WH (newV (XG S c)) v τ)=some v:=by rw[VN,if_pos rfl]
   refine⟨WH (newV (XG S c)) v τ,hg.ext hfree (Zad hσ hn hc),YM.ext hfree v,fun m=>?_,Wp hl,fun d hd=>?_⟩
   ·rw[ZdX];simp[or_comm]
   ·simp only[Qm]at hd;subst hd;exact⟨v,hc,hl⟩
  ·rw[Vf hk];rw[XA,if_neg hk]at hc;by_cases h3:k=3
   ·subst h3;have e:=Zd3 hV;subst e;rw[if_pos rfl]at hc;exact⟨τ,hg,YM.refl _,fun m=>by simp[flT.flTs],Wp (hx s v hc),fun d hd=>by cases hd⟩
   ·rw[if_neg h3]at hc;obtain⟨τ',g,x,d,a,w⟩:=ih c τ v.args hg hx hf (fun u hu=>YV hV hu) (fun m hm=>hn m (by rw[nmT];exact QS _ hm)) hc.2.2.2;refine⟨τ',g,x,d,?_,w⟩;rw[XI h3,←Jm,a,hc.1,hc.2.1,hc.2.2.1];cases v;rfl
 ·simp only[flT.flTs];simp only[nmT.nms,Qk]at hn;cases q with
  |nil=>simp only[XA.covs]at hc
  |cons v q=>
   simp only[XA.covs]at hc;obtain⟨τ1,g1,x1,d1,a1,w1⟩:=h1 c τ v hg hx hf (hV t sm) (fun m hm=>hn m (.inl hm)) hc.1;have hnum:=(ZpU S).1 t c;have hf1:Za7 S τ1 (flT S t c).2.1:=fun m hm hS hd=>by
    rcases(d1 _).1 hd with h|⟨d,hd,e⟩
    ·exact hf m om hS h
    ·have:=ZdY e;have:=(hnum.2 d hd).2.1;omega
   obtain⟨τ2,g2,x2,d2,a2,w2⟩:=h2 (flT S t c).2.1 τ1 q g1 (hx.trans x1) hf1 (fun u hu=>hV u (by simp[hu])) (fun m hm=>hn m (.inr hm)) hc.2;refine⟨τ2,g2,x1.trans x2,fun m=>?_,?_,fun d hd=>?_⟩
   ·rw[d2,d1];simp only[Qk];constructor
    ·rintro((h|⟨d,hd,h⟩)|⟨d,hd,h⟩);all_goals first|exact .inl h|exact .inr ⟨d,.inl hd,h⟩|exact .inr ⟨d,.inr hd,h⟩
    ·rintro(h|⟨d,hd|hd,h⟩);all_goals first|exact .inl (.inl h)|exact .inl (.inr ⟨d,hd,h⟩)|exact .inr ⟨d,hd,h⟩
   ·simp only[Zv.apps,a2];congr 1
    rw[←a1];refine(ZfB x2 fun m hm=>(d1 m).2 ?_).symm;rcases((ZiZ S).1 t c m).1 (.inl hm)with h|h
    ·exact .inl (ZfN hx (hn m (.inl h)))
    ·exact .inr h
   ·rcases Qk.1 hd with hd|hd
    ·obtain⟨w,hw,hl⟩:=w1 d hd;exact⟨w,hw,x2 _ _ hl⟩
    ·exact w2 d hd
end
def Zl4(S:List (List UInt8)):(∀t c,∀d∈(flT S t c).2.2,∀n∈nmT d.2,n∈nmT t)∧ ∀l c,∀d∈(flT.flTs S l c).2.2,∀n∈nmT d.2,n∈nmT.nms l:=by
 refine XL (fun k n s l ih c d hd m hm=>?_) (fun c d hd=>by cases hd) fun t r h1 h2 c d hd m hm=>?_
 ·by_cases hk:k=5∨k=6
  ·rw[Ve hk]at hd;simp only[Qm]at hd;subst hd;exact hm
  ·rw[Vf hk]at hd;rw[nmT];exact QS _ (ih c d hd m hm)
 ·simp only[flT.flTs]at hd;simp only[nmT.nms,Qk];rcases Qk.1 hd with hd|hd
  ·exact .inl (h1 c d hd m hm)
  ·exact .inr (h2 _ d hd m hm)
theorem Zaq(S:List (List UInt8)):∀(l:List Tm) (c:Nat),(flT.flTs S l c).1.length=l.length
 |[],_=>rfl
 |t::r,c=>by simp only[flT.flTs,Qq,Zaq S r]
def dfX(S:List (List UInt8))(x:Lt)(c:Nat):List (Nat×Tm):=if x.kind=1 then(flT.flTs S x.at_.args c).2.2 else []
def dfL(S:List (List UInt8)):List Lt→Nat→List (Nat×Tm)
 |[],_=>[]
 |x::r,c=>dfX S x c++dfL S r (flX S x c).2
section
variable {c:Nat} {x:Lt} {S:List (List UInt8)}
def JA(h:x.kind=1):flX S x c=({x with at_:=⟨x.at_.pred,(flT.flTs S x.at_.args c).1⟩}::(dfX S x c).map VH,(flT.flTs S x.at_.args c).2.1):=by
 rw[flX,if_pos h,dfX,if_pos h]
def Jh(h:¬x.kind=1):flX S x c=([x],c)∧dfX S x c=[]:=by
 rw[flX,if_neg h,dfX,if_neg h];exact⟨rfl,rfl⟩
variable {n:List UInt8} {d:Nat×Tm}
def ZgS:n∈ZA (VH d)↔n=newV d.1∨n∈nmT d.2:=by
 rw[Yx,if_pos (show(VH d).kind=2 from rfl)];simp[VH,nmT,nmT.nms]
def ZpY{ds:List (Nat×Tm)}:n∈(ds.map VH).flatMap ZA↔ ∃d∈ds,n=newV d.1∨n∈nmT d.2:=by
 simp only[Qx,Qi];constructor
 ·rintro⟨y,⟨d,hd,rfl⟩,h⟩;exact⟨d,hd,ZgS.1 h⟩
 ·rintro⟨d,hd,h⟩;exact⟨_,⟨d,hd,rfl⟩,ZgS.2 h⟩
def Zpp(S:List (List UInt8))(x:Lt)(c:Nat)(n:List UInt8):n∈(flX S x c).1.flatMap ZA↔n∈ZA x∨ ∃d∈dfX S x c,n=newV d.1:=by
 by_cases h:x.kind=1
 ·have hv:=(ZiZ S).2 x.at_.args c n;rw[JA h,QV,Qk,Yx,Yx,if_neg (show¬x.kind=2 by omega),if_neg (show¬x.kind=2 by omega),ZpY,dfX,if_pos h];constructor
  ·rintro(h|⟨d,hd,h|h⟩)
   ·exact hv.1 (.inl h)
   ·exact .inr ⟨d,hd,h⟩
   ·exact hv.1 (.inr ⟨d,hd,h⟩)
  ·rintro(h|⟨d,hd,h⟩)
   ·rcases hv.2 (.inl h)with h|⟨d,hd,h⟩
    all_goals first|exact .inl h|exact .inr ⟨d,hd,.inr h⟩
   ·exact .inr ⟨d,hd,.inl h⟩
 ·obtain⟨h1,h2⟩:=Jh (S:=S) (c:=c) h;rw[h1,h2];simp
def ZbF(S:List (List UInt8)):∀(l:List Lt) (c:Nat) (n:List UInt8),n∈(flL S l c).flatMap ZA↔n∈l.flatMap ZA∨ ∃d∈dfL S l c,n=newV d.1
 |[],c,n=>by simp[flL,dfL]
 |x::r,c,n=>by
  have h1:=Zpp S x c n;have h2:=ZbF S r (flX S x c).2 n;simp only[flL,dfL,Ut,QV,Qk,h1,h2];constructor
  ·rintro((h|⟨d,hd,h⟩)|(h|⟨d,hd,h⟩));all_goals first|exact .inl (.inl h)|exact .inr ⟨d,.inl hd,h⟩|exact .inl (.inr h)|exact .inr ⟨d,.inr hd,h⟩
  ·rintro((h|h)|⟨d,hd|hd,h⟩);all_goals first|exact .inl (.inl h)|exact .inr (.inl h)|exact .inl (.inr ⟨d,hd,h⟩)|exact .inr (.inr ⟨d,hd,h⟩)
def Ztu(c:Nat)(h:okX x):∀y∈(flX S x c).1,okX y:=by
 by_cases hk:x.kind=1
 ·have hf:=(Zu6 S).2 x.at_.args c (h.2 hk);rw[JA hk];intro y hy;rcases Ql.1 hy with rfl|hy
  ·exact⟨h.1,fun _=>hf.1⟩
  ·obtain⟨d,hd,rfl⟩:=Qi.1 hy;rw[dfX,if_pos hk]at hd;exact⟨fun _=>⟨by simp[VH,Tm.all,Tm.all.alls,okV,Tm.kind,Tm.args,Tm.name,newV],hf.2 d hd⟩,fun e=>by cases e⟩
 ·rw[(Jh (S:=S) (c:=c) hk).1];intro y hy;simp only[Qm]at hy;subst hy;exact h
def ZgZ{S:List (List UInt8)}:∀{l:List Lt} (c:Nat),(∀x∈l,okX x)→ ∀y∈flL S l c,okX y
 |[],_,_,y,hy=>by cases hy
 |x::r,c,h,y,hy=>by
  simp only[flL]at hy;rcases Qk.1 hy with hy|hy
  ·exact Ztu c (h x sm) y hy
  ·exact ZgZ _ (fun z hz=>h z (by simp[hz])) y hy
def Zm4(S:List (List UInt8))(x:Lt)(c:Nat):c≤(flX S x c).2∧ ∀d∈dfX S x c,c<d.1∧d.1≤(flX S x c).2∧newV d.1∉S:=by
 by_cases h:x.kind=1
 ·have:=(ZpU S).2 x.at_.args c;rw[JA h,dfX,if_pos h];exact this
 ·obtain⟨h1,h2⟩:=Jh (S:=S) (c:=c) h;rw[h1,h2];exact⟨Qg _,fun d hd=>by cases hd⟩
def ZmI(S:List (List UInt8)):∀(l:List Lt) (c:Nat),∀d∈dfL S l c,c<d.1∧newV d.1∉S
 |[],c,d,hd=>by cases hd
 |x::r,c,d,hd=>by
  have h1:=Zm4 S x c;simp only[dfL]at hd;rcases Qk.1 hd with hd|hd
  ·exact⟨(h1.2 d hd).1,(h1.2 d hd).2.2⟩
  ·have:=ZmI S r _ d hd;exact⟨om,this.2⟩
variable {σ τ:Bnd} {A:List Am}
def Zm5(hτ:ZI τ)(hx:YM σ τ)(hn:∀n∈nmT d.2,n∈Zp σ)(hd:newV d.1∈Zp τ):Zb7 A τ (VH d)↔ ∃w∈(Yz d.2 σ).1,Zz (newV d.1) τ=some w:=by
 obtain⟨u,hu⟩:=ZX.2 hd;have he:=ZfM hτ (t:=.mk 3 0 (newV d.1) []) rfl hu;have h2:Yz d.2 σ=Yz d.2 τ:=X6 d.2 fun n h=>Vq hx (hn n h)
 have hv:∀v∈(Yz d.2 τ).1,Zo v=true:=fun v hv=>Zad hτ (fun n h=>ZfN hx (hn n h)) hv
 have huv:=hτ.look hu;unfold Zb7;rw[if_pos (show(VH d).kind=2 from rfl),h2];simp only[VH,he,Qm,exists_eq_left,hu,Qp];constructor
 ·rintro⟨w,hw,h⟩;refine⟨w,hw,(Wh huv (hv w hw)).1 ?_⟩;simpa[YX]using h
 ·rintro⟨w,hw,rfl⟩;refine⟨u,hw,?_⟩;simp[YX,(Wh huv huv).2 rfl]
def ZoW(hτ:ZI τ)(hx:YM σ τ)(ho:okX x)(hn:∀n∈ZA x,n∈Zp σ)(hd:∀d∈dfX S x c,newV d.1∈Zp τ)
  (h:∀y∈(flX S x c).1,Zb7 A τ y):ZcW A σ x:=by
 unfold ZcW;by_cases h2:x.kind=2
 ·have hc:∀n,n∈nmT x.L∨n∈nmT x.R→Zz n σ=Zz n τ:=fun n h=>Vq hx (hn n (by rw[Yx,if_pos h2];exact h))
  rw[(Jh (S:=S) (c:=c) (x:=x) om).1]at h;have:=h x sm;rw[Zb7,if_pos h2]at this;rw[if_pos h2,X6 x.L fun n h=>hc n (.inl h),X6 x.R fun n h=>hc n (.inr h)];exact this
 rw[if_neg h2];by_cases h1:x.kind=1
 ·have hn':∀n∈nmT.nms x.at_.args,n∈Zp σ:=fun n h=>hn n (by rw[Yx,if_neg h2];exact h)
  rw[JA h1]at h;have hdf:ZgY σ τ (flT.flTs S x.at_.args c).2.2:=fun d hm=>by
   have hm':d∈dfX S x c:=by rw[dfX,if_pos h1];exact hm
   exact(Zm5 hτ hx (fun n h=>hn' n ((Zl4 S).2 _ c d hm n h)) (hd d hm')).1 (h _ (Qz _ (Qi.2 ⟨d,hm',rfl⟩)))
  have hs:=(ZqL S hx).2 x.at_.args c (ho.2 h1) hn' hdf;rw[if_pos h1];split
  ·rename_i hneg;have:=h _ QaG;rw[Zb7,if_neg h2,if_pos ⟨h1,hneg⟩]at this;obtain⟨a,ha,hsg,he⟩:=this;refine⟨a,ha,?_,?_⟩
   ·rw[hsg];simp[Am.sg,Zaq]
   ·rw[←he];exact hs
  ·exact⟨_,hs⟩
 ·rw[if_neg h1];trivial
def ZiV(hσ:ZI σ)(hτ:ZI τ)(hx:YM σ τ)(hf:Za7 S τ c)(ho:okX x)(hn:∀n∈ZA x,n∈Zp σ)(h:ZcW A σ x):
  ∃τ',ZI τ'∧YM τ τ'∧(∀n,n∈Zp τ'↔n∈Zp τ∨ ∃d∈dfX S x c,n=newV d.1)∧ ∀ρ,ZI ρ→YM τ' ρ→ ∀y∈(flX S x c).1,Zb7 A ρ y:=by
 unfold ZcW at h;by_cases h2:x.kind=2
 ·obtain⟨e1,e2⟩:=Jh (S:=S) (c:=c) (x:=x) om;rw[e1,e2];rw[if_pos h2]at h;refine⟨τ,hτ,YM.refl _,fun n=>by simp,fun ρ _ hρ y hy=>?_⟩;simp only[Qm]at hy;subst hy;have hc:∀n,n∈nmT y.L∨n∈nmT y.R→Zz n σ=Zz n ρ:=fun n h=>Vq (hx.trans hρ) (hn n (by rw[Yx,if_pos h2];exact h))
  rw[Zb7,if_pos h2,←X6 y.L fun n h=>hc n (.inl h),←X6 y.R fun n h=>hc n (.inr h)];exact h
 rw[if_neg h2]at h;by_cases h1:x.kind=1
 ·rw[if_pos h1]at h;have hn':∀n∈nmT.nms x.at_.args,n∈Zp σ:=fun n h=>hn n (by rw[Yx,if_neg h2];exact h)
  have hq:∃q,XA.covs σ x.at_.args q∧(x.neg=false→ ∃a∈A,a.sg=x.at_.sg∧q=a.args):=by
   split at h
   ·obtain⟨a,ha,hs,hc⟩:=h;exact⟨_,hc,fun _=>⟨a,ha,hs,rfl⟩⟩
   ·rename_i hneg;obtain⟨q,hc⟩:=h;exact⟨q,hc,fun e=>absurd e hneg⟩
  obtain⟨q,hc,hA⟩:=hq;obtain⟨τ',g,x',d,a,w⟩:=(Zko S hσ).2 x.at_.args c τ q hτ hx hf (ho.2 h1) hn' hc;have hdf:dfX S x c=(flT.flTs S x.at_.args c).2.2:=by rw[dfX,if_pos h1]
  refine⟨τ',g,x',by rw[hdf];exact d,fun ρ hρ xρ y hy=>?_⟩;rw[JA h1]at hy;rcases Ql.1 hy with rfl|hy
  ·unfold Zb7;rw[if_neg h2];split
   ·rename_i hk;obtain⟨b,hb,hs,hqe⟩:=hA hk.2;refine⟨b,hb,?_,?_⟩
    ·rw[hs];simp[Am.sg,Zaq]
    ·rw[←hqe,←a];refine(Zg8 _ fun n hm=>Vq xρ ((d n).2 ?_)).symm;rcases((ZiZ S).2 x.at_.args c n).1 (.inl hm)with h|h
     ·exact .inl (ZfN hx (hn' n h))
     ·exact .inr h
   ·trivial
  ·obtain⟨e,he,rfl⟩:=Qi.1 hy;rw[hdf]at he;obtain⟨v,hv,hl⟩:=w e he;exact(Zm5 hρ ((hx.trans x').trans xρ) (fun n h=>hn' n ((Zl4 S).2 _ c e he n h)) (ZX.1 ⟨v,xρ _ _ hl⟩)).2 ⟨v,hv,xρ _ _ hl⟩
 ·obtain⟨e1,e2⟩:=Jh (S:=S) (c:=c) (x:=x) h1;rw[e1,e2];refine⟨τ,hτ,YM.refl _,fun n=>by simp,fun ρ _ _ y hy=>?_⟩;simp only[Qm]at hy;subst hy;rw[Zb7,if_neg h2,if_neg (fun h=>h1 h.1)];trivial
def Zh1{A:List Am}{S:List (List UInt8)}{σ τ:Bnd}(hτ:ZI τ)(hx:YM σ τ):∀{l:List Lt} {c:Nat},(∀x∈l,okX x)→(∀n∈l.flatMap ZA,n∈Zp σ)→(∀d∈dfL S l c,newV d.1∈Zp τ)→
  (∀y∈flL S l c,Zb7 A τ y)→ ∀x∈l,ZcW A σ x
 |[],_,_,_,_,_,x,hm=>by cases hm
 |y::r,c,ho,hn,hd,h,x,hm=>by
  simp only[dfL,flL,QV,Qk]at hn hd h;rcases Ql.1 hm with rfl|hm
  ·exact ZoW hτ hx (ho x sm) (fun n h=>hn n (.inl h)) (fun d h=>hd d (.inl h)) fun z hz=>h z (.inl hz)
  ·exact Zh1 hτ hx (fun z hz=>ho z (by simp[hz])) (fun n h=>hn n (.inr h)) (fun d h=>hd d (.inr h)) (fun z hz=>h z (.inr hz)) x hm
def ZdN{A:List Am}{S:List (List UInt8)}{σ:Bnd}(hσ:ZI σ):∀{l:List Lt} {c:Nat} {τ:Bnd},ZI τ→YM σ τ→Za7 S τ c→(∀x∈l,okX x)→(∀n∈l.flatMap ZA,n∈Zp σ)→(∀x∈l,ZcW A σ x)→
  ∃τ',ZI τ'∧YM τ τ'∧(∀n,n∈Zp τ'↔n∈Zp τ∨ ∃d∈dfL S l c,n=newV d.1)∧ ∀y∈flL S l c,Zb7 A τ' y
 |[],_,τ,hτ,_,_,_,_,_=>⟨τ,hτ,YM.refl _,fun n=>by simp[dfL],fun y hy=>by cases hy⟩
 |x::r,c,τ,hτ,hx,hf,ho,hn,h=>by
  simp only[QV,Qk]at hn;obtain⟨τ1,g1,x1,d1,s1⟩:=ZiV hσ hτ hx hf (ho x sm) (fun n h=>hn n (.inl h)) (h x sm);have hnum:=Zm4 S x c;have hf1:Za7 S τ1 (flX S x c).2:=fun m hm hS hd=>by
   rcases(d1 _).1 hd with h|⟨d,hd,e⟩
   ·exact hf m om hS h
   ·have:=ZdY e;have:=(hnum.2 d hd).2.1;omega
  obtain⟨τ2,g2,x2,d2,s2⟩:=ZdN hσ g1 (hx.trans x1) hf1 (fun z hz=>ho z (by simp[hz])) (fun n h=>hn n (.inr h)) fun z hz=>h z (by simp[hz])
  refine⟨τ2,g2,x1.trans x2,fun n=>?_,fun y hy=>?_⟩
  ·rw[d2,d1];simp only[dfL,Qk];constructor
   ·rintro((h|⟨d,hd,h⟩)|⟨d,hd,h⟩);all_goals first|exact .inl h|exact .inr ⟨d,.inl hd,h⟩|exact .inr ⟨d,.inr hd,h⟩
   ·rintro(h|⟨d,hd|hd,h⟩);all_goals first|exact .inl (.inl h)|exact .inl (.inr ⟨d,hd,h⟩)|exact .inr ⟨d,hd,h⟩
  ·simp only[flL]at hy;rcases Qk.1 hy with hy|hy
   ·exact s1 τ2 g2 x2 y hy
   ·exact s2 y hy
/-! Join. -/
def XU(K:List (List UInt8))(b:Bnd):Prop:=ZI b∧ ∀n,n∈Zp b↔n∈K
def ZrU(K:List (List UInt8)):Zhx (XU K) YU:=by
 have hd:∀{x y:Bnd},XU K x→XU K y→Zp x=Zp y:=fun hx hy=>Zin hx.1.asc hy.1.asc fun n=>by rw[hx.2,hy.2]
 have hl:∀{x y:Bnd},XU K x→XU K y→x.length=y.length:=fun hx hy=>by have:=congrArg List.length (hd hx hy);simpa[Zp]using this
 have hnm:∀{x:Bnd},XU K x→ ∀u∈x.map Prod.snd,u.Nm:=fun hx u hu=>by obtain⟨q,hq,rfl⟩:=Qi.1 hu;exact JK (hx.1.val q hq)
 have he:∀{x y:Bnd},XU K x→XU K y→YU x y=cmpT.cmps (x.map Prod.snd) (y.map Prod.snd):=fun hx hy=>by
  unfold YU;rw[hl hx hy,ZaL,Jv]
 refine⟨⟨fun b=>ser.sers (b.map Prod.snd),fun x y hx hy=>?_⟩,fun x y hx hy h=>?_⟩
 ·rw[he hx hy,lex_sers _ _ (hnm hx) (hnm hy) (by simp[hl hx hy])]
 ·rw[he hx hy]at h;have h1:=cmps_zero (hnm hx) (hnm hy) h;have h2:=hd hx hy;refine Qbm fun i=>?_
  have a1:(x.map Prod.snd)[i]? =(y.map Prod.snd)[i]?:=by rw[h1]
  have a2:(x.map Prod.fst)[i]? =(y.map Prod.fst)[i]?:=congrArg (fun l:List (List UInt8)=>l[i]?) h2;rw[Ua,Ua]at a1 a2;cases e1:x[i]?<;>cases e2:y[i]?<;>rw[e1,e2]at a1 a2<;>simp at a1 a2;exact congrArg some (Qbc a2 a1)
def Z5(l:List Lt)(b:Bnd):List (List UInt8):=l.flatMap ZA++Zp b
def Sol(A:List Am)(l:List Lt)(b σ:Bnd):Prop:=XU (Z5 l b) σ∧YM b σ∧ ∀x∈l,ZcW A σ x
def ZnZ(hA:∀a∈A,Yh a=true){l:List Lt}{b:Bnd}(ho:∀x∈l,okX x)(hb:ZI b){p:List Stp}{out:List Bnd}(hp:Ja (Zp b) (XZ l (Z5 l b))=some p)(hr:Vt A p [b]=(out,0)):
  (XT YU (out.map (Jd (Z5 l b)))).Pairwise (fun x y=>YU x y<0)∧ ∀σ,σ∈XT YU (out.map (Jd (Z5 l b)))↔Sol A l b σ:=by
 let S:=Z5 l b++l.flatMap fun x=>(YB x).flatMap ZU
 have hF:XZ l (Z5 l b)=flL S l 0:=rfl;have hoF:∀y∈flL S l 0,okX y:=ZgZ 0 ho;rw[hF]at hp;obtain⟨m1,m2,m3⟩:=ZeF hoF hp;have hrun:=ZmM hA p (Zp b) [b] out (fun c hc=>by simp only[Qm]at hc;subst hc;exact⟨hb,fun n=>Iff.rfl⟩) m1 hr;have hdom:∀n,(n∈Zp b∨n∈p.flatMap varS)↔n∈Z5 l b∨ ∃d∈dfL S l 0,n=newV d.1:=fun n=>by
  rw[m2,ZbF S l 0 n];simp only[Z5,Qk];constructor
  ·rintro(h|h|h);all_goals first|exact .inl (.inr h)|exact .inl (.inl h)|exact .inr h
  ·rintro((h|h)|h);all_goals first|exact .inr (.inl h)|exact .inl h|exact .inr (.inr h)
 have hout:∀c,c∈out↔ZI c∧YM b c∧(∀n,n∈Zp c↔n∈Z5 l b∨ ∃d∈dfL S l 0,n=newV d.1)∧ ∀y∈flL S l 0,Zb7 A c y:=fun c=>by
  rw[hrun c];simp only[Qm,exists_eq_left];have hvar:(∀n,n∈Zp c↔n∈Z5 l b∨ ∃d∈dfL S l 0,n=newV d.1)→ ∀n∈(flL S l 0).flatMap ZA,n∈Zp c:=fun hd n hn=>by
   refine(hd n).2 ?_;rcases(ZbF S l 0 n).1 hn with h|h
   ·exact .inl (QG _ h)
   ·exact .inr h
  constructor
  ·rintro⟨g,x,d,s⟩;have d':∀n,n∈Zp c↔n∈Z5 l b∨ ∃d∈dfL S l 0,n=newV d.1:=fun n=>(d n).trans (hdom n)
   exact⟨g,x,d',(m3 A c g (hvar d')).1 s⟩
  ·rintro⟨g,x,d,s⟩;exact⟨g,x,fun n=>(d n).trans (hdom n).symm,(m3 A c g (hvar d)).2 s⟩
 have hres:∀c∈out,XU (Z5 l b) (Jd (Z5 l b) c):=fun c hc=>by
  obtain⟨g,x,d,s⟩:=(hout c).1 hc;refine⟨g.filter _,fun n=>?_⟩;rw[Zec];exact⟨fun h=>h.1,fun h=>⟨h,(d n).2 (.inl h)⟩⟩
 have hG:∀y∈out.map (Jd (Z5 l b)),XU (Z5 l b) y:=fun y hy=>by
  obtain⟨c,hc,rfl⟩:=Qi.1 hy;exact hres c hc
 refine⟨(ZrU _).set_asc hG,fun σ=>?_⟩;rw[(ZrU _).set_mem hG,Qi];constructor
 ·rintro⟨c,hc,rfl⟩;obtain⟨g,x,d,s⟩:=(hout c).1 hc;have hsd:=hres c hc;refine⟨hsd,fun n v hn=>?_,Zh1 g (Zkt _ _) ho (fun n hn=>(hsd.2 n).2 (QG _ hn)) (fun d' hd'=>(d _).2 (.inr ⟨d',hd',rfl⟩)) s⟩;rw[ZaJ,if_pos (show n∈Z5 l b from QS _ (ZX.1 ⟨v,hn⟩))];exact x n v hn
 ·rintro⟨⟨g,d⟩,x,s⟩;have hf:Za7 S σ 0:=fun m _ hm hd=>hm (QG _ ((d _).1 hd))
  obtain⟨τ,gτ,xτ,dτ,sτ⟩:=ZdN g g (YM.refl σ) hf ho (fun n hn=>(d n).2 (QG _ hn)) s;refine⟨τ,(hout τ).2 ⟨gτ,x.trans xτ,fun n=>by rw[dτ,d],sτ⟩,?_⟩;refine ZfR (gτ.filter _) g (fun n v hn=>?_) fun n hn=>?_
  ·rw[ZaJ]at hn;split at hn
   ·rename_i hk;obtain⟨w,hw⟩:=ZX.2 ((d n).2 hk);rw[xτ n w hw]at hn;cases hn;exact hw
   ·cases hn
  ·rw[Zec];exact⟨(d n).1 hn,ZfN xτ hn⟩
end
def bareT:Tm→List (List UInt8)
 | .mk k _ s l=>if k=5∨k=6 then []else(if k=3 then [s]else [])++bares l
where bares:List Tm→List (List UInt8)
 |[]=>[]
 |t::r=>bareT t++bares r
inductive Rch (S:List (List UInt8)) (l:List Lt):List UInt8→Prop
 |base {n}:n∈S→Rch S l n
 |atom {n} (x:Lt):x∈l→x.kind=1→x.neg=false→n∈bareT.bares x.at_.args→Rch S l n
 |left {n} (x:Lt):x∈l→x.kind=2→x.op=1→x.L.kind=3→(∀m∈nmT x.R,Rch S l m)→n∈nmT x.L→Rch S l n
 |right {n} (x:Lt):x∈l→x.kind=2→x.op=1→x.R.kind=3→(∀m∈nmT x.L,Rch S l m)→n∈nmT x.R→Rch S l n
def Safe(S:List (List UInt8))(l:List Lt):Prop:=∀n∈l.flatMap ZA,Rch S l n
def Zi8(S:List (List UInt8)):(∀t c n,n∈nmT (flT S t c).1↔n∈bareT t∨ ∃d∈(flT S t c).2.2,n=newV d.1)∧ ∀l c n,n∈nmT.nms (flT.flTs S l c).1↔n∈bareT.bares l∨ ∃d∈(flT.flTs S l c).2.2,n=newV d.1:=by
 refine XL (fun k n s l ih c m=>?_) (fun c m=>by simp[flT.flTs,nmT.nms,bareT.bares]) fun t r h1 h2 c m=>?_
 ·by_cases hk:k=5∨k=6
  ·rw[Ve hk,bareT,if_pos hk];simp[nmT,nmT.nms]
  ·rw[Vf hk,bareT,if_neg hk];have:=ih c m;simp only[nmT,Qk,or_assoc,this]
 ·have a1:=h1 c m;have a2:=h2 (flT S t c).2.1 m;simp only[flT.flTs,nmT.nms,bareT.bares,Qk,a1,a2];constructor
  ·rintro((h|⟨d,hd,h⟩)|(h|⟨d,hd,h⟩));all_goals first|exact .inl (.inl h)|exact .inr ⟨d,.inl hd,h⟩|exact .inl (.inr h)|exact .inr ⟨d,.inr hd,h⟩
  ·rintro((h|h)|⟨d,hd|hd,h⟩);all_goals first|exact .inl (.inl h)|exact .inr (.inl h)|exact .inl (.inr ⟨d,hd,h⟩)|exact .inr (.inr ⟨d,hd,h⟩)
def bare_sub:(∀t,∀n∈bareT t,n∈nmT t)∧ ∀l,∀n∈bareT.bares l,n∈nmT.nms l:=by
 refine XL (fun k n s l ih m hm=>?_) (fun m hm=>by cases hm) fun t r h1 h2 m hm=>?_
 ·rw[bareT]at hm;split at hm
  ·cases hm
  ·rw[nmT];rcases Qk.1 hm with h|h
   all_goals first|exact QG _ h|exact QS _ (ih m h)
 ·simp only[bareT.bares,nmT.nms,Qk]at hm⊢;exact hm.imp (h1 m) (h2 m)
def ZrG(S:List (List UInt8)):(∀t c,∀d∈(flT S t c).2.2,d.2.kind=5∨d.2.kind=6)∧ ∀l c,∀d∈(flT.flTs S l c).2.2,d.2.kind=5∨d.2.kind=6:=by
 refine XL (fun k n s l ih c d hd=>?_) (fun c d hd=>by cases hd) fun t r h1 h2 c d hd=>?_
 ·by_cases hk:k=5∨k=6
  ·rw[Ve hk]at hd;simp only[Qm]at hd;subst hd;exact hk
  ·rw[Vf hk]at hd;exact ih c d hd
 ·simp only[flT.flTs]at hd;rcases Qk.1 hd with hd|hd
  all_goals first|exact h1 c d hd|exact h2 _ d hd
def flA(S:List (List UInt8))(x:Lt)(c:Nat):Lt:={x with at_:=⟨x.at_.pred,(flT.flTs S x.at_.args c).1⟩}
def Zfy{S:List (List UInt8)}{y:Lt}:∀{l:List Lt} {c:Nat},y∈flL S l c→(∃x∈l,¬x.kind=1∧y=x)∨(∃x∈l,x.kind=1∧ ∃c',y=flA S x c'∧ ∀d∈(flT.flTs S x.at_.args c').2.2,d∈dfL S l c)∨ ∃d∈dfL S l c,y=VH d
 |[],_,h=>by cases h
 |x::r,c,h=>by
  simp only[flL]at h;rcases Qk.1 h with h|h
  ·by_cases hk:x.kind=1
   ·rw[JA hk]at h;rcases Ql.1 h with rfl|h
    ·exact .inr (.inl ⟨x,sm,hk,c,rfl,fun d hd=>by simp only[dfL];exact QG _ (by rw[dfX,if_pos hk];exact hd)⟩)
    ·obtain⟨d,hd,rfl⟩:=Qi.1 h;exact .inr (.inr ⟨d,by simp only[dfL];exact QG _ hd,rfl⟩)
   ·rw[(Jh (S:=S) (c:=c) hk).1]at h;simp only[Qm]at h;exact .inl ⟨x,sm,hk,h⟩
  ·rcases Zfy h with⟨z,hz,h⟩|⟨z,hz,hk,c',e,h⟩|⟨d,hd,h⟩
   ·exact .inl ⟨z,by simp[hz],h⟩
   ·exact .inr (.inl ⟨z,by simp[hz],hk,c',e,fun d hd=>by simp only[dfL];exact QS _ (h d hd)⟩)
   ·exact .inr (.inr ⟨d,by simp only[dfL];exact QS _ hd,h⟩)
def Zdr{S:List (List UInt8)}:∀{l:List Lt} {c:Nat},(∀x∈l,¬x.kind=1→x∈flL S l c)∧(∀x∈l,x.kind=1→ ∃c',flA S x c'∈flL S l c)∧ ∀d∈dfL S l c,VH d∈flL S l c
 |[],_=>⟨fun x h=>(by cases h),fun x h=>(by cases h),fun d h=>(by cases h)⟩
 |x::r,c=>by
  obtain⟨a1,a2,a3⟩:=Zdr (S:=S) (l:=r) (c:=(flX S x c).2);simp only[flL,dfL];refine⟨fun z hz hk=>?_,fun z hz hk=>?_,fun d hd=>?_⟩
  ·rcases Ql.1 hz with rfl|hz
   ·exact QG _ (by rw[(Jh (S:=S) (c:=c) hk).1];simp)
   ·exact QS _ (a1 z hz hk)
  ·rcases Ql.1 hz with rfl|hz
   ·exact⟨c,QG _ (by rw[JA hk];exact QaG)⟩
   ·obtain⟨c',h⟩:=a2 z hz hk;exact⟨c',QS _ h⟩
  ·rcases Qk.1 hd with hd|hd
   ·refine QG _ ?_;by_cases hk:x.kind=1
    ·rw[JA hk];exact Qz _ (Qi.2 ⟨d,hd,rfl⟩)
    ·rw[(Jh (S:=S) (c:=c) hk).2]at hd;cases hd
   ·exact QS _ (a3 d hd)
def ZfF{S:List (List UInt8)}:∀{l:List Lt} {c:Nat},∀d∈dfL S l c,(d.2.kind=5∨d.2.kind=6)∧ ∀n∈nmT d.2,n∈l.flatMap ZA
 |[],_,d,hd=>by cases hd
 |x::r,c,d,hd=>by
  simp only[dfL]at hd;rcases Qk.1 hd with hd|hd
  ·unfold dfX at hd;split at hd
   ·rename_i hk;refine⟨(ZrG S).2 _ c d hd,fun n hn=>?_⟩;rw[QV];refine QG _ ?_;rw[Yx,if_neg om];exact(Zl4 S).2 _ c d hd n hn
   ·cases hd
  ·obtain⟨a,b⟩:=ZfF d hd;exact⟨a,fun n hn=>by rw[QV];exact QS _ (b n hn)⟩
def ZnB{P:List UInt8→Prop}{F:List Lt}(hstep:∀s y S,y∈F→VK s y→Ready S s→(∀n∈S,P n)→ ∀n∈varS s,P n):∀{p:List Stp} {T:List Lt} {S:List (List UInt8)},Fa2 VK p T→(∀y∈T,y∈F)→Rdy S p→(∀n∈S,P n)→ ∀n∈p.flatMap varS,P n
 |_,_,_,.nil,_,_,_,n,hn=>by simp at hn
 |_,_,S,.cons (a:=s) h t,hT,hr,hS,n,hn=>by
  have h1:=hstep _ _ S (hT _ sm) h hr.1 hS;rw[QV]at hn;rcases Qk.1 hn with hn|hn
  ·exact h1 n hn
  ·exact ZnB hstep t (fun y hy=>hT y (by simp[hy])) hr.2 (fun m hm=>by rcases Qk.1 hm with hm|hm;all_goals first|exact hS m hm|exact h1 m hm) n hn
section
variable {S:List (List UInt8)}
def Za9{x:Lt}(hk:x.kind=2)(hop:x.op=1):(x.L.kind=3→(∀n∈nmT x.R,n∈S)→Y3 S x≠none)∧(x.R.kind=3→(∀n∈nmT x.L,n∈S)→Y3 S x≠none):=by
 unfold Y3;rw[if_pos hk];refine⟨fun h3 hr=>?_,fun h3 hl=>?_⟩
 ·split
  ·simp
  ·rw[if_pos ⟨hop,WL.2 hr,h3⟩];simp
 ·split
  ·simp
  ·split
   ·simp
   ·rw[if_pos ⟨hop,WL.2 hl,h3⟩];simp
def ZlK{x:Lt}(hk:x.kind=2)(h:∀n∈ZA x,n∈S):Y3 S x≠none:=by
 unfold Y3;have h':∀n,n∈nmT x.L∨n∈nmT x.R→n∈S:=fun n hn=>h n (by rw[Yx,if_pos hk];exact hn)
 rw[if_pos hk,if_pos]
 ·simp
 ·rw[Qd,WL,WL];exact⟨fun n hn=>h' n (.inl hn),fun n hn=>h' n (.inr hn)⟩
def Zo4{l:List Lt}{b:Bnd}(ho:∀x∈l,okX x)(hk:∀x∈l,x.kind=1∨x.kind=2):(Ja (Zp b) (XZ l (Z5 l b)))≠none↔Safe (Zp b) l:=by
 let S:=Z5 l b++l.flatMap fun x=>(YB x).flatMap ZU
 have hF:XZ l (Z5 l b)=flL S l 0:=rfl;rw[hF];have hoF:∀y∈flL S l 0,okX y:=ZgZ 0 ho;have hnew:∀d∈dfL S l 0,∀n,n∈l.flatMap ZA∨n∈Zp b→ ¬n=newV d.1:=fun d hd n hn e=>by
  refine(ZmI S l 0 d hd).2 ?_;rw[←e];refine QG _ ?_;rcases hn with hn|hn
  all_goals first|exact QG _ hn|exact QS _ hn
 have hvar:∀x∈l,∀n∈ZA x,n∈l.flatMap ZA:=fun x hx n hn=>Qx.2 ⟨x,hx,hn⟩
 obtain⟨T,a1,a2,a3,a4,a5⟩:=plan_spec (flL S l 0).length (Zp b) (flL S l 0) hoF;have hnone:=a5 (Qg _);simp only[Vj,QbF]at hnone;have n1:=Zcl hnone.1;have n2:=Zcl hnone.2;constructor
 ·intro h n hn;cases hp:Ja (Zp b) (flL S l 0)with
  |none=>exact absurd hp h
  |some p=>
   obtain⟨m1,m2,_⟩:=ZeF hoF hp;have hpe:p=(planF (flL S l 0).length (Zp b) (flL S l 0)).1:=by
    unfold Ja at hp;simp only at hp;split at hp
    ·cases hp;rfl
    ·cases hp
   have hall:=ZnB (F:=flL S l 0) (P:=fun n=>Rch (Zp b) l n∨ ∃d∈dfL S l 0,n=newV d.1) (fun s y S' hy hm hr hS' n hn=>?_) (hpe▸a2) (fun y hy=>a1.mem_iff.2 (QG _ hy)) m1 fun n hn=>.inl (.base hn)
   ·have:n∈Zp b∨n∈p.flatMap varS:=(m2 n).2 (.inr ((ZbF S l 0 n).2 (.inl hn)));rcases this with h|h
    ·exact .base h
    ·rcases hall n h with h|⟨d,hd,e⟩
     ·exact h
     ·exact absurd e (hnew d hd n (.inl hn))
   ·have hR:∀n∈S',n∈l.flatMap ZA→Rch (Zp b) l n:=fun n hn hl=>by
     rcases hS' n hn with h|⟨d,hd,e⟩
     ·exact h
     ·exact absurd e (hnew d hd n (.inl hl))
    cases s with
    |test z=>exact hS' n (hr n hn)
    |bind m t=>
     obtain⟨hk2,hop,hm⟩:=hm;rcases Ql.1 hn with rfl|hn
     ·rcases Zfy hy with⟨x,hx,hk1,rfl⟩|⟨x,hx,hk1,c',rfl,_⟩|⟨d,hd,rfl⟩
      ·rcases hm with⟨h3,rfl,rfl⟩|⟨h3,rfl,rfl⟩
       ·refine .inl (.left y hx hk2 hop h3 (fun m hm=>hR m (hr.2 m hm) (hvar y hx m ?_)) ?_)
        ·rw[Yx,if_pos hk2];exact .inr hm
        ·rw[Zae h3 ((ho y hx).1 hk2).1];simp
       ·refine .inl (.right y hx hk2 hop h3 (fun m hm=>hR m (hr.2 m hm) (hvar y hx m ?_)) ?_)
        ·rw[Yx,if_pos hk2];exact .inl hm
        ·rw[Zae h3 ((ho y hx).1 hk2).2];simp
      ·simp only[flA]at hk2;omega
      ·rcases hm with⟨h3,rfl,rfl⟩|⟨h3,rfl,rfl⟩
       ·exact .inr ⟨d,hd,rfl⟩
       ·have:=(ZfF d hd).1;simp only[VH]at h3;omega
     ·exact hS' n (hr.2 n hn)
    |atom a=>
     obtain⟨hk1,hneg,rfl⟩:=hm;rcases Zfy hy with⟨x,hx,hk',rfl⟩|⟨x,hx,hkx,c',rfl,hds⟩|⟨d,hd,rfl⟩
     ·exact absurd hk1 hk'
     ·rcases((Zi8 S).2 x.at_.args c' n).1 hn with h|⟨d,hd,e⟩
      ·exact .inl (.atom x hx hkx hneg h)
      ·exact .inr ⟨d,hds d hd,e⟩
     ·cases hk1
 ·intro hs;have hin:∀n,Rch (Zp b) l n→n∈(planF (flL S l 0).length (Zp b) (flL S l 0)).2.1:=by
   have htake:∀y∈flL S l 0,(Y3 (planF (flL S l 0).length (Zp b) (flL S l 0)).2.1 y≠none∨JR y≠none)→ ∀n∈ZA y,n∈(planF (flL S l 0).length (Zp b) (flL S l 0)).2.1:=fun y hy h n hn=>by
    rcases Qk.1 (a1.mem_iff.1 hy)with hT|hr
    ·exact(a4 n).2 (.inr (Qx.2 ⟨y,hT,hn⟩))
    ·rcases h with h|h
     ·exact absurd (n1 y hr) h
     ·exact absurd (n2 y hr) h
   intro n h;induction h with
   |base h=>exact(a4 _).2 (.inl h)
   |atom x hx hkx hneg h=>
    obtain⟨c',hy⟩:=(Zdr (S:=S) (l:=l) (c:=0)).2.1 x hx hkx;refine htake _ hy (.inr ?_) _ ?_
    ·simp[JR,flA,hkx,hneg]
    ·rw[Yx,if_neg (show¬(flA S x c').kind=2 by simp only[flA];omega)];exact((Zi8 S).2 x.at_.args c' _).2 (.inl h)
   |left x hx hk2 hop h3 _ h ih=>
    refine htake x ((Zdr (S:=S) (l:=l) (c:=0)).1 x hx om) (.inl ((Za9 hk2 hop).1 h3 ih)) _ ?_;rw[Yx,if_pos hk2];exact .inl h
   |right x hx hk2 hop h3 _ h ih=>
    refine htake x ((Zdr (S:=S) (l:=l) (c:=0)).1 x hx om) (.inl ((Za9 hk2 hop).2 h3 ih)) _ ?_;rw[Yx,if_pos hk2];exact .inr h
  have hl:∀n∈l.flatMap ZA,n∈(planF (flL S l 0).length (Zp b) (flL S l 0)).2.1:=fun n hn=>hin n (hs n hn)
  have hdef:∀d∈dfL S l 0,newV d.1∈(planF (flL S l 0).length (Zp b) (flL S l 0)).2.1:=fun d hd=>by
   have hy:=(Zdr (S:=S) (l:=l) (c:=0)).2.2 d hd;rcases Qk.1 (a1.mem_iff.1 hy)with hT|hr
   ·exact(a4 _).2 (.inr (Qx.2 ⟨_,hT,ZgS.2 (.inl rfl)⟩))
   ·exact absurd (n1 _ hr) ((Za9 rfl rfl).1 rfl fun n hn=>hl n ((ZfF d hd).2 n hn))
  unfold Ja;simp only;rw[if_pos]
  ·simp
  ·rw[Qy];intro y hr;have hy:y∈flL S l 0:=a1.mem_iff.2 (QS _ hr);rcases Zfy hy with⟨x,hx,hk',rfl⟩|⟨x,hx,hkx,c',rfl,hds⟩|⟨d,hd,rfl⟩
   ·have hk2:y.kind=2:=by rcases hk y hx with h|h;all_goals first|exact absurd h hk'|exact h
    exact absurd (n1 y hr) (ZlK hk2 fun n hn=>hl n (hvar y hx n hn))
   ·have hk2:¬(flA S x c').kind=2:=by simp only[flA];omega
    simp only[X7,Qd,MJ,beq_eq_false_iff_ne,ZbW];refine⟨hk2,fun n hn=>?_⟩;rw[Yx,if_neg hk2]at hn;rcases((Zi8 S).2 x.at_.args c' n).1 hn with h|⟨d,hd,e⟩
    ·exact hl n (hvar x hx n (by rw[Yx,if_neg om];exact bare_sub.2 _ n h))
    ·rw[e];exact hdef d (hds d hd)
   ·exact absurd (n1 _ hr) ((Za9 rfl rfl).1 rfl fun n hn=>hl n ((ZfF d hd).2 n hn))
end
theorem plains_eq:∀l:List Tm,plainT.plains l=l.map plainT
 |[]=>rfl
 |t::r=>by rw[plainT.plains,plains_eq r];rfl
theorem plain_okV:(∀t:Tm,(plainT t).all shape=true→t.all okV=true)∧ ∀l:List Tm,(∀u∈plainT.plains l,u.all shape=true)→ ∀u∈l,u.all okV=true:=by
 refine XL (fun k n s l ih h=>?_) (fun _ u hu=>by cases hu) fun t r h1 h2 h u hu=>?_
 ·rw[plainT]at h;have h0:=Ym h;rw[Tm.all_eq,Qd,Tm.WJ,Qy]at h⊢;refine⟨?_,ih h.2⟩;by_cases hk:k=3
  ·subst hk;simp only[okV,Tm.kind,Tm.args,Tm.name];simp[shape,nargs,named,Tm.kind,Tm.args,Tm.name,Tm.num,plains_eq]at h0;obtain⟨⟨⟨_,hs⟩,_⟩,hl⟩:=h0;have hl:l=[]:=by cases l with
    |nil=>rfl
    |cons _ _=>simp at hl
   subst hl;cases s with
   |nil=>simp at hs
   |cons b r=>rfl
  ·simp[okV,Tm.kind,hk]
 ·simp only[plainT.plains]at h;rcases Ql.1 hu with rfl|hu
  ·exact h1 (h _ sm)
  ·exact h2 (fun w hw=>h w (by simp[hw])) u hu
def Zc9{t:Tm}(h:Jf t=true):t.all okV=true:=by
 simp only[Jf,YI,Qd]at h;exact plain_okV.1 t h.2
def Zcg{x:Lt}(h:Yt x=true):okX x∧(x.kind=1∨x.kind=2):=by
 unfold Yt at h;split at h
 ·rename_i hk;simp only[Qd,Qy]at h;exact⟨⟨fun e=>by omega,fun _ u hu=>Zc9 (h.2 u hu)⟩,.inl hk⟩
 ·split at h
  ·rename_i hk;simp only[Qd]at h;exact⟨⟨fun _=>⟨Zc9 h.1.2,Zc9 h.2⟩,fun e=>by omega⟩,.inr hk⟩
  ·cases h
def validB_good:∀{b:Bnd},validB b=true→ZI b
 |[],_=>⟨List.Pairwise.nil,fun q hq=>by cases hq⟩
 |[p],h=>⟨by simp[Jg],fun q hq=>by simp only[Qm]at hq;subst hq;exact h⟩
 |p::q::r,h=>by
  simp only[validB,Qd,decide_eq_true_eq]at h;obtain⟨a,v⟩:=validB_good (b:=q::r) h.2;refine⟨UN.2 ⟨fun y hy=>?_,a⟩,fun y hy=>?_⟩
  ·rcases Ql.1 hy with rfl|hy
   ·exact h.1.2
   ·exact serN.trans (y:=q.1) trivial trivial trivial h.1.2 ((UN.1 a).1 y hy)
  ·rcases Ql.1 hy with rfl|hy
   all_goals first|exact h.1.1|exact v y hy
def Er(e:Int):Prop:=e=0∨e=3∨e=5
def ZlV(t:Tm)(b:Bnd):Er (Yz t b).2:=by
 unfold Yz Er;split
 ·split<;>simp
 ·simp
def Zrb(A:List Am)(s:Stp)(b:Bnd):Er (stepS A s b).2:=by
 cases s with
 |test x=>
  simp only[stepS,Jj];have:=ZlV x.L b;have:=ZlV x.R b;split
  ·simp only[Je];split<;>assumption
  ·exact .inl rfl
 |bind n t=>exact ZlV t b
 |atom a=>exact .inl rfl
def Zs6{f:Bnd→List Bnd×Int}(h:∀b,Er (f b).2)(now:List Bnd):Er (Xo f now).2:=by
 have:∀(now:List Bnd) (p:List Bnd×Int),Er p.2→Er (now.foldl (fun p b=>WC p (f b)) p).2:=by
  intro now;induction now with
  |nil=>intro p hp;exact hp
  |cons b now ih=>
   intro p hp;refine ih _ ?_;simp only[WC];split
   ·exact h b
   ·exact hp
 simp only[Xo];split
 ·exact .inr (.inr rfl)
 ·exact this now _ (.inl rfl)
def ZqW(A:List Am):∀(p:List Stp) (now:List Bnd),Er (Vt A p now).2
 |[],_=>.inl rfl
 |s::p,now=>by
  simp only[Vt];split
  ·exact ZqW A p _
  ·exact Zs6 (Zrb A s) now
def ZbZ{A:List Am}(hA:∀a∈A,Yh a=true)(l:List Lt)(b:Bnd):
  (¬(l.all Yt=true∧validB b=true)∧YL A l b=([],2))∨
  (l.all Yt=true∧validB b=true∧ ¬Safe (Zp b) l∧YL A l b=([],120))∨
  (l.all Yt=true∧validB b=true∧Safe (Zp b) l∧((∃e,(e=3∨e=5)∧YL A l b=([],e))∨
   ∃r,YL A l b=(r,0)∧r.Pairwise (fun x y=>YU x y<0)∧ ∀σ,σ∈r↔Sol A l b σ)):=by
 by_cases hv:l.all Yt=true∧validB b=true
 ·have ho:∀x∈l,okX x:=fun x hx=>(Zcg (Qy.1 hv.1 x hx)).1
  have hk:∀x∈l,x.kind=1∨x.kind=2:=fun x hx=>(Zcg (Qy.1 hv.1 x hx)).2
  have hb:=validB_good hv.2;have hs:=Zo4 (b:=b) ho hk;have hj:YL A l b=match Ja (Zp b) (XZ l (Z5 l b))with
   |none=>([],eUnsafe)
   |some p=>if(Vt A p [b]).2=0 then(XT YU ((Vt A p [b]).1.map (Jd (Z5 l b))),0)else([],(Vt A p [b]).2):=by
   unfold YL;rw[hv.1,hv.2];rfl
  cases hp:Ja (Zp b) (XZ l (Z5 l b))with
  |none=>
   rw[hp]at hs hj;exact .inr (.inl ⟨hv.1,hv.2,fun h=>hs.2 h rfl,hj⟩)
  |some p=>
   rw[hp]at hj;refine .inr (.inr ⟨hv.1,hv.2,hs.1 (by rw[hp];simp),?_⟩);simp only at hj;have he:=ZqW A p [b];by_cases h0:(Vt A p [b]).2=0
   ·rw[if_pos h0]at hj;have:=ZnZ hA ho hb hp (out:=(Vt A p [b]).1) (by rw[←h0]);exact .inr ⟨_,hj,this.1,this.2⟩
   ·rw[if_neg h0]at hj;refine .inl ⟨_,?_,hj⟩;rcases he with h|h|h
    all_goals first|exact absurd h h0|exact .inl h|exact .inr h
 ·refine .inl ⟨hv,?_⟩;unfold YL;rw[if_neg];rw[Qd];exact hv
def Zoq{K:List (List UInt8)}{r:List Bnd}(hG:∀x∈r,XU K x)(h:r.Pairwise fun x y=>YU x y<0):r.Nodup:=by
 refine QaA (fun{a b} ha _ hab e=>?_) h;subst e;rw[(ZrU K).self (hG a ha)]at hab;omega
section
variable {t:Tm}
def ZrP(h:okv t=true):t.args.length≤8:=by
 rcases XK h with h|h|h
 ·rw[h.2.2.2.2];simp
 ·rw[h.2.2.2];simp
 ·omega
def Zqp{K:Nat}:∀{l:List Tm},(∀u∈l,u.sz≤K)→Tm.sz.szs l≤l.length*K
 |[],_=>by simp[Tm.sz.szs]
 |t::r,h=>by
  have h1:=h t sm;have h2:=Zqp (l:=r) fun u hu=>h u (by simp[hu])
  simp only[Tm.sz.szs,Qq,Ui,QaX];omega
def okv_size:∀(d:Nat) (t:Tm),t.all okv=true→dep t≤d→7*t.sz+1≤8^d
 |0,t,_,h=>absurd h (by have:=ZmZ t;omega)
 |d+1,t,hv,h=>by
  have h1:∀u∈t.args,u.sz≤(8^d - 1) / 7:=fun u hu=>by
   have:=okv_size d u (YV hv hu) (by have:=ZfE hu;omega);omega
  have h2:=Zqp h1;have h3:=ZrP (Ym hv);have h4:t.args.length*((8^d - 1) / 7)≤8*((8^d - 1) / 7):=QF _ h3;have h5:1≤8^d:=Nat.pow_pos om;rw[Tm.ZhJ,QaL];omega
def Zg9(h:Zo t=true):t.sz≤9817068105:=by
 have:=okv_size 12 t (Xr h) (ZhW h);omega
def Xi(h:Zo t=true):t.Good:=⟨by have:=Zg9 h;omega,JK h⟩
def Zk4{b:Bnd}(hb:ZI b):∀t:Tm,(Zv b t).sz≤t.sz*9817068105
 | .mk k n s l=>by
  have h0:∀q:List Tm,(∀u∈q,u∈l)→Tm.sz.szs (q.map (Zv b))≤Tm.sz.szs q*9817068105:=by
   intro q;induction q with
   |nil=>intro _;simp[Tm.sz.szs]
   |cons u q ih=>
    intro hq;have h1:=ih fun v hv=>hq v (by simp[hv])
    have hu:u∈l:=hq u sm;have h2:=Zk4 hb u;simp only[Qv,Tm.sz.szs];omega
  have hl:=h0 l fun _ h=>h
  rw[Zan];cases e:(if k=3 then Zz s b else none)with
  |none=>simp only[Tm.sz];omega
  |some v=>
   have hv:Zz s b=some v:=by
    split at e
    ·exact e
    ·cases e
   have:=Zg9 (hb.look hv);simp only[Tm.sz];omega
termination_by t=>SizeOf.sizeOf t
decreasing_by
 have:=QL hu;simp only[Tm.mk.sizeOf_spec];omega
def Zq3{b:Bnd}(hb:ZI b):∀t:Tm,t.Nm→(Zv b t).Nm
 | .mk k n s l,h=>by
  have h1:∀u∈l,(Zv b u).Nm:=fun u hu=>Zq3 hb u (h.arg u hu)
  rw[Zan];cases e:(if k=3 then Zz s b else none)with
  |none=>
   cases h with|mk _ _ _ _ h2 h3 h4 h5 h6=>
   exact .mk _ _ _ _ h2 h3 h4 (by simpa using h5) fun u hu=>by obtain⟨v,hv,rfl⟩:=Qi.1 hu;exact h1 v hv
  |some v=>
   have hv:Zz s b=some v:=by
    split at e
    ·exact e
    ·cases e
   exact JK (hb.look hv)
termination_by t=>SizeOf.sizeOf t
decreasing_by
 have:=QL hu;simp only[Tm.mk.sizeOf_spec];omega
def Zaz{b:Bnd}(hb:ZI b)(h:t.Nm)(hs:t.sz≤305):(Zv b t).Good:=
 ⟨by have:=Zk4 hb t;omega,Zq3 hb t h⟩
end
def grT(t:Tm):Bool:=t.all fun u=>!(u.kind==3)
def XR(t:Tm):List Tm×Int:=if YI t&&grT t then match expandS t with
  |some l=>(l,0)
  |none=>([],5)
 else([],2)
def covL:Tm→Tm→Bool
 | .mk k n s l,v=>if k=4 then(v.kind==4)&&(v.name==s)&&(v.args.length==l.length)&&covLs l v.args else(XR (.mk k n s l)).1.any fun u=>cmpT u v==0
where covLs:List Tm→List Tm→Bool
 |[],_=>true
 |t::r,q=>match q with
  |[]=>true
  |v::q=>covL t v&&covLs r q
def JV(A:List Am)(x:Lt)(b:Bnd):Bool:=
 if x.kind=2 then(XR (Zv b x.L)).1.any fun v=>(XR (Zv b x.R)).1.any fun w=>YX x.op v w
 else(Zjr A x.at_.sg).any fun a=>covL (.mk 4 0 [102] (x.at_.args.map (Zv b))) (.mk 4 0 [102] a.args)
def XJ(l:List Tm)(b:Bnd)(deep:Bool):Bool:=l.all fun t=>!((XR (Zv b t)).1.isEmpty&&((XR (Zv b t)).2==0|| !deep))
def allL(l:List Lt)(A:List Am)(b:Bnd)(deep:Bool):Bool:=
 l.all fun x=>!(((x.kind==2)|| !x.neg)&& !JV A x b)&& !((x.kind==1)&&x.neg&& !XJ x.at_.args b deep)
def covLs_iff:∀{l q:List Tm},l.length=q.length→(covL.covLs l q=true↔ ∀i (h:i<l.length) (h':i<q.length),covL l[i] q[i]=true)
 |[],[],_=>by simp[covL.covLs]
 |t::r,v::q,h=>by
  have ih:=covLs_iff (l:=r) (q:=q) (by simpa using h);simp only[covL.covLs,Qd,ih];constructor
  ·rintro⟨h1,h2⟩ i hi hi';cases i with
   |zero=>exact h1
   |succ i=>exact h2 i (by simpa using hi) (by simpa using hi')
  ·intro h1;exact⟨h1 0 sm sm,fun i hi hi'=>h1 (i+1) (by simpa using hi) (by simpa using hi')⟩
def JM{σ:Bnd}:∀{l q:List Tm},XA.covs σ l q↔l.length=q.length∧ ∀i (h:i<l.length) (h':i<q.length),XA σ l[i] q[i]
 |[],[]=>by simp[XA.covs]
 |[],v::q=>by simp[XA.covs]
 |t::r,[]=>by simp[XA.covs]
 |t::r,v::q=>by
  have ih:=JM (σ:=σ) (l:=r) (q:=q);simp only[XA.covs,ih,Qq,Nat.add_right_cancel_iff];constructor
  ·rintro⟨h1,h2,h3⟩;refine⟨h2,fun i hi hi'=>?_⟩;cases i with
   |zero=>exact h1
   |succ i=>exact h3 i (by simpa using hi) (by simpa using hi')
  ·rintro⟨h1,h2⟩;exact⟨h2 0 sm sm,h1,fun i hi hi'=>h2 (i+1) (by simpa using hi) (by simpa using hi')⟩
def value_gr:∀(t:Tm),t.all okv=true→grT t=true
 | .mk k n s l,h=>by
  have h1:∀u∈l,grT u=true:=fun u hu=>value_gr u (YV h hu)
  unfold grT at*;rw[Tm.all_eq,Qd,Tm.WJ,Qy];refine⟨?_,h1⟩;have h2:=XK (Ym h);simp only[MJ,beq_eq_false_iff_ne];omega
termination_by t=>SizeOf.sizeOf t
decreasing_by
 have:=QL hu;simp only[Tm.mk.sizeOf_spec];omega
section
variable {t:Tm}
def ZqQ(h:Zo t=true):XR t=([t],0):=by
 unfold XR;rw[Ze9 h,value_gr t (Xr h),expand_self t (Xr h)];rfl
variable {σ:Bnd}
def Zd8(hσ:ZI σ)(ht:∀n∈nmT t,n∈Zp σ):(XR (Zv σ t)).1=(Yz t σ).1∧((XR (Zv σ t)).2=0↔(Yz t σ).2=0):=by
 have hg:grT (Zv σ t)=true:=Jz hσ t ht;unfold XR Yz;rw[hg,Qao];split
 ·cases e:expandS (Zv σ t)<;>simp
 ·simp
def ZkU{L:List Tm}{v:Tm}(hL:∀u∈L,Zo u=true)(hv:Zo v=true):(L.any fun u=>cmpT u v==0)=true↔v∈L:=by
 rw[UW];constructor
 ·rintro⟨u,hu,h⟩;rw[beq_iff_eq,Wh (hL u hu) hv]at h;rw[←h];exact hu
 ·intro h;exact⟨v,h,by rw[beq_iff_eq,Wh hv hv]⟩
def cov_val:∀(w v:Tm),Zo w=true→Zo v=true→(covL w v=true↔w=v)
 | .mk k n s l,v,hw,hv=>by
  have ih:∀u∈l,∀q,Zo q=true→(covL u q=true↔u=q):=fun u hu q hq=>cov_val u q (VL hw hu) hq
  have h1:=XK (Ym (Xr hw));have h2:=XK (Ym (Xr hv));simp only[Tm.kind,Tm.num,Tm.name,Tm.args]at h1;by_cases hk:k=4
  ·cases v with|mk k' n' s' l'=>
   simp only[Tm.kind,Tm.num,Tm.name,Tm.args]at h2;rw[covL,if_pos hk];simp only[Tm.kind,Tm.name,Tm.args,Qd,beq_iff_eq,Tm.mk.injEq];constructor
   ·rintro⟨⟨⟨a1,a2⟩,a3⟩,a4⟩;rw[covLs_iff a3.symm]at a4;refine⟨om,om,a2.symm,?_⟩;refine Gh a3.symm fun i hi hi'=>?_
    exact(ih _ (Qa hi) _ (VL hv (show l'[i]∈(Tm.mk k' n' s' l').args from Qa hi'))).1 (a4 i hi hi')
   ·rintro⟨a1,a2,a3,a4⟩;subst a4;refine⟨⟨⟨om,a3.symm⟩,rfl⟩,?_⟩;rw[covLs_iff rfl];exact fun i hi hi'=>(ih _ (Qa hi) _ (VL hw (show l[i]∈(Tm.mk k n s l).args from Qa hi))).2 rfl
  ·rw[covL,if_neg hk,ZqQ hw,ZkU (by simpa using hw) hv,Qm];exact eq_comm
termination_by w=>SizeOf.sizeOf w
decreasing_by
 have:=QL hu;simp only[Tm.mk.sizeOf_spec];omega
def Zgv(h:shape (plainT t)=true):(((t.kind=1∨t.kind=2)∧t.args=[]∧shape t=true)∨t.kind=3∨(t.kind=4∧t.num=0)∨t.kind=5∨t.kind=6):=by
 cases t with|mk k n s l=>
 rw[plainT,plains_eq]at h;by_cases k3:k=3
 ·exact .inr (.inl k3)
 have e:shape (Tm.mk k n s (l.map plainT))=shape (Tm.mk k n s l):=by
  simp only[shape,nargs,named,oper,Tm.kind,Tm.num,Tm.name,Tm.args,Qw];rfl
 rw[if_neg (fun hc=>k3 hc.1),e]at h;by_cases k1:k=1
 ·refine .inl ⟨.inl k1,?_,h⟩;simp[shape,k1,nargs,Tm.kind,Tm.args]at h;exact h.2
 by_cases k2:k=2
 ·refine .inl ⟨.inr k2,?_,h⟩;simp[shape,k2,nargs,Tm.kind,Tm.args]at h;exact h.2
 by_cases k4:k=4
 ·refine .inr (.inr (.inl ⟨k4,?_⟩));simp[shape,k4,named,Tm.kind,Tm.num]at h;exact h.1.1.1
 by_cases k5:k=5
 ·exact .inr (.inr (.inr (.inl k5)))
 by_cases k6:k=6
 ·exact .inr (.inr (.inr (.inr k6)))
 ·simp[shape,k1,k2,k3,k4,k5,k6,Tm.kind]at h
def Zmd{k n:Int}{s:List UInt8}{l:List Tm}(h:(plainT (.mk k n s l)).all shape=true){u:Tm}(hu:u∈l):(plainT u).all shape=true:=by
 rw[plainT,plains_eq]at h;exact YV h (show plainT u∈l.map plainT from Qi.2 ⟨u,hu,rfl⟩)
def ZiC{σ:Bnd}(hσ:ZI σ):∀(t v:Tm),(plainT t).all shape=true→(∀n∈nmT t,n∈Zp σ)→Zo v=true→(covL (Zv σ t) v=true↔XA σ t v)
 | .mk k n s l,v,ht,hn,hv=>by
  have ih:∀u∈l,∀q,Zo q=true→(covL (Zv σ u) q=true↔XA σ u q):=fun u hu q hq=>ZiC hσ u q (Zmd ht hu) (fun m hm=>hn m (ZeP hu hm)) hq
  have h1:=Zgv (Ym ht);simp only[Tm.kind,Tm.num,Tm.args]at h1;by_cases k3:k=3
  ·subst k3;obtain⟨w,hw⟩:=ZX.2 (hn s ZcS);rw[Wp hw,XA,if_neg om,if_pos rfl,hw,cov_val w v (hσ.look hw) hv,Qp]
  ·by_cases k5:k=5∨k=6
   ·have he:=(Zd8 hσ hn).1;rw[XI k3]at he;rw[XI k3,XA,if_pos k5,covL,if_neg om,he,ZkU (fun u hu=>Zad hσ hn hu) hv]
   ·by_cases k4:k=4
    ·rw[XI k3,XA,if_neg k5,if_neg k3,covL,if_pos k4];have hv1:=XK (Ym (Xr hv));simp only[Qd,beq_iff_eq,Qw];constructor
     ·rintro⟨⟨⟨a1,a2⟩,a3⟩,a4⟩;rw[covLs_iff (by simp[a3])]at a4;refine⟨om,om,a2.symm,JM.2 ⟨a3.symm,fun i hi hi'=>?_⟩⟩;have:=a4 i (by simpa using hi) hi';rw[QN]at this;exact(ih _ (Qa hi) _ (VL hv (Qa hi'))).1 this
     ·rintro⟨a1,a2,a3,a4⟩;obtain⟨a4,a5⟩:=JM.1 a4;refine⟨⟨⟨om,a3.symm⟩,a4.symm⟩,?_⟩;rw[covLs_iff (by simp[a4])];intro i hi hi';rw[QN];exact(ih _ (Qa (by simpa using hi)) _ (VL hv (Qa hi'))).2 (a5 i (by simpa using hi) hi')
    ·have hk:(k=1∨k=2)∧l=[]∧shape (Tm.mk k n s l)=true:=by
      rcases h1 with h1|h1|h1|h1
      ·exact h1
      all_goals omega
     obtain⟨hk,rfl,hs⟩:=hk;have hval:Zo (Tm.mk k n s [])=true:=by
      refine value_of ?_ (by rw[Zjo];simp[Tm.args,dep.deps]);rw[Tm.all_eq,Qd,Tm.WJ];refine⟨?_,rfl⟩;rw[okv,hs,Qao];rcases hk with rfl|rfl<;>rfl
     rw[XI k3,Ux,cov_val _ _ hval hv,XA,if_neg k5,if_neg k3];cases v with|mk k' n' s' l'=>
     simp only[Tm.kind,Tm.num,Tm.name,Tm.args,Tm.mk.injEq,XA.covs];exact⟨fun⟨a,b,c,d⟩=>⟨a,b,c,d.symm⟩,fun⟨a,b,c,d⟩=>⟨a,b,c,d.symm⟩⟩
termination_by t=>SizeOf.sizeOf t
decreasing_by
 have:=QL hu;simp only[Tm.mk.sizeOf_spec];omega
def Fa2.get{α β:Type}{R:α→β→Prop}:∀{p:List α} {q:List β},Fa2 R p q→ ∀i (h:i<p.length),∃h':i<q.length,R p[i] q[i]
 |_,_,.cons h t,0,_=>⟨sm,h⟩
 |_,_,.cons h t,i+1,hi=>by
  obtain⟨h',hr⟩:=t.get i (by simpa using hi);exact⟨by simpa using h',hr⟩
def Ziu(h:Jf t=true):(plainT t).all shape=true:=by
 simp only[Jf,YI,Qd]at h;exact h.2
variable {x:Lt}
def Zap(h:Yt x=true)(hk:x.kind=1):∀t∈x.at_.args,(plainT t).all shape=true:=fun t ht=>by
 unfold Yt at h;rw[if_pos hk,Qd,Qy]at h;exact Ziu (h.2 t ht)
def Ze7(h:Yt x=true):x.kind=1∨x.kind=2:=by
 unfold Yt at h;by_cases k1:x.kind=1
 ·exact .inl k1
 by_cases k2:x.kind=2
 ·exact .inr k2
 ·rw[if_neg k1,if_neg k2]at h;cases h
variable {n:List UInt8}
def ZaK(hk:x.kind=1)(ht:t∈x.at_.args)(hn:n∈nmT t):n∈ZA x:=by
 unfold ZA;rw[if_neg om];exact Qx.2 ⟨t,ht,(X5 t n).2 hn⟩
def Zie(hk:x.kind=2)(hn:n∈nmT x.L∨n∈nmT x.R):n∈ZA x:=by
 unfold ZA;rw[if_pos hk];rcases hn with hn|hn
 ·exact Qx.2 ⟨x.L,sm,(X5 _ n).2 hn⟩
 ·exact Qx.2 ⟨x.R,sm,(X5 _ n).2 hn⟩
def Zfi{a:Am}(h:Yh a=true):∀t∈a.args,Zo t=true:=by
 simp only[Yh,Qd,Qy]at h;exact h.2
variable {A:List Am}
def Zif(hA:∀a∈A,Yh a=true)(hσ:ZI σ)(hx:Yt x=true)(hn:∀n∈ZA x,n∈Zp σ)(hp:x.kind=2∨x.neg=false):JV A x σ=true↔ZcW A σ x:=by
 unfold JV ZcW;by_cases k2:x.kind=2
 ·rw[if_pos k2,if_pos k2,(Zd8 hσ fun n h=>hn n (Zie k2 (.inl h))).1,(Zd8 hσ fun n h=>hn n (Zie k2 (.inr h))).1];simp only[UW]
 ·have k1:x.kind=1:=by rcases Ze7 hx with h|h<;>omega
  have hp':x.neg=false:=by rcases hp with h|h<;>first|exact h|omega
  rw[if_neg k2,if_neg k2,if_pos k1,if_pos hp',UW];have key:∀a∈A,a.sg=x.at_.sg→(covL (.mk 4 0 [102] (x.at_.args.map (Zv σ))) (.mk 4 0 [102] a.args)=true↔XA.covs σ x.at_.args a.args):=fun a ha hs=>by
   have hl:a.args.length=x.at_.args.length:=by
    have:=congrArg Sg.n hs;simp only[Am.sg]at this;omega
   rw[covL,if_pos rfl];simp only[Tm.kind,Tm.name,Tm.args,beq_self_eq_true,Ud,Qd,beq_iff_eq,Qw];rw[covLs_iff (by simp[hl]),JM];constructor
   ·rintro⟨_,h⟩;refine⟨hl.symm,fun i hi hi'=>?_⟩;have h1:=h i (by simpa using hi) hi';rw[QN]at h1;exact(ZiC hσ _ _ (Zap hx k1 _ (Qa hi)) (fun n h=>hn n (ZaK k1 (Qa hi) h)) (Zfi (hA a ha) _ (Qa hi'))).1 h1
   ·rintro⟨_,h⟩;refine⟨hl,fun i hi hi'=>?_⟩;rw[QN];have hi2:i<x.at_.args.length:=by simpa using hi
    exact(ZiC hσ _ _ (Zap hx k1 _ (Qa hi2)) (fun n h=>hn n (ZaK k1 (Qa hi2) h)) (Zfi (hA a ha) _ (Qa hi'))).2 (h i hi2 hi')
  constructor
  ·rintro⟨a,ha,h⟩;obtain⟨ha,hs⟩:=Uy.1 ha;have hs:=eq_of_beq hs;exact⟨a,ha,hs,(key a ha hs).1 h⟩
  ·rintro⟨a,ha,hs,h⟩;exact⟨a,Uy.2 ⟨ha,by rw[hs];exact beq_self_eq_true _⟩,(key a ha hs).2 h⟩
def Zik{u:Tm}(h:YI t=true)(hu:u∈t.args):YI u=true:=by
 simp only[YI,Qd,decide_eq_true_eq]at*;exact⟨by have:=ZfE hu;omega,YV h.2 hu⟩
def Znx{α:Type}:∀{ps:List (List α)},(∀p∈ps,p≠[])→Z7 ps≠[]
 |[],_=>by simp[Z7]
 |p::r,h=>by
  have ih:=Znx (ps:=r) fun q hq=>h q (by simp[hq])
  obtain⟨x,hx⟩:=Qbg p (h p sm);obtain⟨y,hy⟩:=Qbg _ ih;intro e;have:x::y∈Z7 (p::r):=by
   rw[Z7];exact Qx.2 ⟨x,hx,Qi.2 ⟨y,hy,rfl⟩⟩
  rw[e]at this;cases this
def ZpX{σ:Bnd}(hσ:ZI σ):∀(t v:Tm),(plainT t).all shape=true→(∀n∈nmT t,n∈Zp σ)→XA σ t v→YI (Zv σ t)=true→expandS (Zv σ t)≠some []
 | .mk k n s l,v,ht,hn,hc,hv=>by
  have ih:∀u∈l,∀q,XA σ u q→YI (Zv σ u)=true→expandS (Zv σ u)≠some []:=fun u hu q hq=>ZpX hσ u q (Zmd ht hu) (fun m hm=>hn m (ZeP hu hm)) hq
  have h1:=Zgv (Ym ht);simp only[Tm.kind,Tm.num,Tm.args]at h1;by_cases k3:k=3
  ·subst k3;obtain⟨w,hw⟩:=ZX.2 (hn s ZcS);rw[Wp hw,expand_self w (Xr (hσ.look hw))];simp
  ·by_cases k5:k=5∨k=6
   ·rw[XA,if_pos k5]at hc;intro e;unfold Yz at hc;rw[if_pos hv,e]at hc;cases hc
   ·rw[XA,if_neg k5,if_neg k3]at hc;rw[XI k3]at hv⊢;cases l with
    |nil=>rw[Ux,Vy];simp
    |cons t0 r=>
     have k4:¬k=6∧ ¬k=5:=om;intro e;obtain⟨ps,hps,he⟩:=Zah e sm;rw[if_neg k4.1,if_neg k4.2]at he;have hf:=expandSs_fa hps;have hne:∀p∈ps,p≠[]:=fun p hp=>by
      obtain⟨w,hw,hwp⟩:=hf.right hp;obtain⟨u,hu,rfl⟩:=Qi.1 hw;obtain⟨i,hi,rfl⟩:=QJ hu;have hcl:=JM.1 hc.2.2.2;have:=ih _ (Qa hi) _ (hcl.2 i hi om) (Zik hv (show _∈(t0::r).map (Zv σ) from hw));intro e2;rw[hwp,e2]at this;exact this rfl
     unfold ZcX at he;rw[if_neg (by
      rw[UW];rintro⟨p,hp,h⟩;exact hne p hp (by simpa using h))]at he
     cases hcnt:Zkr ps with
     |none=>rw[hcnt]at he;cases he
     |some m=>
      rw[hcnt]at he;simp only[UJ,Qp,List.map_eq_nil_iff]at he;exact Znx hne he
termination_by t=>SizeOf.sizeOf t
decreasing_by
 have:=QL hu;simp only[Tm.mk.sizeOf_spec];omega
def Znu{σ:Bnd}(hσ:ZI σ):∀(t v:Tm),(plainT t).all shape=true→(∀n∈nmT t,n∈Zp σ)→v∈(Yz t σ).1→XA σ t v
 | .mk k n s l,v,ht,hn,hm=>by
  have ih:∀u∈l,∀q,q∈(Yz u σ).1→XA σ u q:=fun u hu q hq=>Znu hσ u q (Zmd ht hu) (fun m hm=>hn m (ZeP hu hm)) hq
  have h1:=Zgv (Ym ht);simp only[Tm.kind,Tm.num,Tm.args]at h1;by_cases k3:k=3
  ·subst k3;obtain⟨w,hw⟩:=ZX.2 (hn s ZcS);rw[ZfM hσ (t:=.mk 3 n s l) rfl hw,Qm]at hm;rw[XA,if_neg om,if_pos rfl,hw,hm]
  ·by_cases k5:k=5∨k=6
   ·rw[XA,if_pos k5];exact hm
   ·rw[XA,if_neg k5,if_neg k3];have hm':=hm;unfold Yz at hm';rw[XI k3]at hm';split at hm'
    ·rename_i hval;cases l with
     |nil=>
      rw[Ux,Vy]at hm';simp only[Qm]at hm';subst hm';exact⟨rfl,rfl,rfl,rfl⟩
     |cons t0 r=>
      have k4:k=4∧n=0:=by
       rcases h1 with h1|h1|h1|h1
       ·exact absurd h1.2.1 sm
       all_goals omega
      split at hm'
      ·rename_i L hL;obtain⟨ps,hps,he⟩:=Zah hL sm;rw[if_neg om,if_neg om]at he;have hf:=expandSs_fa hps;unfold ZcX at he;split at he
       ·cases he;cases hm'
       ·cases hcnt:Zkr ps with
        |none=>rw[hcnt]at he;cases he
        |some m=>
         rw[hcnt]at he;simp only[UJ,Qp]at he;rw[←he]at hm';obtain⟨q,hq,rfl⟩:=Qi.1 hm';have hr:=Zhd.1 hq;refine⟨k4.1,k4.2,rfl,JM.2 ⟨?_,fun i hi hi'=>?_⟩⟩
         ·have:=hr.len;have h3:=hf.len;simp only[Tm.args,Qw]at*;omega
         ·have h4:=hr.get i hi';have h5:=hf.get i (by simpa using hi);obtain⟨hp1,h4⟩:=h4;obtain⟨hp2,h5⟩:=h5;rw[QN]at h5;refine ih _ (Qa hi) _ ?_;unfold Yz;rw[if_pos (Zik hval (show Zv σ (t0::r)[i]∈(t0::r).map (Zv σ) from Qi.2 ⟨_,Qa hi,rfl⟩)),h5];exact h4
      ·cases hm'
    ·cases hm'
termination_by t=>SizeOf.sizeOf t
decreasing_by
 have:=QL hu;simp only[Tm.mk.sizeOf_spec];omega
theorem ZiO(hσ:ZI σ)(hx:Yt x=true)(hn:∀n∈ZA x,n∈Zp σ)(hk:x.kind=1)(hg:x.neg=true)(h:ZcW A σ x):XJ x.at_.args σ true=true:=by
 unfold ZcW at h;rw[if_neg om,if_pos hk,if_neg (by rw[hg];simp)]at h;obtain⟨q,hq⟩:=h;obtain⟨hl,hq⟩:=JM.1 hq;unfold XJ;rw[Qy];intro t ht;obtain⟨i,hi,rfl⟩:=QJ ht;have h1:=ZpX hσ _ _ (Zap hx hk _ (Qa hi)) (fun n h=>hn n (ZaK hk (Qa hi) h)) (hq i hi om);have hgr:grT (Zv σ x.at_.args[i])=true:=Jz hσ _ fun n h=>hn n (ZaK hk (Qa hi) h)
 rw[MJ,U6,UD];unfold XR;rw[hgr,Qao];split
 ·rename_i hv;have h1:=h1 hv;split
  ·rename_i L hL;cases L with
   |nil=>exact absurd hL h1
   |cons y r=>rfl
  ·rfl
 ·rfl
def Zhi(hσ:ZI σ)(hx:Yt x=true)(hn:∀n∈ZA x,n∈Zp σ)(hk:x.kind=1)(hg:x.neg=true)(h:XJ x.at_.args σ false=true):ZcW A σ x:=by
 unfold ZcW;rw[if_neg om,if_pos hk,if_neg (by rw[hg];simp)];unfold XJ at h;rw[Qy]at h;have h1:∀t∈x.at_.args,∃v,XA σ t v:=fun t ht=>by
  have h2:=h t ht;rw[MJ,U8,Gz,Qao,(Zd8 hσ fun n h=>hn n (ZaK hk ht h)).1]at h2;cases e:(Yz t σ).1 with
  |nil=>rw[e]at h2;cases h2
  |cons v r=>exact⟨v,Znu hσ t v (Zap hx hk t ht) (fun n h=>hn n (ZaK hk ht h)) (by rw[e];simp)⟩
 have h3:∀l:List Tm,(∀t∈l,∃v,XA σ t v)→ ∃q,XA.covs σ l q:=by
  intro l;induction l with
  |nil=>intro _;exact⟨[],rfl⟩
  |cons t r ih=>
   intro h;obtain⟨v,hv⟩:=h t sm;obtain⟨q,hq⟩:=ih fun u hu=>h u (by simp[hu])
   exact⟨v::q,hv,hq⟩
 exact h3 _ h1
def all_true(hA:∀a∈A,Yh a=true)(hσ:ZI σ){l:List Lt}(hl:∀x∈l,Yt x=true)(hn:∀x∈l,∀n∈ZA x,n∈Zp σ)(h:∀x∈l,ZcW A σ x):allL l A σ true=true:=by
 unfold allL;rw[Qy];intro x hx;have hs:=h x hx;rw[Qd];constructor
 ·by_cases hp:x.kind=2∨x.neg=false
  ·rw[(Zif hA hσ (hl x hx) (hn x hx) hp).2 hs];simp
  ·have h1:¬x.kind=2:=fun e=>hp (.inl e)
   have h2:x.neg=true:=by simpa using fun e=>hp (.inr e)
   simp[h1,h2]
 ·by_cases hp:x.kind=1∧x.neg=true
  ·rw[ZiO hσ (hl x hx) (hn x hx) hp.1 hp.2 hs];simp
  ·by_cases h1:x.kind=1
   ·have h2:x.neg=false:=by simpa using fun e=>hp ⟨h1,e⟩
    simp[h2]
   ·simp[h1]
def all_false(hA:∀a∈A,Yh a=true)(hσ:ZI σ){l:List Lt}(hl:∀x∈l,Yt x=true)(hn:∀x∈l,∀n∈ZA x,n∈Zp σ)(h:allL l A σ false=true):∀x∈l,ZcW A σ x:=fun x hx=>by
 unfold allL at h;rw[Qy]at h;have h1:=h x hx;rw[Qd]at h1;by_cases hp:x.kind=2∨x.neg=false
 ·refine(Zif hA hσ (hl x hx) (hn x hx) hp).1 ?_;have h2:=h1.1;have e:((x.kind==2)|| !x.neg)=true:=by rcases hp with e|e<;>simp[e]
  rw[e,Ud,Qbz]at h2;exact h2
 ·have k1:x.kind=1:=by
   rcases Ze7 (hl x hx)with e|e
   ·exact e
   ·exact absurd (.inl e) hp
  have hg:x.neg=true:=by simpa using fun e=>hp (.inr e)
  refine Zhi hσ (hl x hx) (hn x hx) k1 hg ?_;have h2:=h1.2;rw[k1,hg,beq_self_eq_true,Ud,Ud,Qbz]at h2;exact h2
end
/-! JoinSorted. -/
structure Zce (b:Bnd) (r:List Bnd×Int):Prop where
 err:r.2=0∨r.1=[]
 good:∀σ∈r.1,ZI σ
 given:∀σ∈r.1,ZI b∧YM b σ
 dom:∀σ∈r.1,∀τ∈r.1,Zp σ=Zp τ
 asc:r.1.Pairwise fun x y=>YU x y<0
def ZiH{A:List Am}(hA:∀a∈A,Yh a=true)(l:List Lt)(b:Bnd):Zce b (YL A l b):=by
 have nil:∀e,Zce b ([],e):=fun e=>⟨.inr rfl,fun _ h=>(by cases h),fun _ h=>(by cases h),fun _ h=>(by cases h),.nil⟩
 rcases ZbZ hA l b with⟨_,h⟩|⟨_,_,_,h⟩|⟨_,hb,_,⟨e,_,h⟩|⟨r,h,hp,hm⟩⟩
 ·rw[h];exact nil _
 ·rw[h];exact nil _
 ·rw[h];exact nil _
 ·rw[h];refine⟨.inl rfl,fun σ hσ=>((hm σ).1 hσ).1.1,fun σ hσ=>⟨validB_good hb,((hm σ).1 hσ).2.1⟩,fun σ hσ τ hτ=>?_,hp⟩;have h1:=((hm σ).1 hσ).1;have h2:=((hm τ).1 hτ).1;exact Zin h1.1.asc h2.1.asc fun n=>by rw[h1.2,h2.2]
section
variable {r:List Bnd×Int}
def Zce.len{b:Bnd}(h:Zce b r){σ τ:Bnd}(hs:σ∈r.1)(ht:τ∈r.1):σ.length=τ.length:=by
 have:=congrArg List.length (h.dom σ hs τ ht);simpa[Zp]using this
def Zce.look{b:Bnd}(h:Zce b r){σ:Bnd}(hs:σ∈r.1){k:Nat}(hk:k<b.length):Zz b[k].1 σ=some b[k].2∧Zo b[k].2=true:=by
 obtain⟨g,x⟩:=h.given σ hs;exact⟨x _ _ (ZaO g.asc (Qa hk)),g.val _ (Qa hk)⟩
/-! JoinMore. -/
/-! JoinSplit. -/
/-! JoinAll. -/
def Zbv(x:Lt):List Tm:=if x.kind=2 then [x.L,x.R]else x.at_.args
def Zfk(l:List Lt):List (List UInt8):=ZU (.mk 4 0 [102] (l.flatMap Zbv))
def ZoV(l:List Lt)(n:List UInt8):n∈Zfk l↔n∈l.flatMap ZA:=by
 unfold Zfk;rw[X5,ZtA,if_neg (by show¬(4:Int)=3;decide),Q5,nms_eq];show n∈(l.flatMap Zbv).flatMap nmT↔_;simp only[Qx];constructor
 ·rintro⟨t,⟨x,hx,ht⟩,hn⟩;refine⟨x,hx,?_⟩;unfold ZA;exact Qx.2 ⟨t,ht,(X5 t n).2 hn⟩
 ·rintro⟨x,hx,hn⟩;unfold ZA at hn;obtain⟨t,ht,hn⟩:=Qx.1 hn;exact⟨t,⟨x,hx,ht⟩,(X5 t n).1 hn⟩
def ZoH{A:List Am}(hA:∀a∈A,Yh a=true)(l:List Lt):((YL A l []).2≠0→(YL A l []).1=[])∧
  ((YL A l []).2=0→(∀σ∈(YL A l []).1,allL l A σ true=true)∧(∀σ,ZI σ→(∀n,n∈Zp σ↔n∈Zfk l)→allL l A σ false=true→σ∈(YL A l []).1)∧(YL A l []).1.Nodup):=by
 rcases ZbZ hA l []with⟨_,h⟩|⟨_,_,_,h⟩|⟨hv,_,_,⟨e,he,h⟩|⟨r,h,hp,hm⟩⟩
 ·rw[h];exact⟨fun _=>rfl,fun h=>by cases h⟩
 ·rw[h];exact⟨fun _=>rfl,fun h=>by cases h⟩
 ·rw[h];exact⟨fun _=>rfl,fun h=>by simp only at h;omega⟩
 ·rw[h];rw[Qy]at hv;have hk:∀n,n∈Z5 l []↔n∈l.flatMap ZA:=fun n=>by simp[Z5,Zp]
  refine⟨fun h=>absurd rfl h,fun _=>⟨fun σ hσ=>?_,fun σ hg hd ha=>?_,Zoq (K:=Z5 l []) (fun x hx=>((hm x).1 hx).1) hp⟩⟩
  ·have hs:=(hm σ).1 hσ;exact all_true hA hs.1.1 hv (fun x hx n hn=>(hs.1.2 n).2 ((hk n).2 (Qx.2 ⟨x,hx,hn⟩))) hs.2.2
  ·have hd':∀n,n∈Zp σ↔n∈l.flatMap ZA:=fun n=>by rw[hd,ZoV]
   refine(hm σ).2 ⟨⟨hg,fun n=>by rw[hd',hk]⟩,fun n v h=>(by cases h),?_⟩;exact all_false hA hg hv (fun x hx n hn=>(hd' n).2 (Qx.2 ⟨x,hx,hn⟩)) ha
def numsU:List Tm:=(List.range 8).map fun i:Nat=>Ye ((i:Int) - 1)
def collS:Tm→List Tm→List Tm
 | .mk k n s a,l=>colls a (if Zo (.mk k n s a)&& !(l.any fun u=>cmpT u (.mk k n s a)==0)then l++[.mk k n s a]else l)
where colls:List Tm→List Tm→List Tm
 |[],l=>l
 |t::r,l=>colls r (collS t l)
def Vw(A:List Am):List Tm:=A.foldl (fun l a=>collS.colls a.args l) numsU
def UOk(l:List Tm):Prop:=l.Nodup∧ ∀u∈l,Zo u=true
def coll_ok:(∀t l,UOk l→UOk (collS t l))∧ ∀r l,UOk l→UOk (collS.colls r l):=by
 refine XL (fun k n s a ih l hl=>?_) (fun l hl=>hl) fun t r h1 h2 l hl=>h2 _ (h1 l hl)
 rw[collS];refine ih _ ?_;split
 ·rename_i h;rw[Qd,MJ,Qar]at h;refine⟨GK.2 ⟨hl.1,sm,fun x hx y hy e=>?_⟩,fun u hu=>?_⟩
  ·simp only[Qm]at hy;subst hy;subst e;have:=h.2 _ hx;rw[beq_iff_eq,Wh h.1 h.1]at this;exact this rfl
  ·rcases Qk.1 hu with hu|hu
   ·exact hl.2 u hu
   ·simp only[Qm]at hu;subst hu;exact h.1
 ·exact hl
def nums_ok:UOk numsU:=by
 refine⟨?_,fun u hu=>?_⟩
 ·unfold numsU;refine G7.2 (List.Pairwise.imp (fun{a b} h e=>h ?_) Qac);simp only[Ye,Tm.mk.injEq]at e;omega
 ·obtain⟨i,hi,rfl⟩:=Qi.1 hu;rw[U9]at hi;refine value_of (ZfO ?_) (by rw[ZfK];decide);simp only[Y6,Qd,decide_eq_true_eq];omega
def ZrX(A:List Am):UOk (Vw A):=by
 unfold Vw;have:∀(A:List Am) l,UOk l→UOk (A.foldl (fun l a=>collS.colls a.args l) l):=by
  intro A;induction A with
  |nil=>intro l h;exact h
  |cons a A ih=>intro l h;exact ih _ (coll_ok.2 _ _ h)
 exact this A _ nums_ok
def coll_len:(∀t l,(collS t l).length≤l.length+t.sz)∧ ∀r l,(collS.colls r l).length≤l.length+Tm.sz.szs r:=by
 refine XL (fun k n s a ih l=>?_) (fun l=>by rw[collS.colls];omega) fun t r h1 h2 l=>?_
 ·rw[collS,Tm.sz];refine Ue (ih _) ?_;split
  ·rw[Qh,GZ];omega
  ·omega
 ·rw[collS.colls,Tm.sz.szs];have:=h2 (collS t l);have:=h1 l;omega
def X0(u:List Tm):List (List UInt8)→Nat→Bnd
 |[],_=>[]
 |s::r,n=>(s,u.getD (n % u.length) (.mk 0 0 [] []))::X0 u r (n / u.length)
theorem ZfH(u:List Tm):∀(l:List (List UInt8)) n,Zp (X0 u l n)=l
 |[],_=>rfl
 |s::r,n=>by rw[X0];show s::Zp _=_;rw[ZfH u r]
def ZnO{u:List Tm}(hu:0<u.length):∀(l:List (List UInt8)) n,∀q∈X0 u l n,q.2∈u
 |[],_,q,h=>by cases h
 |s::r,n,q,h=>by
  rw[X0]at h;rcases Ql.1 h with rfl|h
  ·have:=Qaj n hu;show u.getD _ _∈u;rw[Qn,Qb this];exact Qa this
  ·exact ZnO hu r _ q h
def ZoB{α:Type}{l:List α}(hn:l.Nodup){i j:Nat}(hi:i<l.length)(hj:j<l.length)(e:l[i]=l[j]):i=j:=by
 rcases Qbk i j with h|h|h
 ·exact absurd e (Me.1 hn i j hi hj h)
 ·exact h
 ·exact absurd e.symm (Me.1 hn j i hj hi h)
def Zni{u:List Tm}(hu:0<u.length)(hn:u.Nodup):∀(l:List (List UInt8)) {n m:Nat},n<u.length^l.length→m<u.length^l.length→X0 u l n=X0 u l m→n=m
 |[],n,m,h1,h2,_=>by simp at h1 h2;omega
 |s::r,n,m,h1,h2,h=>by
  rw[X0,X0,Uf,QaS]at h;have a1:=Qaj n hu;have a2:=Qaj m hu;have e:=h.1.2;rw[Qn,Qb a1,Qn,Qb a2]at e;have e1:=ZoB hn a1 a2 (show u[n % u.length]=u[m % u.length] from e);rw[Qq,QaL]at h1 h2;have e2:=Zni hu hn r (Gj (by rw[MX];exact h1)) (Gj (by rw[MX];exact h2)) h.2;rw[←QaB n u.length,←QaB m u.length,e1,e2]
def Zj5(u:List Tm):∀(l:List (List UInt8)) (i:Nat) (h:i<l.length) (n:Nat),X0 u (l.take (i+1)) n=X0 u (l.take i) n++[(l[i],u.getD (n / u.length^i % u.length) (.mk 0 0 [] []))]
 |s::r,0,_,n=>by simp[X0]
 |s::r,i+1,h,n=>by
  have:=Zj5 u r i (by simpa using h) (n / u.length);rw[MR,MR,X0,X0,this,Qby,QaL,MX u.length];rfl
def Zp5{u:List Tm}(hu:0<u.length)(hv:∀v∈u,Zo v=true){t:Tm}(n:Nat):ZI (X0 u (ZU t) n):=by
 refine⟨?_,fun q hq=>hv _ (ZnO hu _ _ q hq)⟩;have h1:(ZU t).Pairwise fun x y=>Lib.compareBytes x y<0:=serN.set_asc fun _ _=>trivial
 have h2:=ZfH u (ZU t) n;rw[←h2]at h1;exact G7.1 h1
def Zhv(u:List Tm)(l:List (List UInt8))(P:Bnd→Bool)(n:Nat):Nat:=((List.range n).filter fun i=>P (X0 u l i)).length
def ZqJ(u:List Tm)(l:List (List UInt8))(P:Bnd→Bool)(n:Nat):Zhv u l P (n+1)=Zhv u l P n+if P (X0 u l n)=true then 1 else 0:=by
 unfold Zhv;rw[List.range_succ,QaE,Qh,Qbs];split<;>simp
def cnt_le{u:List Tm}(hu:0<u.length)(hn:u.Nodup){l:List (List UInt8)}{P:Bnd→Bool}{r:List Bnd}(h:∀i,P (X0 u l i)=true→X0 u l i∈r):Zhv u l P (u.length^l.length)≤r.length:=by
 letI:DecidableEq Bnd:=fun a b=>Classical.propDecidable (a=b)
 unfold Zhv;rw[←Qw (f:=fun i=>X0 u l i)];refine Xd (G7.2 (QaA (fun{a b} ha hb hab e=>?_) (List.Pairwise.filter _ Qac))) fun x hx=>?_
 ·exact hab (Zni hu hn l (U9.1 (Uy.1 ha).1) (U9.1 (Uy.1 hb).1) e)
 ·obtain⟨i,hi,rfl⟩:=Qi.1 hx;exact h i (Uy.1 hi).2
end
def vX:Tm:=.mk 3 0 [88] []
def vY:Tm:=.mk 3 0 [89] []
def vZ:Tm:=.mk 3 0 [90] []
def ZbG(a b:Tm):Tm:=.mk 5 0 [43] [a,b]
def zT:Tm:=.mk 0 0 [] []
def Zf7(l:List Tm):Lt:=⟨1,false,⟨[112],l⟩,0,zT,zT⟩
def ZgO(o:Int)(a b:Tm):Lt:=⟨2,false,⟨[],[]⟩,o,a,b⟩
def exA:List Am:=[⟨[112],[Ye 1,Ye 2]⟩,⟨[112],[Ye 2,Ye 3]⟩,⟨[112],[Ye 3,Ye 5]⟩]
theorem aw1:YL exA [Zf7 [vX,ZbG vZ (Ye 1)]] []=([],120):=by kernel_rfl
theorem aw2:YL exA [Zf7 [vX,vY],Zf7 [vY,vZ]] []=([[([88],Ye 1),([89],Ye 2),([90],Ye 3)],[([88],Ye 2),([89],Ye 3),([90],Ye 5)]],0):=by kernel_rfl
theorem aw3:YL exA [Zf7 [vX,ZbG vX (Ye 1)],ZgO 1 vY (.mk 6 0 [] [Ye 1,vX]),ZgO 2 vY (Ye 2)] []=([[([88],Ye 1),([89],Ye 1)],[([88],Ye 2),([89],Ye 1)]],0):=by kernel_rfl
theorem aw4:XZ [Zf7 [vX,ZbG vX (Ye 1)]] []=[Zf7 [vX,.mk 3 0 [35,49] []],ZgO 1 (.mk 3 0 [35,49] []) (ZbG vX (Ye 1))]:=by kernel_rfl

def YD(n:Nat)(m:Int):Int:=if(n:Int)≤m then n else m+1
def Zgx(l:List Tm)(i:Nat)(h:i<l.length):Tm.sz.szs (l.take (i+1))=Tm.sz.szs (l.take i)+l[i].sz:=by
 have:∀p q:List Tm,Tm.sz.szs (p++q)=Tm.sz.szs p+Tm.sz.szs q:=by
  intro p q;induction p with
  |nil=>simp[Tm.sz.szs]
  |cons x p ih=>simp only[Q8,Tm.sz.szs,ih];omega
 rw[Qj h,this];simp[Tm.sz.szs]
def ZbR(l:List Tm)(i:Nat):Tm.sz.szs (l.take i)≤Tm.sz.szs l:=by
 have:∀p q:List Tm,Tm.sz.szs (p++q)=Tm.sz.szs p+Tm.sz.szs q:=by
  intro p q;induction p with
  |nil=>simp[Tm.sz.szs]
  |cons x p ih=>simp only[Q8,Tm.sz.szs,ih];omega
 have h:=this (l.take i) (l.drop i);rw[Q7]at h;omega
def Zvo(l:List Tm)(m:Int)(H:Za)(i:Nat):Zb:=
 ⟨[(6,.int .i64 i),(5,.int .i64 (YD (Tm.sz.szs (l.take i)) m)),(0,.sl 4 (l.map Tm.enc) .any),(1,.int .i64 m)],[],H⟩
def a39(l:List Tm)(m:Int)(h0:-1≤m)(h1:m≤1000000)(hc:∀t∈l,∀m:Int,0≤m→m≤1000000→Pure prog 33 [t.enc,.int .i64 m] (.int .i64 (YD t.sz m))):Pure prog 74 [.sl 4 (l.map Tm.enc) .any,.int .i64 m] (.int .i64 (YD (Tm.sz.szs l) m)):=by
 intro n H;refine aF func74 fun B=>?_
 refine gz ?_;refine Zm (Zvo l m H) l.length rfl ?_ ?_
 ·apply kZ;repeat' first|apply q0|exact xx|apply aI
  simp only[QaN,Tm.sz.szs,YD,lkv];refine aS ?_;split
  ·exact .refl _
  ·rw[(by omega:m+1=0)];exact .refl _
 intro i hi;refine ZQ rfl ?_;rcases Qe i l.length with h|h
 ·rcases QaM m (Tm.sz.szs (l.take i))with h2|h2
  ·have e:YD (Tm.sz.szs (l.take i)) m=m+1:=by rw[YD,if_neg om]
   have hle:decide (m+1≤m)=false:=by rw[decide_eq_false_iff_not];omega
   refine nq3 h e hle ?_;refine gt ?_;refine Zc ?_ (.int _ _) rfl;have:=ZbR l i;rw[YD,if_neg om];refine aq e ?_;exact .refl _
  ·have e:YD (Tm.sz.szs (l.take i)) m=(Tm.sz.szs (l.take i):Int):=by rw[YD,if_pos h2]
   have hlen:=Tm.sz_len (l.take i);rw[Uo hi]at hlen;have hw:IntKind.i64.wrap (m - (Tm.sz.szs (l.take i):Int))=m - (Tm.sz.szs (l.take i):Int):=iw;refine nq3 h e h2 ?_;refine nT ?_;refine nq4 (Tm.Zh _ _ h) h e hw ?_;refine WE (Zf func33 rfl rfl) (hc l[i] (Qa h) (m - (Tm.sz.szs (l.take i):Int)) om om) (by simp only[go_sem,simprocAttr,hw]) ?_;refine aq hw ?_;refine gd ?_;have hn:(Tm.sz.szs (l.take i):Int)+YD l[i].sz (m - (Tm.sz.szs (l.take i):Int))=YD (Tm.sz.szs (l.take (i+1))) m:=by
    rw[Zgx l i h];unfold YD;split<;>split<;>omega
   have hb:YD (Tm.sz.szs (l.take (i+1))) m≤m+1∧0≤YD (Tm.sz.szs (l.take (i+1))) m:=by unfold YD;split<;>omega
   apply kZ;repeat' first|apply q0|exact xx|apply aI
   ·refine aS ?_;rw[iw];exact .refl _
   ·refine aS ?_;rw[hn,iw];exact .refl _
 ·refine nq (QD.2 h) ?_;refine gg ?_;have hi':i=l.length:=om;subst hi';refine gE ?_;exact Zc (.refl _) (.int _ _) rfl
def a11(t:Tm)(m:Int)(h0:0≤m)(h1:m≤1000000):Pure prog 33 [t.enc,.int .i64 m] (.int .i64 (YD t.sz m)):=by
 intro n H;have hw:IntKind.i64.wrap (m - 1)=m - 1:=iw;have hc:YD t.sz m=1+YD (Tm.sz.szs t.args) (m - 1):=by rw[Tm.ZhJ];unfold YD;split<;>split<;>omega
 have hb:YD (Tm.sz.szs t.args) (m - 1)≤m∧0≤YD (Tm.sz.szs t.args) (m - 1):=by unfold YD;split<;>omega
 refine aF func33 fun B=>?_
 refine nR ?_;refine nq hw ?_;refine WE (Zf func74 rfl rfl) (a39 t.args (m - 1) om om (fun u hu m' h0' h1'=>a11 u m' h0' h1')) (by simp only[go_sem,simprocAttr,hw]) ?_;refine aq hw ?_;refine nV ?_;refine Zc ?_ (.int _ _) rfl;refine aS ?_;rw[hc,iw];exact .refl _
termination_by SizeOf.sizeOf t
decreasing_by exact Tm.Y2 hu
def a38(t:Am)(m:Int)(h0:0≤m)(h1:m≤1000000):Pure prog 32 [t.enc,.int .i64 m] (.int .i64 (YD t.sz m)):=by
 intro n H;have hw:IntKind.i64.wrap (m - 1)=m - 1:=iw;have hc:YD t.sz m=1+YD (Tm.sz.szs t.args) (m - 1):=by unfold Am.sz YD;split<;>split<;>omega
 have hb:YD (Tm.sz.szs t.args) (m - 1)≤m∧0≤YD (Tm.sz.szs t.args) (m - 1):=by unfold YD;split<;>omega
 refine aF func32 fun B=>?_
 refine nR ?_;refine nq hw ?_;refine WE (Zf func74 rfl rfl) (a39 t.args (m - 1) om om (fun u hu m' h0' h1'=>a11 u m' h0' h1')) (by simp only[go_sem,simprocAttr,hw]) ?_;refine aq hw ?_;refine nV ?_;refine Zc ?_ (.int _ _) rfl;refine aS ?_;rw[hc,iw];exact .refl _
def szA:List Am→Nat
 |[]=>0
 |a::r=>a.sz+szA r
def great(l:List Am):Bool:=decide (150<l.length)||decide (2000<szA l)
def szX(x:Lt):Nat:=1+x.at_.sz+x.L.sz+x.R.sz
def szLs:List Lt→Nat
 |[]=>0
 |x::r=>szX x+szLs r
def Trk(m E v:Int):Prop:=(E≤m∧v=E∧0≤E)∨(m<E∧m<v∧v≤4*m+4)
def ZbS(m n:Int)(x:Lt):Int:=if n≤m then n+(1+YD x.at_.sz (m - n)+YD x.L.sz (m - n)+YD x.R.sz (m - n))else n
def Xk(m:Int)(l:List Lt):Int:=l.foldl (ZbS m) 0
section
variable {m:Int}
def VT{s:Nat}(h:0≤m):0≤YD s m∧YD s m≤m+1∧(YD s m=s∨(YD s m=m+1∧m<s)):=by
 unfold YD;split<;>omega
variable {v:Int}
def Zo5{E:Int}(x:Lt)(h:Trk m E v)(hE:0≤E):Trk m (E+szX x) (ZbS m v x):=by
 unfold ZbS szX;rcases h with⟨h1,rfl,h0⟩|⟨h1,h2,h3⟩
 ·rw[if_pos h1];obtain⟨a1,a2,a3⟩:=VT (s:=x.at_.sz) (m:=m - v) om;obtain⟨b1,b2,b3⟩:=VT (s:=x.L.sz) (m:=m - v) om;obtain⟨c1,c2,c3⟩:=VT (s:=x.R.sz) (m:=m - v) om;unfold Trk;omega
 ·rw[if_neg om];unfold Trk;omega
def ZgJ(hm:0≤m)(l:List Lt):Trk m (szLs l) (Xk m l):=by
 have:∀(l:List Lt) (E v:Int),Trk m E v→0≤E→Trk m (E+szLs l) (l.foldl (ZbS m) v):=by
  intro l;induction l with
  |nil=>intro E v h _;simpa[szLs]using h
  |cons x r ih=>
   intro E v h h0;have:=ih _ _ (Zo5 x h h0) om;rw[Uz,szLs]
   rwa [show E+((szX x+szLs r:Nat):Int)=E+szX x+szLs r by omega]
 have h:=this l 0 0 (.inl ⟨hm,rfl,G6 _⟩) (G6 _)
 rwa [Int.zero_add]at h
theorem Zok(h:m<v)(l:List Lt):l.foldl (ZbS m) v=v:=by
 induction l with
 |nil=>rfl
 |cons x r ih=>rw[Uz];rw[show ZbS m v x=v by unfold ZbS;rw[if_neg om]];exact ih
def Zfb{α β:Type}(f:β→α→β)(a:β)(l:List α)(i:Nat)(h:i<l.length):(l.take (i+1)).foldl f a=f ((l.take i).foldl f a) l[i]:=by
 rw[Qj h,Md];rfl
def size_at(hm:0≤m)(l:List Lt)(i:Nat):Trk m (szLs (l.take i)) (Xk m (l.take i)):=ZgJ hm _
variable {i:Nat} {l:List Lt}
def ZnV(h:m<Xk m (l.take i)):Xk m l=Xk m (l.take i):=by
 conv=>lhs;rw[←Q7 i l]
 unfold Xk at*;rw[Md,Zok h]
def Zay(n:Int)(s:Nat):Int:=if n≤300 then n+YD s (300 - n)else n
def Wx(n:Int)(l:List Nat):Int:=l.foldl Zay n
def Tru(E v:Int):Prop:=(E≤300∧v=E)∨(300<E∧300<v∧v≤E+301)
def ZnT{E:Int}(s:Nat)(h:Tru E v)(h0:0≤E):Tru (E+s) (Zay v s):=by
 unfold Zay;rcases h with⟨h1,rfl⟩|⟨h1,h2,h3⟩
 ·rw[if_pos h1];obtain⟨a1,a2,a3⟩:=VT (s:=s) (m:=300 - v) om;unfold Tru;omega
 ·rw[if_neg om];unfold Tru;omega
def sumN:List Nat→Nat
 |[]=>0
 |x::r=>x+sumN r
def sum_tru:∀(l:List Nat) {E v:Int},Tru E v→0≤E→Tru (E+sumN l) (Wx v l)
 |[],E,v,h,_=>by simpa[sumN,Wx]using h
 |s::r,E,v,h,h0=>by
  have:=sum_tru r (ZnT s h h0) om;unfold Wx at*;rw[Uz,sumN]
  rwa [show E+((s+sumN r:Nat):Int)=E+s+sumN r by omega]
theorem ZrB(h:300<v)(l:List Nat):Wx v l=v:=by
 unfold Wx;induction l with
 |nil=>rfl
 |cons x r ih=>rw[Uz];rw[show Zay v x=v by unfold Zay;rw[if_neg om]];exact ih
def ZkQ{l:List Nat}(h:300<Wx v (l.take i)):Wx v l=Wx v (l.take i):=by
 conv=>lhs;rw[←Q7 i l]
 unfold Wx at*;rw[Md];exact ZrB h _
def ZjL{l:List Nat}(h:i<l.length):Wx v (l.take (i+1))=Zay (Wx v (l.take i)) l[i]:=Zfb _ _ _ _ h
def sum_le:∀(l:List Nat) {v:Int},0≤v→0≤Wx v l∧(v≤Wx v l)∧(Wx v l≤v∨Wx v l≤301)
 |[],v,h=>⟨h,G6 _,.inl (G6 _)⟩
 |s::r,v,h=>by
  have h1:0≤Zay v s∧v≤Zay v s∧(Zay v s≤v∨Zay v s≤301):=by
   unfold Zay;split
   ·obtain⟨a1,a2,a3⟩:=VT (s:=s) (m:=300 - v) om;omega
   ·omega
  have:=sum_le r (v:=Zay v s) h1.1;unfold Wx at*;rw[Uz];omega
theorem sumN_sz:∀l:List Am,sumN (l.map Am.sz)=szA l
 |[]=>rfl
 |a::r=>by rw[Qv,sumN,szA,sumN_sz r]
def farS:Tm→Bool
 | .mk k n _ l=>((k==1)&&(decide (30<n)||decide (n< -30)))||fars k l
where fars (k:Int):List Tm→Bool
 |[]=>false
 |t::r=>(farS t||((k==6)&&(t.kind==6)))||fars k r
theorem ZkO(k:Int):∀l:List Tm,farS.fars k l=l.any fun t=>farS t||((k==6)&&(t.kind==6))
 |[]=>rfl
 |t::r=>by rw[farS.fars,ZkO k r];rfl
def Zro(t:Tm):farS t=(((t.kind==1)&&(decide (30<t.num)||decide (t.num< -30)))||t.args.any fun u=>farS u||((t.kind==6)&&(u.kind==6))):=by
 cases t;rw[farS,ZkO];rfl
def ZjD(l:List Lt):Bool:=l.any fun x=>(YB x).any farS
def ZlL(b:Bnd):Bool:=b.any fun p=>farS p.2
def ZcT(l:List Lt)(A:List Am)(b:Bnd):Bool:=
 decide (300<Wx (Wx ((b.length:Int)+Xk 300 l) (A.map Am.sz)) (b.map fun p=>p.2.sz))||decide (5<l.length)||decide (24<A.length)||ZjD l||ZlL b
def Zfj{A:List Am}{b:Bnd}(h1:¬300<Wx (Wx ((b.length:Int)+Xk 300 l) (A.map Am.sz)) (b.map fun p=>p.2.sz)):b.length+szLs l+szA A+sumN (b.map fun p=>p.2.sz)≤300:=by
 have t0:=ZgJ (m:=300) om l;have hs:=sum_le (A.map Am.sz) (v:=(b.length:Int)+Xk 300 l) (by rcases t0 with t0|t0<;>omega);have hs2:=sum_le (b.map fun p=>p.2.sz) (v:=Wx ((b.length:Int)+Xk 300 l) (A.map Am.sz)) hs.1;have e0:Xk 300 l=szLs l:=by rcases t0 with t0|t0<;>omega
 have t1:Tru ((b.length:Int)+szLs l) ((b.length:Int)+Xk 300 l):=.inl ⟨om,om⟩;have t2:=sum_tru (A.map Am.sz) t1 om;have t3:=sum_tru (b.map fun p=>p.2.sz) t2 om;rw[sumN_sz]at t3;rcases t3 with⟨t3,_⟩|⟨_,t3,_⟩
 ·omega
 ·omega
def ZeV{A:List Am}{b:Bnd}(h:ZcT l A b=false):b.length+szLs l+szA A+sumN (b.map fun p=>p.2.sz)≤300∧l.length≤5∧A.length≤24:=by
 unfold ZcT at h;simp only[QaW,decide_eq_false_iff_not]at h;obtain⟨⟨⟨⟨h1,h2⟩,h3⟩,_⟩,_⟩:=h;exact⟨Zfj h1,om,om⟩
end
end Go.Proofs.YtmdeagmbfhbbnaaGreatDoorR

namespace Go.Abs
section
variable {κ β:Type} [DecidableEq κ]
def getM(k:κ):List (κ×β)→Option β
 |[]=>none
 |p::r=>if p.1=k then some p.2 else getM k r
def ZgP(k:κ)(v:β):List (κ×β)→List (κ×β)
 |[]=>[(k,v)]
 |p::r=>if p.1=k then(k,v)::r else p::ZgP k v r
def ixM(k:κ):List (κ×β)→Nat
 |[]=>0
 |p::r=>if p.1=k then 0 else ixM k r+1
abbrev Za5(ek:κ→AV)(ev:β→AV)(es:List (κ×β)):List (AV×AV):=es.map fun p=>(ek p.1,ev p.2)
def ZoC(ek:κ→AV):Prop:=∀a b,(ek a).kls=(ek b).kls→a=b
theorem Znq{ek:κ→AV}(hi:ZoC ek)(ev:β→AV)(k:κ):∀(es:List (κ×β)) (i:Nat),XW (ek k).kls ((Za5 ek ev es).map fun p=>p.1.kls) i=if(getM k es).isSome then some (i+ixM k es)else none
 |[],i=>by simp[XW,getM]
 |p::r,i=>by
  simp only[Qv,XW,getM,ixM];by_cases h:p.1=k
  ·simp[h]
  ·have h':¬(ek k).kls=(ek p.1).kls:=fun e=>h (hi _ _ e).symm
   have ih:=Znq hi ev k r (i+1);simp only[Za5]at ih;simp only[if_neg h,if_neg h',ih];cases getM k r with
   |none=>rfl
   |some v=>simp;omega
def ZiP{k:κ}:∀{es:List (κ×β)} {v:β},getM k es=some v→es[ixM k es]? =some (k,v)
 |[],_,h=>by cases h
 |p::r,v,h=>by
  simp only[getM]at h;simp only[ixM];split at h
  ·rename_i e;cases h;rw[if_pos e];simp[←e]
  ·rename_i e;rw[if_neg e];simpa using ZiP h
def ZhO{k:κ}{v:β}(w:β):∀{es:List (κ×β)},getM k es=some v→ZgP k w es=es.set (ixM k es) (k,w)
 |[],h=>by cases h
 |p::r,h=>by
  simp only[getM]at h;simp only[ZgP,ixM];split at h
  ·rename_i e;rw[if_pos e,if_pos e];rfl
  ·rename_i e;rw[if_neg e,if_neg e,ZhO w h];rfl
theorem Zh6{k:κ}(w:β):∀{es:List (κ×β)},getM k es=none→ZgP k w es=es++[(k,w)]
 |[],_=>rfl
 |p::r,h=>by
  simp only[getM]at h;simp only[ZgP];split at h
  ·cases h
  ·rename_i e;rw[if_neg e,Zh6 w h];rfl
def Zjt{ek:κ→AV}(hi:ZoC ek)(ev:β→AV)(k:κ)(es:List (κ×β)):XB (ek k) (Za5 ek ev es)=if(getM k es).isSome then some (ixM k es)else none:=by
 unfold XB;rw[Znq hi];simp
theorem Zri{ek:κ→AV}(hi:ZoC ek)(ev:β→AV)(re:Zu)(k:κ)(es:List (κ×β)):lookA re (ek k) (Za5 ek ev es) false=match getM k es with|some v=>ev v|none=>nilA (XP re):=by
 unfold lookA;rw[Zjt hi];cases h:getM k es with
 |none=>rfl
 |some v=>
  have h1:=ZiP h;simp[Za5,h1]
def Zmy{ek:κ→AV}(hi:ZoC ek)(ev:β→AV)(k:κ)(v:β)(es:List (κ×β)):ZaN (ek k) (ev v) (Za5 ek ev es)=Za5 ek ev (ZgP k v es):=by
 unfold ZaN;rw[Zjt hi];cases h:getM k es with
 |none=>simp[Zh6 v h,Za5]
 |some w=>simp[ZhO v h,Za5,List.map_set]
end
def kinj_str:ZoC AV.str:=fun a b h=>by simp[AV.kls,AV.cells,klAll,AV.kl]at h;exact h
def kinj_int:ZoC (AV.int .i64):=fun a b h=>by simp[AV.kls,AV.cells,klAll,AV.kl]at h;exact h
def Zgr{κ β:Type}{n:Nat}{ek:κ→AV}{ev:β→AV}{es:List (κ×β)}(h1:∀k,Below n (ek k))(h2:∀p∈es,Below n (ev p.2)):∀p∈Za5 ek ev es,Below n p.1∧Below n p.2:=fun p hp=>by
 obtain⟨q,hq,rfl⟩:=Qi.1 hp;exact⟨h1 _,h2 q hq⟩
def Zkn{n:Nat}{es:List (AV×AV)}(h:∀p∈es,Below n p.1∧Below n p.2):Ze.Below n (.map es):=by
 refine⟨fun a ha=>?_,by simp[Ze.at_]⟩;simp only[Ze.avs,Qk,Qi]at ha;rcases ha with⟨p,hp,rfl⟩|⟨p,hp,rfl⟩
 ·exact(h p hp).1
 ·exact(h p hp).2
end Go.Abs

namespace Go.Proofs.YtmdeagmbfhbbnaaGreatDoorR
open Go.Abs
def subs:Tm→List Tm
 | .mk k n s l=>.mk k n s l::subss l
where subss:List Tm→List Tm
 |[]=>[]
 |t::r=>subs t++subss r
theorem subss_eq:∀l:List Tm,subs.subss l=l.flatMap subs
 |[]=>rfl
 |t::r=>by rw[subs.subss,subss_eq r];rfl
def ZnD(t:Tm):subs t=t::t.args.flatMap subs:=by cases t;rw[subs,subss_eq];rfl
def Zff(H:Za)(x:Nat)(S S':Nat→Option Ze):(H.YS x S).YS x S'=H.YS x S':=by
 funext l k;simp only[Za.YS];split<;>rfl
def Zqo(H:Za)(x k:Nat)(S:Nat→Option Ze):H.YS x S x k=S k:=by simp[Za.YS]
section
variable {x:Nat}
def ZqB(H:Za){l:Nat}(h:l≠x)(k:Nat)(S:Nat→Option Ze):H.YS x S l k=H l k:=by simp[Za.YS,h]
def ZmG{H:Za}{S:Nat→Option Ze}(h:∀k,H x k=S k):H.YS x S=H:=by
 funext l k;simp only[Za.YS];split
 ·rename_i e;subst e;exact(h k).symm
 ·rfl
def Zvg(P:Program)(x l:Nat)(L:List Tm)(S:Nat→Nat→Option Ze)(H0:Za):Prop:=
 ∀m H i t,x<m→L[i]? =some t→(∀l' k,l'<x→H l' k=H0 l' k)→(∀k,H x k=S i k)→VO P m l [t.enc] H fun r H1=>r= .bool true∧H1=H.YS x (S (i+1))
def Zat(l:List Tm)(j:Nat):Nat:=((l.take j).flatMap subs).length
def Zux(t:Tm)(x l n i:Nat)(S:Nat→Nat→Option Ze)(H:Za)(j:Nat):Zb:=
 ⟨[(14,.int .i64 j),(13,.int .i64 t.args.length),(12,.sl 4 (t.args.map Tm.enc) .any),(1,.fn (.yield l) []),(2,.ptr n 2 0)],[(2,.box t.cs)],H.YS x (S (i+1+Zat t.args j))⟩
def ZtX{x l:Nat}{L:List Tm}{S:Nat→Nat→Option Ze}{H0:Za}(hY:Zvg prog x l L S H0)(hS:∀j k b,S j k=some b→b.Below (x+1))(t:Tm)(ht:t.Good)(i:Nat)(hi:∀k (h:k<(subs t).length),L[i+k]? =some (subs t)[k])
  (n:Nat) (H:Za) (hx:x<n) (h1:∀l' k,l'<x→H l' k=H0 l' k) (h2:∀k,H x k=S i k):
  Zi prog n 164 [t.enc,.fn (.yield l) []] H fun r H1=>r= .bool true∧H1=H.YS x (S (i+(subs t).length)):=by
 have hlen:=ht.len;have hne:x≠n:=om;have hsub:subs t=t::t.args.flatMap subs:=ZnD t;refine aF func164 fun B=>?_
 have hf1:∀(L:List (Nat×Ze)) (G:Za) (l' k:Nat),(∀l' k,l'<x→G l' k=H0 l' k)→l'<x→full n L G l' k=H0 l' k:=fun L G l' k hG h=>by
  simp only[full];rw[if_neg om];exact hG l' k h
 have hf2:∀(L:List (Nat×Ze)) (G:Za) (j:Nat),(∀k,G x k=S j k)→ ∀k,full n L G x k=S j k:=fun L G j hG k=>by
  simp only[full];rw[if_neg hne];exact hG k
 refine gc ?_;refine Zsq sS (hY _ _ i t (show x<n+1 by omega) (by have:=hi 0 (by rw[hsub];simp);simpa[hsub]using this) (fun l' k h=>hf1 _ _ l' k h1 h) (hf2 _ _ i h2)) sS ?_;rintro _ _ ⟨rfl,rfl⟩;refine⟨[(2,.box t.cs)],H.YS x (S (i+1)),by rw[VB hne];rfl,Js hx (hS _),?_⟩;refine aS ?_;refine gN ?_;refine Zm (Zux t x l n i S H) t.args.length rfl ?_ ?_
 ·exact KK
 intro j hj;refine ZQ rfl ?_;rcases Qe j t.args.length with h|h
 ·refine nq h ?_;refine nT ?_;refine nq2 (Tm.Zh _ _ h) h ?_;refine nR ?_;have hu:=ht.arg (Qa h);have hcnt:Zat t.args (j+1)=Zat t.args j+(subs t.args[j]).length:=by
   unfold Zat;rw[Qj h,Ut,Qh];simp
  refine YT (caps:=[]) (avs:=[t.args[j].enc,.fn (.yield l) []]) rfl (Zf func164 rfl rfl) (by
   rw[Qs];exact ZtX hY hS t.args[j] hu (i+1+Zat t.args j) (fun k hk=>by
    have hk':1+Zat t.args j+k<(subs t).length:=by
     rw[hsub];have h3:Zat t.args (j+1)≤(t.args.flatMap subs).length:=by
      unfold Zat
      conv=>rhs;rw[←Q7 (j+1) t.args,Ut,Qh]
      omega
     simp only[Qq];omega
    have h4:=hi _ hk';rw[show i+1+Zat t.args j+k=i+(1+Zat t.args j+k) by omega,h4];congr 1
    have h5:t.args.flatMap subs=(t.args.take j).flatMap subs++(subs t.args[j]++(t.args.drop (j+1)).flatMap subs):=by
     rw[←QV (f:=subs),←Qu h,←Ut,Q7]
    have h6:(subs t)[1+Zat t.args j+k]? =some (subs t.args[j])[k]:=by
     rw[hsub,show 1+Zat t.args j+k=(Zat t.args j+k)+1 by omega,U2,h5,Gu (by unfold Zat;omega)];rw[show Zat t.args j+k - ((t.args.take j).flatMap subs).length=k by unfold Zat;omega,UE hk,Qb hk]
    rw[Qb hk']at h6;exact U7 h6) (n+1) _ (show x<n+1 by omega) (fun l' k h=>hf1 _ _ l' k (fun l' k h=>(ZqB H om k _).trans (h1 l' k h)) h) (hf2 _ _ _ (fun k=>Zqo _ _ _ _))) sS ?_
  rintro _ _ ⟨rfl,rfl⟩;refine⟨[(2,.box t.cs),(6,.box t.args[j].cs)],H.YS x (S (i+1+Zat t.args (j+1))),?_,?_,?_⟩
  ·rw[←VB hne,Zff,hcnt,←Gn];rfl
  ·have:=Js (H:=H.YS x (S (i+1+Zat t.args j))) hx (hS (i+1+Zat t.args (j+1)))
   rwa [Zff]at this
  refine gI ?_;apply kZ;repeat' first|apply q0|exact xx|apply aI
  ·refine aS ?_;rw[iw];exact .refl _
 ·refine nq (QD.2 h) ?_;refine gt ?_;have hj':j=t.args.length:=om;subst hj';have hc:i+1+Zat t.args t.args.length=i+(subs t).length:=by
   rw[hsub];unfold Zat;rw[QI];simp only[Qq];omega
  rw[hc];refine⟨by simp[X8],[.bool true],⟨?_,trivial⟩,by simp[Zc4],rfl,rfl⟩;exact xS
termination_by SizeOf.sizeOf t
decreasing_by exact Tm.Y2 (Qa h)
def Zwu{l:Nat}{L:List Tm}{S:Nat→Nat→Option Ze}{H0:Za}(hY:Zvg prog x l L S H0)(hS:∀j k b,S j k=some b→b.Below (x+1))(t:Tm)(ht:t.Good)(hL:L=subs t)
  (n:Nat) (H:Za) (hx:x<n) (h1:∀l' k,l'<x→H l' k=H0 l' k) (h2:∀k,H x k=S 0 k):
  Zi prog n 163 [.fn (.yield l) [],.iptr t.cs] H fun r H1=>H1=H.YS x (S L.length):=by
 subst hL;have hne:x≠n:=om;refine aF func163 fun B=>?_
 refine nR ?_;refine YT (caps:=[]) (avs:=[t.enc,.fn (.yield l) []]) rfl (Zf func164 rfl rfl) (by
  rw[Qs];exact ZtX hY hS t ht 0 (fun k hk=>by rw[QK,Qb hk]) (n+1) _ (show x<n+1 by omega) (fun l' k h=>by simp only[full];rw[if_neg om];exact h1 l' k h) (fun k=>by simp only[full];rw[if_neg hne];exact h2 k)) sS ?_
 rintro _ _ ⟨rfl,rfl⟩;refine⟨[],H.YS x (S (0+(subs t).length)),by rw[VB hne],Js hx (hS _),?_⟩;refine gO ?_;exact⟨by simp[X8],[],trivial,sm,rfl⟩
end
end Go.Proofs.YtmdeagmbfhbbnaaGreatDoorR

namespace Go.Abs
open Go.Proofs
def ltN(s t:List UInt8):Prop:=Lib.compareBytes s t<0
def ZnJ{s t:List UInt8}(h:¬ltN s t)(h':¬ltN t s):s=t:=by
 have:=serN.anti (x:=s) (y:=t) trivial trivial;unfold ltN at*;exact cmpBytes_zero om
def lt_cmp:∀x y:List UInt8,x<y↔ltN x y
 |[],[]=>by simp[ltN,Lib.compareBytes]
 |[],_::_=>by simp[ltN,Lib.compareBytes]
 |_::_,[]=>by simp[ltN,Lib.compareBytes]
 |a::x,b::y=>by
  rw[List.cons_lt_cons_iff,lt_cmp x y];unfold ltN;simp only[Lib.compareBytes];by_cases h1:a<b
  ·simp[h1]
  ·by_cases h2:b<a
   ·have:a≠b:=fun e=>by subst e;exact h1 h2
    simp[h1,h2,this]
   ·have:a=b:=UInt8.le_antisymm (UInt8.not_lt.1 h2) (UInt8.not_lt.1 h1);simp[this]
def Zi0{ys l:List (List UInt8)}(hp:ys.Perm l)(ha':∀i i' (h:i<ys.length) (h':i'<ys.length),i<i'→ ¬ltN ys[i'] ys[i]):Lib.compact ys=XT Lib.compareBytes l:=by
 have hb:∀i (h:i<ys.length),ys.toArray[i]! =ys[i]:=fun i h=>by rw[getElem!_pos ys.toArray i (by simpa using h)];simp
 have key:∀m,m≤ys.length→(∀x,x∈Lib.compactUpTo ys.toArray m↔ ∃j,∃h:j<ys.length,j<m∧ys[j]=x)∧(Lib.compactUpTo ys.toArray m).Pairwise ltN:=by
  intro m;induction m with
  |zero=>intro _;simp[Lib.compactUpTo]
  |succ m ih=>
   intro hm;obtain⟨i1,i2⟩:=ih om;have hml:m<ys.length:=om;rw[Lib.compactUpTo_succ];by_cases hk:Lib.keeps ys.toArray m=true
   ·rw[if_pos hk,hb m hml];refine⟨fun x=>?_,List.pairwise_append.2 ⟨i2,sm,fun x hx y hy=>?_⟩⟩
    ·simp only[Qk,i1,Qm];constructor
     ·rintro(⟨j,h,hj,rfl⟩|rfl)
      ·exact⟨j,h,om,rfl⟩
      ·exact⟨m,hml,om,rfl⟩
     ·rintro⟨j,h,hj,rfl⟩;by_cases e:j=m
      ·subst e;exact .inr rfl
      ·exact .inl ⟨j,h,om,rfl⟩
    ·simp only[Qm]at hy;subst hy;obtain⟨j,h,hj,rfl⟩:=(i1 x).1 hx;have h1:=ha' j m h hml hj;by_cases e:ltN ys[j] ys[m]
     ·exact e
     ·have e2:=ZnJ e h1
      exfalso
      have hne:ys[m]≠ys[m - 1]:=by
       simp only[Lib.keeps,GR,beq_iff_eq,bne_iff_ne,decide_eq_true_eq]at hk;rcases hk with hk|hk
       ·omega
       ·rw[hb m hml,hb (m - 1) om]at hk;exact hk
      by_cases e3:j=m - 1
      ·subst e3;exact hne e2.symm
      ·have a1:=ha' j (m - 1) h om om;have a2:=ha' (m - 1) m om hml om;by_cases a3:ltN ys[m - 1] ys[m]
       ·rw[←e2]at a3;exact a1 a3
       ·exact hne (ZnJ a2 a3)
   ·rw[if_neg hk,Qs];refine⟨fun x=>?_,i2⟩;rw[i1];constructor
    ·rintro⟨j,h,hj,rfl⟩;exact⟨j,h,om,rfl⟩
    ·rintro⟨j,h,hj,rfl⟩;by_cases e:j=m
     ·subst e;simp only[Lib.keeps,GR,beq_iff_eq,bne_iff_ne,decide_eq_true_eq,not_or]at hk;have hj0:j≠0:=fun e=>by simp[e]at hk
      have h2:ys[j]=ys[j - 1]:=by
       have:=hk;rw[hb j h,hb (j - 1) om]at this;simpa using this.2
      exact⟨j - 1,om,om,h2.symm⟩
     ·exact⟨j,h,om,rfl⟩
 obtain⟨h1,h2⟩:=key ys.length (Qg _);refine serN.unique (fun _ _=>trivial) h2 (serN.set_asc fun _ _=>trivial) fun x=>?_
 rw[serN.set_mem (fun _ _=>trivial),Lib.compact,h1,←hp.mem_iff];constructor
 ·rintro⟨j,h,_,rfl⟩;exact Qa h
 ·intro hx;obtain⟨j,h,rfl⟩:=QJ hx;exact⟨j,h,h,rfl⟩
def Zjp(xs:List (List UInt8)):Lib.compact (xs.mergeSort fun x y=>decide (x≤y))=XT Lib.compareBytes xs:=by
 have hle:∀x y:List UInt8,decide (x≤y)=true↔ ¬ltN y x:=fun x y=>by rw[decide_eq_true_eq,←lt_cmp,List.not_lt]
 refine Zi0 (List.mergeSort_perm _ _) fun i i' h h' hi=>?_
 have hp:(xs.mergeSort fun x y=>decide (x≤y)).Pairwise fun x y=>decide (x≤y)=true:=by
  refine List.pairwise_mergeSort (fun a b c h1 h2=>?_) (fun a b=>?_) xs
  ·rw[decide_eq_true_eq]at*;exact List.le_trans h1 h2
  ·rw[GR,decide_eq_true_eq,decide_eq_true_eq];exact List.le_total a b
 exact(hle _ _).1 (Me.1 hp i i' h h' hi)
open Go.Shelf Go.Sort
section
variable {P:Program}
def Zk5{E:Env}:∀{l:List (List UInt8)} {vs:List Value},VRs E ((l.map AV.str)) vs→vs=l.map encStr
 |[],vs,h=>h.of_nil
 |x::l,vs,h=>by
  obtain⟨v,r,rfl,h1,h2⟩:=VRs.YW h;cases h1;rw[Zk5 h2];rfl
def ZkX(E:Env):∀l:List (List UInt8),VRs E ((l.map AV.str)) (l.map encStr)
 |[]=>VRs.nil E
 |x::l=>VRs.cons (.str _) (ZkX E l)
def Zek{m:Nat}{H:Za}{E:Env}{w:World}(hr:Zt m H E w){l j gb cap e:Nat}{xs:List (List UInt8)}(hh:E.hist l j xs.length=some (.slice (some ⟨gb,0,none⟩) xs.length cap))(hH:H l j=some (.Zg e 1 ((xs.map AV.str)) xs.length))(hpos:0<xs.length):
  ∃cc,E.g l j=some gb∧w.heap[gb]? =some (.cells cc e (0,0))∧xs.length≤cap∧cap≤maxLen∧cc.size=cap∧(∀o,E.F gb o=none)∧cc.toList.take xs.length=xs.map encStr∧gb<w.heap.size:=by
 obtain⟨cc,q1,q2,q3,q4,q5,q6,q7,q8⟩:=hr.mrow hh hH hpos;rw[Qas]at q5 q7;exact⟨cc,q1,q2,q3,q4,q5,q6,Zk5 q7,(QX.1 q2).1⟩
def str_holds{w:World}{gb e:Nat}{cc:Array Value}{xs:List (List UInt8)}(q2:w.heap[gb]? =some (.cells cc e (0,0)))(hl:xs.length≤cc.size)(hc:cc.toList.take xs.length=xs.map encStr):Holds encStr w gb 0 xs.toArray:=fun t ht=>by
 have ht':t<xs.length:=by simpa using ht
 have hcell:w.cell? ⟨gb,0+t,none⟩=cc[t]?:=by simp only[World.cell?,q2];simp
 refine⟨?_,by simp[World.frozen?,q2]⟩;rw[hcell];have h1:(cc.toList.take xs.length)[t]? =(xs.map encStr)[t]?:=by rw[hc]
 rw[QZ ht',Ua,Qb ht',Us,U0]at h1;rw[h1,getElem!_pos xs.toArray t ht];simp
def Zid{m:Nat}{H:Za}{E:Env}{w:World}(hr:Zt m H E w){l j gb cap e:Nat}{xs:List (List UInt8)}(hh:E.hist l j xs.length=some (.slice (some ⟨gb,0,none⟩) xs.length cap))(hH:H l j=some (.Zg e 1 ((xs.map AV.str)) xs.length))(hpos:0<xs.length)
  (d:Array (List UInt8)) (hd:d.size=xs.length) (q:Nat):
  Zt m (H.upd l j (.Zg e 1 ((d.toList.map AV.str)) xs.length)) E (putRow encStr (Go.Sort.ahead w q) gb 0 d)∧Ext m E w E (putRow encStr (Go.Sort.ahead w q) gb 0 d):=by
 obtain⟨cc,q1,q2,q3,q4,q5,q6,q7,q8⟩:=Zek hr hh hH hpos;have hc':(putRow encStr (Go.Sort.ahead w q) gb 0 d).heap[gb]? =some (.cells (putCells encStr 0 d cc) e (0,0)):=by
  simp only[putRow,mapBlock,Gw,if_true,Go.Sort.ahead,q2,Us,onCells]
 have hsz:(putCells encStr 0 d cc).size=cc.size:=by simp[putCells]
 refine hr.turn (.inr q1) (.Zg e 1 ((d.toList.map AV.str)) xs.length) (fun _=>rfl) rfl rfl rfl (fun _=>Gx _ _) (by simp[putRow,mapBlock,Go.Sort.ahead])
  (fun b' hb'=>by simp only[putRow,mapBlock,Gw,Go.Sort.ahead];rw[if_neg (fun e=>hb' e.symm)]) q6 ?_
 obtain⟨⟨_,v0,hv0,hj0,_⟩,hm0⟩:=hr.Zg l j e 1 ((xs.map AV.str)) xs.length (hr.norm.Xw hh) hH;rw[hh]at hv0;cases hv0;refine⟨⟨by simp[hd],_,hh,hj0,.inr ⟨gb,cap,_,rfl,q1,hc',q3,q4,by rw[hsz,q5,Qas],q6,?_⟩⟩,hm0⟩;have e1:(putCells encStr 0 d cc).toList.take (xs.length*1)=d.toList.map encStr:=by
  rw[Qas];apply Gh
  ·simp[putCells,hd];omega
  ·intro t h1 h2;have ht:t<d.size:=by simpa using h2
   rw[GL];simp only[putCells,ML,QaZ,QN];rw[if_pos ⟨Uw _,om⟩,MW,getElem!_pos d t ht]
 rw[e1];exact ZkX E _
def ZpA{ρ:Ren}(L:Lays.n190 P ρ)(n:Nat)(H:Za)(l j e sz0:Nat)(xs:List (List UInt8))(hH:H l j=some (.Zg e 1 (xs.map AV.str) xs.length))(hlen:xs.length≤1000000000):
  Zi P n (ρ.f 190) [.msl sz0 l j xs.length] H fun r H'=>r= .tup []∧H'=H.upd l j (.Zg e 1 ((xs.mergeSort fun x y=>decide (x≤y)).map AV.str) xs.length):=fun E w vs hr hv=>by
 obtain⟨v1,r1,rfl,h1,hv⟩:=hv.YW;rw[hv.of_nil];cases hxs:xs with
 |nil=>
  subst hxs;have hnone:∀a cap,Calls P (ρ.f 190) #[.slice a 0 cap] w fun e' w'=>∃r v H' E',e'= .returned v∧(r= .tup []∧H'=H.upd l j (.Zg e 1 ((([]:List (List UInt8)).mergeSort fun x y=>decide (x≤y)).map AV.str) 0))∧VR E' r v∧Zt n H' E' w'∧Ext n E w E' w':=fun a cap=>
   (Any.slices_Sort_string_none L a cap w).mono fun e' w' ⟨he,hw⟩=>by
    subst hw he;exact⟨.tup [],_,H,E,rfl,⟨rfl,by simpa using(Yd hH).symm⟩,.tup [] [] rfl (fun i h=>absurd h (Qo _)),hr,.refl _ _ _⟩
  generalize hz:AV.msl sz0 l j ([]:List (List UInt8)).length=av at h1;cases h1<;>cases hz
  ·exact hnone _ _
  ·exact hnone _ _
 |cons x0 xr=>
  rw[←hxs];have hpos:0<xs.length:=by rw[hxs];simp
  obtain⟨nx,hnx⟩:∃m,m=xs.length:=⟨_,rfl⟩
  rw[←hnx]at h1;generalize hz:AV.msl sz0 l j nx=av at h1;cases h1<;>cases hz
  ·omega
  rename_i gb cap hh;subst hnx;obtain⟨cc,q1,q2,q3,q4,q5,q6,q7,hgb⟩:=Zek hr hh hH hpos;have hH1:Holds encStr w gb 0 xs.toArray:=str_holds q2 om q7;refine Calls.mono (Any.slices_Sort_string L gb 0 cap xs w hH1 hgb om) ?_;rintro e' w' ⟨rfl,m,os,rfl⟩;have hds:(xs.mergeSort fun x y=>decide (x≤y)).toArray.size=xs.length:=sm;obtain⟨hh2,hx2⟩:=Zid hr hh hH hpos _ hds m;obtain⟨hh3,hx3⟩:=hh2.below (w':=grow (putRow encStr (Go.Sort.ahead w m) gb 0 (xs.mergeSort fun x y=>decide (x≤y)).toArray) os) ⟨rfl,rfl,rfl,by simp[grow],fun b hb=>by show((putRow encStr (Go.Sort.ahead w m) gb 0 (xs.mergeSort fun x y=>decide (x≤y)).toArray).heap++os)[b]? =_;rw[Gs hb]⟩ (fun _=>Qg _);exact⟨.tup [],_,_,E,rfl,⟨rfl,rfl⟩,.tup [] [] rfl (fun i h=>absurd h (Qo _)),hh3,hx2.trans hx3⟩
def ZkM{ρ:Ren}(L:Lays.n194 P ρ)(n:Nat)(H:Za)(l j e:Nat)(xs:List (List UInt8))(hpos:0<xs.length)(hH:H l j=some (.Zg e 1 ((xs.map AV.str)) xs.length))(hlen:xs.length≤1000000000):
  Zi P n (ρ.f 194) [.msl 1 l j xs.length] H fun r H'=>r= .sub 1 l j xs.length 0 (Lib.compact xs).length∧H'=H.upd l j (.Zg e 1 (List.map AV.str (Lib.compact xs++List.replicate (xs.length - (Lib.compact xs).length) [])) xs.length):=fun E w vs hr hv=>by
 obtain⟨v1,r1,rfl,h1,hv⟩:=hv.YW;rw[hv.of_nil];obtain⟨nx,hnx⟩:∃m,m=xs.length:=⟨_,rfl⟩
 rw[←hnx]at h1;generalize hz:AV.msl 1 l j nx=av at h1;cases h1<;>cases hz
 ·omega
 rename_i gb cap hh;subst hnx;obtain⟨cc,q1,q2,q3,q4,q5,q6,q7,hgb⟩:=Zek hr hh hH hpos;have hH0:Holds encStr w gb 0 xs.toArray:=str_holds q2 om q7;refine Calls.mono (Any.slices_Compact_string L gb 0 cap xs w hH0 om q3) ?_;rintro e' w' ⟨rfl,q,rfl⟩;have hle:(Lib.compact xs).length≤xs.length:=Lib.compact_length_le xs;obtain⟨hh2,hx2⟩:=Zid hr hh hH hpos (Lib.compact xs++List.replicate (xs.length - (Lib.compact xs).length) []).toArray (by simp;omega) q;refine⟨_,_,_,E,rfl,⟨rfl,rfl⟩,?_,hh2,hx2⟩;have:=VR.sub (E:=E) 1 l j xs.length 0 (Lib.compact xs).length gb cap hh om;simpa using this
def Zja{ρ:Ren}(L:Lays.n194 P ρ)(n:Nat)(H:Za)(l j:Nat):Zi P n (ρ.f 194) [.msl 1 l j 0] H fun r H'=>r= .msl 1 l j 0∧H'=H:=fun E w vs hr hv=>by
 obtain⟨v1,r1,rfl,h1,hv⟩:=hv.YW;rw[hv.of_nil];have:∃a cap,v1= .slice a 0 cap:=by
  generalize hz:AV.msl 1 l j 0=av at h1;cases h1<;>cases hz
  ·exact⟨_,_,rfl⟩
  ·exact⟨_,_,rfl⟩
 obtain⟨a,cap,rfl⟩:=this;refine Calls.mono (Any.slices_Compact_string_empty L a cap w) ?_;rintro e w' ⟨rfl,rfl⟩;exact⟨_,_,_,E,rfl,⟨rfl,rfl⟩,h1,hr,.refl _ _ _⟩
end
end Go.Abs
