/- Flat forms do not depend on how the set of names is listed. No program. -/
import Derived.Test.YtmdeagmbfhbbnaaGreatDoorRQ11
import Derived.Test.YtmdeagmbfhbbnaaGreatDoorRQ07
import Derived.Test.YtmdeagmbfhbbnaaGreatDoorRQ10
import Derived.Test.YtmdeagmbfhbbnaaGreatDoorRQ09
import Derived.Test.YtmdeagmbfhbbnaaGreatDoorRQ08
import Derived.Test.YtmdeagmbfhbbnaaGreatDoorRQ05
import Derived.Test.YtmdeagmbfhbbnaaGreatDoorRQ04
import Derived.ScopeJumps
import Derived.Test.YtmdeagmbfhbbnaaGreatDoorRQ06
set_option linter.all false
namespace Go.Proofs.YtmdeagmbfhbbnaaGreatDoorR
open Go.Abs
theorem Zlw(S:List Str)(c:Nat):∃k,k≤S.length∧(∀j,j<k→newV (c+1+j)∈S)∧newV (c+1+k)∉S:=by
 have key:∀f k,f+k=S.length+1→(∀j,j<k→newV (c+1+j)∈S)→ ∃k,k≤S.length∧(∀j,j<k→newV (c+1+j)∈S)∧newV (c+1+k)∉S:=by
  intro f;induction f with
  |zero=>intro k hk h;have:=Zb1 h;omega
  |succ f ih=>
   intro k hk h;by_cases hx:newV (c+1+k)∈S
   ·refine ih (k+1) om fun j hj=>?_
    rcases Qg j k with h'|h'
    ·exact h j h'
    ·have:j=k:=by omega
     subst this;exact hx
   ·exact⟨k,Zb1 h,h,hx⟩
 exact key (S.length+1) 0 om fun j hj=>absurd hj (Qm _)
section
variable {S T:List Str}
theorem Zj2(h:∀x,x∈S↔x∈T)(c:Nat):XD S c=XD T c:=by
 obtain⟨k,h1,h2,h3⟩:=Zlw S c;have h2':∀j,j<k→newV (c+1+j)∈T:=fun j hj=>(h _).1 (h2 j hj)
 have h3':newV (c+1+k)∉T:=fun hx=>h3 ((h _).2 hx)
 unfold XD;rw[Zc6 h2 h3 om,Zc6 h2' h3' (by have:=Zb1 h2';omega)]
theorem Znx(h:∀x,x∈S↔x∈T):(∀t c,flT S t c=flT T t c)∧ ∀l c,flT.flTs S l c=flT.flTs T l c:=by
 refine Ws (fun k n s l ih c=>?_) (fun c=>rfl) fun t r h1 h2 c=>?_
 ·by_cases hk:k=5∨k=6
  ·rw[WY hk,WY hk,Zj2 h]
  ·rw[WX hk,WX hk,ih c]
 ·simp only[flT.flTs,h1 c,h2]
theorem ZnS(h:∀x,x∈S↔x∈T)(x:Lt)(c:Nat):flX S x c=flX T x c:=by
 unfold flX;rw[(Znx h).2]
theorem Zem{S T:List Str}(h:∀x,x∈S↔x∈T):∀(l:List Lt) (c:Nat),flL S l c=flL T l c
 |[],_=>rfl
 |x::r,c=>by rw[flL,flL,ZnS h,Zem h]
def Zao(S:List Str):List Lt→Nat→Nat
 |[],c=>c
 |x::r,c=>Zao S r (flX S x c).2
theorem ZgL(S:List Str):∀(p q:List Lt) (c:Nat),flL S (p++q) c=flL S p c++flL S q (Zao S p c)∧Zao S (p++q) c=Zao S q (Zao S p c)
 |[],q,c=>⟨rfl,rfl⟩
 |x::p,q,c=>by
  have:=ZgL S p q (flX S x c).2;simp only[Q9,flL,Zao,this,Q7,and_self]
theorem Zpt(S:List Str)(l:List Lt)(c i:Nat)(h:i<l.length):flL S (l.take (i+1)) c=flL S (l.take i) c++(flX S l[i] (Zao S (l.take i) c)).1∧Zao S (l.take (i+1)) c=(flX S l[i] (Zao S (l.take i) c)).2:=by
 rw[Qn h];obtain⟨h1,h2⟩:=ZgL S (l.take i) [l[i]] c;rw[h1,h2];simp[flL,Zao]
theorem Sm.len{x:Lt}(h:Sm x):x.at_.args.length≤305:=by have:=Tm.sz_len x.at_.args;have:=h.at_;omega
theorem Zq7{x:Lt}(h:Sm x)(c:Nat):(flX S x c).2≤c+305*(S.length+2)∧(flX S x c).1.length≤306:=by
 have h0:=h.at_;unfold flX;split
 ·have:=(ZcL S).2 x.at_.args c;have h2:Tm.sz.szs x.at_.args*(S.length+2)≤305*(S.length+2):=QD _ h0;simp only[Qo,Qv];omega
 ·simp
theorem ZiC{S:List Str}:∀{l:List Lt},(∀x∈l,Sm x)→ ∀c,Zao S l c≤c+l.length*(305*(S.length+2))∧(flL S l c).length≤l.length*306
 |[],_,c=>by simp[Zao,flL]
 |x::r,h,c=>by
  have h1:=Zq7 (S:=S) (h x sm) c;have h2:=ZiC (S:=S) (l:=r) (fun y hy=>h y (by simp[hy])) (flX S x c).2;simp only[Zao,flL,Qh,Qo,Ue,QaF];omega
def J9(l:List Lt)(used:List Str):List Str:=ZO (ZO [] used) (l.flatMap fun x=>(Yy x).flatMap Z8)
theorem Zks(l:List Lt)(used:List Str):flL (J9 l used) l 0=XQ l used:=by
 unfold XQ;refine Zem (fun x=>?_) l 0;rw[J9,Vz,Vz];simp
end
set_option maxRecDepth 100000
theorem Jh(S p q:List Str):ZO S (p++q)=ZO (ZO S p) q:=by unfold ZO;rw[U6]
section
variable {S:List Str}
theorem ZmV{cx:Cx}(hP:cx.P=Tryz.prog){o:Oper}{args:List Operand}{ts:List TypeId}{tm:List (Nat×AV)}{L:List (Nat×Ze)}{H:Za}{k:Nat}{xs:List Str}{K:Zb→Prop}(hlen:xs.length≤1000000)(hk:lkb L k=some (.map (encS S)))
  (ha:Yo cx.T (evT tm) args ts=[.map cx.n k,.sl 1 (YP xs) .any]) (h:K ⟨Yl tm o.dst (.tup []),setb L k (.map (encS (ZO S xs))),H⟩):Zet cx o (.func 40) args ts ⟨tm,L,H⟩ K:=by
 obtain⟨P,T,φ,n,N⟩:=cx;dsimp only at hP ha h;subst hP;refine⟨40,_,_,[],.tup [],setb L k (.map (encS (ZO S xs))),H,rfl,Zf Tryz.func40 rfl rfl,?_,.refl _ _,h⟩;rw[Qu,ha,Zm];exact j40 (n+1) _ n k (Qr n) S xs hlen (by simp only[full,if_true];exact hk)
def flAO:Opt:=⟨true,true,fun d=>if d=48 then .call else .auto,[]⟩
def gAt(l:List Lt)(used:List Str)(i:Nat):List Str:=ZO (ZO [] used) ((l.take i).flatMap fun x=>(Yy x).flatMap Z8)
theorem Zp0(l:List Lt)(used:List Str)(i:Nat)(h:i<l.length):gAt l used (i+1)=ZO (gAt l used i) ((Yy l[i]).flatMap Z8):=by
 unfold gAt;rw[Qn h,Ur,Jh];simp
def ZsR(n:Nat)(l:List Lt)(used:List Str)(H:Za)(i:Nat):Zb:=
 ⟨[(24,.int .i64 i),(23,.int .i64 l.length),(22,.sl 13 (l.map Lt.enc) .any),(5,.ptr n 15 0),(0,.sl 13 (l.map Lt.enc) .any)],[(13,.map (encS (gAt l used i))),(15,.box [.map n 13,.int .i64 0,.sl 13 [] .full])],H⟩
def Zt2(n:Nat)(l:List Lt)(q:List Tm)(S:List Str)(i:Nat)(H:Za)(j:Nat):Zb:=
 ⟨[(38,.int .i64 j),(37,.int .i64 q.length),(36,.sl 4 (q.map Tm.enc) .any),(24,.int .i64 i),(23,.int .i64 l.length),(22,.sl 13 (l.map Lt.enc) .any),(5,.ptr n 15 0),(0,.sl 13 (l.map Lt.enc) .any)],[(13,.map (encS (ZO S ((q.take j).flatMap Z8)))),(15,.box [.map n 13,.int .i64 0,.sl 13 [] .full])],H⟩
variable {x:Lt}
theorem Sm.tx(h:Sm x):(∀t∈Yy x,t.Good∧t.sz≤305)∧(Yy x).length≤307:=by
 have h3:=h.len;have h4:=h.at_;refine⟨fun t ht=>?_,by simp[Yy];omega⟩;simp only[Yy,Qk]at ht;rcases ht with rfl|rfl|ht
 ·exact⟨h.good.L,h.L⟩
 ·exact⟨h.good.R,h.R⟩
 ·exact⟨h.good.at_.arg ht,by have:=Tm.ZcJ ht;omega⟩
def flY(S:List Str)(x:Lt)(c:Nat):Lt:=⟨x.kind,x.neg,⟨x.at_.pred,if x.kind=1 then(flT.flTs S x.at_.args c).1 else x.at_.args⟩,x.op,x.L,x.R⟩
def flD(S:List Str)(x:Lt)(c:Nat):List (Nat×Tm):=if x.kind=1 then(flT.flTs S x.at_.args c).2.2 else []
def flN(S:List Str)(x:Lt)(c:Nat):Nat:=if x.kind=1 then(flT.flTs S x.at_.args c).2.1 else c
theorem ZiQ(S:List Str)(x:Lt)(c:Nat):flX S x c=(flY S x c::(flD S x c).map Vl,flN S x c):=by
 unfold flX flY flD flN;split
 ·rfl
 ·rfl
def Zqj(S:List Str)(x:Lt)(c:Nat):List AV:=(flY S x c).enc::(flD S x c).map Je
def WT(S:List Str):List Lt→Nat→List AV
 |[],_=>[]
 |x::r,c=>Zqj S x c++WT S r (flN S x c)
theorem Ze1(S:List Str):∀(p q:List Lt) (c:Nat),WT S (p++q) c=WT S p c++WT S q (Zao S p c)
 |[],q,c=>rfl
 |x::p,q,c=>by
  have:=Ze1 S p q (flN S x c);have e:(flX S x c).2=flN S x c:=by rw[ZiQ]
  simp only[Q9,WT,Zao,e,this,Q7]
theorem ZnH(S:List Str)(l:List Lt)(c i:Nat)(h:i<l.length):WT S (l.take (i+1)) c=WT S (l.take i) c++Zqj S l[i] (Zao S (l.take i) c):=by
 rw[Qn h,Ze1];simp[WT]
variable {n:Nat}
theorem ZpX{c:Nat}:∀v∈Zqj S x c,Below n v∧ones v=true∧v.cells.length=13:=fun v hv=>by
 rcases Qk.1 hv with rfl|hv
 ·exact⟨Lt.blw n _,rfl,rfl⟩
 ·obtain⟨d,_,rfl⟩:=Qb.1 hv;exact⟨ZgA n d,rfl,rfl⟩
theorem Zj0{n:Nat}{S:List Str}:∀{l:List Lt} {c:Nat},∀v∈WT S l c,Below n v∧ones v=true∧v.cells.length=13
 |[],_,v,hv=>by cases hv
 |x::r,c,v,hv=>by
  rcases Qj.1 hv with hv|hv
  ·exact ZpX v hv
  ·exact Zj0 v hv
theorem wkss_append:∀{p q r s:List AV},ZdV p q→ZdV r s→ZdV (p++r) (q++s)
 |[],[],_,_,_,h=>h
 |_::_,_::_,_,_,h1,h2=>⟨h1.1,wkss_append h1.2 h2⟩
 |[],_::_,_,_,h,_=>h.elim
 |_::_,[],_,_,h,_=>h.elim
theorem ZqV(S:List Str)(x:Lt)(c:Nat):ZdV (Zqj S x c) ((flX S x c).1.map Lt.enc):=by
 rw[ZiQ];refine⟨.refl _,?_⟩;generalize flD S x c=ds;induction ds with
 |nil=>trivial
 |cons d ds ih=>exact⟨.Zei ⟨.refl _,.refl _,.refl _,.nil _ _ _,.refl _,.refl _,.refl _,.refl _,.nil _ _ _,.refl _,.refl _,.refl _,.refl _,trivial⟩,ih⟩
theorem Ziz(S:List Str):∀(l:List Lt) (c:Nat),ZdV (WT S l c) ((flL S l c).map Lt.enc)
 |[],_=>trivial
 |x::r,c=>by
  have e:(flX S x c).2=flN S x c:=by rw[ZiQ]
  rw[WT,flL,QG,e];exact wkss_append (ZqV S x c) (Ziz S r _)
theorem Zol(S:List Str)(l:List Lt)(c:Nat):(WT S l c).length=(flL S l c).length:=by
 have:=(Ziz S l c).len;simpa using this.symm
def ZiP(S:List Str)(l:List Lt)(i:Nat):AV:=if i=0 then .sl 13 [] .full else match l[i - 1]? with
 |some x=>.sl 13 ((flD S x (Zao S (l.take (i - 1)) 0)).map Je) .any
 |none=>.sl 13 [] .any
theorem ZkT(S:List Str)(l:List Lt)(i:Nat)(h:i<l.length):ZiP S l (i+1)= .sl 13 ((flD S l[i] (Zao S (l.take i) 0)).map Je) .any:=by
 unfold ZiP;rw[if_neg om,show i+1 - 1=i by omega,Qd h]
theorem Zcd(ds:List (Nat×Tm)):Below n (.sl 13 (ds.map Je) .any):=ZC fun x hx=>by obtain⟨d,_,rfl⟩:=Qb.1 hx;exact ZgA n d
def Zrr(n:Nat)(l:List Lt)(S:List Str)(H:Za)(i:Nat):Zb:=
 ⟨[(53,.int .i64 i),(52,.int .i64 l.length),(51,.sl 13 (l.map Lt.enc) .any),(10,.sl 13 (WT S (l.take i) 0) (.buf n 201)),(5,.ptr n 15 0)],
  [(13,.map (encS S)),(15,.box [.map n 13,.int .i64 (Zao S (l.take i) 0),ZiP S l i]),(201,.buf 54 13 (WT S (l.take i) 0).length)],H⟩
variable {p:Nat→Prop}
theorem Zcj{l:List Lt}{c:Nat}(h:p 201):Inside n p (.sl 13 (WT S l c) (.buf n 201)):=Abs.ZW (fun x hx=>(Zj0 x hx).1) h
theorem ZdK(ds:List (Nat×Tm)):Yi (fun c=>Inside n p c) (flat (ds.map Je)):=Z5 fun c hc=>((ZeI (n:=n) (e:=54) (k:=0) ds).1 c hc).inside
def outO:Opt:=⟨true,true,fun d=>if d=88∨d=93 then .own 201 else .auto,[201]⟩
theorem ZbE(S:List Str):Yi (fun c=>Inside n p c) (List.map (fun x=>x.1) (encS S)++List.map (fun x=>x.2) (encS S)):=Z5 fun c hc=>((WE (n:=n) S).1 c hc).inside
theorem ZaZ{k:Nat}(h:p k):Inside n p (.map n k):=.map _ _ (.inr ⟨rfl,h⟩)
theorem ZlI(x:Lt):[x.L.enc,x.R.enc]++x.at_.args.map Tm.enc=(Yy x).map Tm.enc:=rfl
theorem Zpz{G:Za}{l b m q:Nat}{s:FZs}(h1:G l b=some (.box [.map l m,.int .i64 s.n,.msl 13 l q s.ds.length]))(h2:G l q=some (.Zg 54 13 (flat (s.ds.map Je)) s.ds.length)):fsH G l b m q s=G:=by
 unfold fsH;rw[Yd h2,Yd h1]
theorem Zgh(h:Sm x):((Yy x).flatMap Z8).length≤915:=by
 have h1:=flatMap_vars_len (Yy x);have h2:=h.L;have h3:=h.R;have h4:=h.at_;simp only[Yy,Tm.sz.szs]at h1⊢;omega
theorem Zl1{l:List Lt}(hl:l.length≤10)(hs:∀x∈l,Sm x){used:List Str}(hu:used.length≤10000):(J9 l used).length≤20000:=by
 have h1:=addsN_len (S:=ZO [] used) (l:=l.flatMap fun x=>(Yy x).flatMap Z8);have h2:=addsN_len (S:=[]) (l:=used);have h3:∀q:List Lt,(∀x∈q,Sm x)→(q.flatMap fun x=>(Yy x).flatMap Z8).length≤q.length*915:=by
  intro q;induction q with
  |nil=>intro _;simp
  |cons x q ih=>
   intro h;have a1:=Zgh (h x sm);have a2:=ih fun y hy=>h y (by simp[hy])
   rw[QS,Qh,Qo];omega
 have h4:=h3 l hs;have h5:l.length*915≤10*915:=QD _ hl;simp only[QB]at h2;unfold J9;omega
theorem j26(l:List Lt)(hl:l.length≤10)(hs:∀x∈l,Sm x)(used:List Str)(hu:used.length≤10000):Z4 Tryz.prog 26 [.sl 13 (l.map Lt.enc) .any,eSs used] (.sl 13 ((XQ l used).map Lt.enc) .any):=by
 intro n H hn hT;refine aF Tryz.func26 fun B=>?_
 refine nR ?_;refine nR ?_;refine nR ?_;have hm0:encS (ZO [] [])=[]:=rfl;refine YW (caps:=[]) (avs:=[.map n 13,.sl 1 (YP used) .any]) rfl (Zf Tryz.func40 rfl rfl) (j40 (n+1) _ n 13 (Qr n) [] used om (by simp only[full,if_true];rfl)) (by simp only[go_sem,simprocAttr];rfl) ?_;rintro r H1 ⟨rfl,rfl⟩;refine⟨[(13,.map (encS (ZO [] used))),(15,.box [.map n 13,.int .i64 0,.sl 13 [] .full])],H,(Zm n _ H 13 _).symm,.refl _ _,?_⟩;refine aS ?_;refine nR ?_;refine kK ?_;refine Zr (ZsR n l used H) l.length rfl ?_ ?_
 ·exact KK
 intro i hi;refine Ya rfl ?_;rcases Qg i l.length with h|h
 ·obtain⟨x,hx⟩:∃x,x=l[i]:=⟨_,rfl⟩
  have hxs:=hs _ (Qa h);have hg:=Zp0 l used i h;rw[←hx]at hxs hg;refine nq h ?_;refine nT ?_;refine nr ?_;simp only[go_sem,simprocAttr,Lt.Zp _ _ h,h,←hx];refine nq ZlI ?_;obtain⟨hx1,hx2⟩:=hxs.tx;refine⟨rfl,⟨Zn (by have:=hxs.len;omega),by have:=hxs.len;omega⟩,?_⟩;generalize hq:Yy x=q at hx1 hx2 hg;refine kK ?_;refine Zr (Zt2 n l q (gAt l used i) i H) q.length rfl ?_ ?_
  ·exact KK
  intro j hj;refine Ya rfl ?_;rcases Qg j q.length with h'|h'
  ·have ht:=hx1 _ (Qa h');have hv:=Zes q[j];have hv2:=nm_len.1 q[j];have hstep:ZO (ZO (gAt l used i) ((q.take j).flatMap Z8)) (Z8 q[j])=ZO (gAt l used i) ((q.take (j+1)).flatMap Z8):=by
    rw[Qn h',Ur,Jh];simp
   refine nr ?_;refine aq h' ?_;refine nT ?_;refine nr ?_;simp only[go_sem,simprocAttr,Tm.Zp _ _ h',h'];refine nD flAO ?_;simp only[go_sem,simprocAttr,flAO];refine Zgs (Zf Tryz.func56 rfl rfl) (j56 q[j] ht.1 om) sS ?_;simp only[go_sem,simprocAttr,flAO];refine ZmV rfl (k:=13) (xs:=Z8 q[j]) (S:=ZO (gAt l used i) ((q.take j).flatMap Z8)) om rfl sS ?_;rw[hstep];simp only[go_sem,simprocAttr];refine nR ?_;refine nN ?_;exact KK
  ·have hj':j=q.length:=by omega
   subst hj';rw[QM,←hg];refine nq (QE.2 h') ?_;refine nF ?_;refine nX ?_;refine nR ?_;refine nN ?_;exact KK
 ·have hi':i=l.length:=by omega
  subst hi';have hS:gAt l used l.length=J9 l used:=by unfold gAt J9;rw[QM]
  rw[hS];refine nq (QE.2 h) ?_;refine nF ?_;refine nX ?_;refine nR ?_;refine nR ?_;refine kK ?_;refine XB 10 201 54 13 rfl rfl ?_;refine Zr (Zrr n l (J9 l used) H) l.length rfl ?_ ?_
  ·exact KK
  intro i hi;refine Ya rfl ?_;rcases Qg i l.length with h|h
  ·obtain⟨x,hx⟩:∃x,x=l[i]:=⟨_,rfl⟩
   have hxs:=hs _ (Qa h);rw[←hx]at hxs;refine nq h ?_;refine nT ?_;refine nr ?_;simp only[go_sem,simprocAttr,Lt.Zp _ _ h,h,←hx];refine nR ?_;refine kK ?_;refine ZaR 15 200 2 54 13 rfl rfl rfl ?_;simp only[go_sem,simprocAttr,MJ,UZ];refine Y5 tok mixed drawO rfl rfl rfl ?_;refine aS ?_;refine cT (j49 x.L hxs.good.L) ?_;refine cT (j49 x.R hxs.good.R) ?_;obtain⟨S,hSe⟩:∃S,S=J9 l used:=⟨_,rfl⟩
   obtain⟨c,hc⟩:∃c,c=Zao S (l.take i) 0:=⟨_,rfl⟩
   have hSl:S.length≤20000:=by rw[hSe];exact Zl1 hl hs hu
   have hx3:=hxs.at_;have hcl:c≤61006100:=by
    have h1:=(ZiC (S:=S) (l:=l.take i) (fun y hy=>hs y (UM hy)) 0).1;have h2:(l.take i).length*(305*(S.length+2))≤10*(305*20002):=QaQ (by rw[QI];omega) (Qal _ om);omega
   rw[←hSe,←hc];refine nR ?_;refine kK ?_;refine VU ⟨[(53,.int .i64 i),(52,.int .i64 l.length),(51,.sl 13 (l.map Lt.enc) .any),(10,.sl 13 (WT S (l.take i) 0) (.buf n 201)),(5,.ptr n 15 0),(12,.ptr n 12 0)],
    [(13,.map (encS S)),(201,.buf 54 13 (WT S (l.take i) 0).length),(12,.box (flY S x c).cs),(200,.Zg 54 13 (flat ((flD S x c).map Je)) (flD S x c).length),(15,.box [.map n 13,.int .i64 (flN S x c),.msl 13 n 200 (flD S x c).length])],H⟩ ?_ ?_
   ·by_cases k1:x.kind=1
    ·have e1:(x.kind==1)=true:=by simp[k1]
     have eY:flY S x c=⟨x.kind,x.neg,⟨x.at_.pred,(flT.flTs S x.at_.args c).1⟩,x.op,x.L,x.R⟩:=by unfold flY;rw[if_pos k1]
     have eD:flD S x c=(flT.flTs S x.at_.args c).2.2:=by unfold flD;rw[if_pos k1]
     have eN:flN S x c=(flT.flTs S x.at_.args c).2.1:=by unfold flN;rw[if_pos k1]
     rw[eY,eD,eN];refine VK rfl rfl (by simp only[go_sem,simprocAttr,e1]) ?_;refine nR ?_;obtain⟨L,hL⟩:∃L:List (Nat×Ze),L=[(13,.map (encS S)),(15,.box [.map n 13,.int .i64 c,.msl 13 n 200 0]),(201,.buf 54 13 (WT S (l.take i) 0).length),(12,.box x.cs),(200,.Zg 54 13 [] 0)]:=⟨_,rfl⟩
     simp only[Lt.cs]at hL;rw[←hL];have hself:fsH (full n L H) n 15 13 200 ⟨c,[]⟩=full n L H:=Zpz (by rw[hL];simp[full,lkb]) (by rw[hL];simp[full,lkb,flat]);have hmp:full n L H n 13=some (.map (encS S)):=by rw[hL];simp[full,lkb]
     have hargs:=x.at_.args;refine YW (caps:=[]) (avs:=[.sl 4 (x.at_.args.map Tm.enc) .any,.bfn (.func 71) [.ptr n 15 0]]) (Qc:=fun r H1=>r= .sl 4 ((flT.flTs S x.at_.args c).1.map Tm.enc) .any∧H1=fsH (full n L H) n 15 13 200 (J3 S x.at_.args ⟨c,[]⟩ x.at_.args.length)) rfl (Zf Tryz.func70 rfl rfl) (by
      rw[Qu];have he:=Zt6 (n+1) x.at_.args (by have:=hxs.len;omega) 71 [.ptr n 15 0] _ _ (Zf Tryz.func71 rfl rfl) (flT.flTs S x.at_.args c).1 (Zam S _ c) (fun i=>fsH (full n L H) n 15 13 200 (J3 S x.at_.args ⟨c,[]⟩ i)) ?_ ?_ ?_
      ·simp only[ZhO,hself]at he;exact he
      ·exact .bfn _ _ fun i hi=>by
        simp only[Qo,QB]at hi;have:i=0:=by omega
        subst this;exact .ptr _ _ _ om
      ·intro i h L';have h1:=j71 S n 15 13 200 hn dc dc dc x.at_.args[i] (hxs.good.at_.arg (Qa h)) (n+1+1) (full (n+1) L' (full n L H)) (J3 S x.at_.args ⟨c,[]⟩ i) om (by rw[Zj om];exact hmp) ((hT.full hn).full om) ?_
       ·simp only[Zc8 (show n≠n+1 by omega),ZhQ S x.at_.args _ i h];rw[Zmo S x.at_.args c i h (by rw[Zam];exact h)];exact h1
       ·have h1:=Zhc S x.at_.args c i;have h2:=Zf8 x.at_.args i h;have h3:=Zbu x.at_.args (i+1);have h5:(Tm.sz.szs (x.at_.args.take i)+x.at_.args[i].sz)*(S.length+2)≤305*(S.length+2):=QD _ om;rw[Ue]at h5;have h6:305*(S.length+2)≤305*20002:=Qal _ om;exact⟨om,by simp only[J3];omega,by simp only[J3,QY];omega⟩
      ·intro i h;exact Zh5 om dc) sS ?_
     rintro r H1 ⟨rfl,rfl⟩;have hend:J3 S x.at_.args ⟨c,[]⟩ x.at_.args.length=⟨(flT.flTs S x.at_.args c).2.1,(flT.flTs S x.at_.args c).2.2⟩:=by unfold J3;rw[QM];rfl
     refine⟨setb (setb L 200 (.Zg 54 13 (flat ((flT.flTs S x.at_.args c).2.2.map Je)) (flT.flTs S x.at_.args c).2.2.length)) 15 (.box [.map n 13,.int .i64 (flT.flTs S x.at_.args c).2.1,.msl 13 n 200 (flT.flTs S x.at_.args c).2.2.length]),H,by rw[hend];unfold fsH;rw[Zm,Zm],.refl _ _,?_⟩;rw[hL];refine aS ?_;refine nN ?_;refine⟨rfl,?_⟩;exact KK
    ·have e1:(x.kind==1)=false:=by simp[k1]
     have eY:flY S x c=x:=by unfold flY;rw[if_neg k1]
     have eD:flD S x c=[]:=by unfold flD;rw[if_neg k1]
     have eN:flN S x c=c:=by unfold flN;rw[if_neg k1]
     rw[eY,eD,eN];refine VB rfl rfl (by simp only[go_sem,simprocAttr,e1]) ?_;refine nR ?_;refine cT (j70 x.at_.args (by have:=hxs.len;omega) 49 [] id ⟨⟨_,_,Zf Tryz.func49 rfl rfl⟩,fun u hu=>j49 u (hxs.good.at_.arg hu),fun _=>trivial⟩) ?_;refine nN ?_;refine⟨rfl,?_⟩;rw[Qbn];exact KK
   have hT200:∀p∈([(53,.int .i64 i),(52,.int .i64 l.length),(51,.sl 13 (l.map Lt.enc) .any),(10,.sl 13 (WT S (l.take i) 0) (.buf n 201)),(5,.ptr n 15 0),(12,.ptr n 12 0)]:List (Nat×AV)),p.1≠60∧Wk p.2 p.2∧Inside n (fun k=>k≠200) p.2:=by
    intro p hp;simp only[Qk,Qy,or_false]at hp;rcases hp with rfl|rfl|rfl|rfl|rfl|rfl
    ·exact⟨sm,.refl _,.int _ _⟩
    ·exact⟨sm,.refl _,.int _ _⟩
    ·exact⟨sm,.refl _,(Yb l).inside⟩
    ·exact⟨sm,.refl _,Zcj dc⟩
    ·exact⟨sm,.refl _,.ptr _ _ _ (.inr ⟨rfl,dc⟩)⟩
    ·exact⟨sm,.refl _,.ptr _ _ _ (.inr ⟨rfl,dc⟩)⟩
   refine ZK (YX (tm':=[(53,.int .i64 i),(52,.int .i64 l.length),(51,.sl 13 (l.map Lt.enc) .any),(10,.sl 13 (WT S (l.take i) 0) (.buf n 201)),(5,.ptr n 15 0),(12,.ptr n 12 0)]) (av':=.sl 13 ((flD S x c).map Je) .any) (j0:=15) (i:=2) (j:=200) 60 (show 60<Tryz.f26.ntmps by decide) ((flD S x c).map Je) dc rfl rfl (.inl ⟨13,rfl,rfl⟩) rfl rfl (by rw[Qv]) (fun y hy=>by obtain⟨d,_,rfl⟩:=Qb.1 hy;rfl) (ZdK _).mem ?_ ?_) ?_
   ·intro p hp;have h1:=hT200 p hp;simp only[Qk,Qy,or_false]at hp;rcases hp with rfl|rfl|rfl|rfl|rfl|rfl<;>exact h1
   ·exact(show Yi (fun p:Nat×Ze=>p.2.Inside n (fun k=>k≠200)) [(13,.map (encS S)),(201,.buf 54 13 (WT S (l.take i) 0).length),(12,.box (flY S x c).cs),(15,.box [.map n 13,.int .i64 (flN S x c),.dead])] from
     ⟨(WE S).inside,⟨fun a ha=>(by cases ha),fun p hp=>(by cases hp)⟩,Ze.ZA (Z5 fun a ha=>((flY S x c).bcs.mem a ha).inside),Ze.ZA ⟨.map _ _ (.inr ⟨rfl,dc⟩),.int _ _,.dead,trivial⟩,trivial⟩).mem
   simp only[go_sem,simprocAttr,setb,delb,MJ,UZ];have hyc:(flY S x c).cs.length=13:=rfl;refine kK ?_;refine nD outO ?_;simp only[go_sem,simprocAttr,outO,Uz,Nat.reduceBEq,U0,U5,Nat.reduceEqDiff];have hrt:WT S (l.take (i+1)) 0=WT S (l.take i) 0++[(flY S x c).enc]++(flD S x c).map Je:=by
    rw[ZnH S l 0 i h,←hx,←hc,Q7];rfl
   have hnt:Zao S (l.take (i+1)) 0=flN S x c:=by
    rw[(Zpt S l 0 i h).2,←hx,←hc,ZiQ]
   have hma:ZiP S l (i+1)= .sl 13 ((flD S x c).map Je) .any:=by rw[ZkT S l i h,←hx,←hc]
   have hl1:(WT S (l.take i) 0).length≤3060:=by
    rw[Zol];have h1:=(ZiC (S:=S) (l:=l.take i) (fun y hy=>hs y (UM hy)) 0).2;have h2:(l.take i).length≤10:=by rw[QI];omega
    omega
   have hl2:(flD S x c).length≤305:=by
    unfold flD;split
    ·have:=((ZcL S).2 x.at_.args c).2;omega
    ·simp
   have hl3:(WT S (l.take i) 0++[(flY S x c).enc]).length=(WT S (l.take i) 0).length+1:=by simp
   have hl4:(WT S (l.take i) 0++[(flY S x c).enc]++(flD S x c).map Je).length=(WT S (l.take i) 0++[(flY S x c).enc]).length+(flD S x c).length:=by simp only[Qh,Qv]
   refine⟨rfl,⟨Zn om,om⟩,⟨hl3.symm,fun y hy=>by obtain⟨d,_,rfl⟩:=Qb.1 hy;rfl,Zn om,om⟩,?_⟩;refine nR ?_;refine nN ?_;unfold Zrr;rw[hnt,hma,hrt,hl4];have hob:∀p:Nat→Prop,p 201→Inside n p (.sl 13 (WT S (l.take i) 0++[(flY S x c).enc]++(flD S x c).map Je) (.buf n 201)):=fun p h=>by rw[←hrt];exact Zcj h
   exact KK
  ·have hi':i=l.length:=by omega
   subst hi';refine nq (QE.2 h) ?_;refine nF ?_;refine nX ?_;refine nt0 ?_;refine nV ?_;refine Zc ?_ (Yb _) rfl;rw[←Zks];refine aS ?_;exact .deep (WkS.slL (Ziz _ l 0))
end
structure BA (b:Bnd) (a:Am):Prop where
 gb:ZP b
 len:b.length≤100000
 good:a.Good
 sz:Tm.sz.szs a.args≤305
theorem BA.arg{b:Bnd}{a:Am}(h:BA b a){t:Tm}(ht:t∈a.args):t.Good∧(ZN b t).Good:=
 ⟨h.good.arg ht,ZjS h.gb (h.good.nm t ht) (by have:=Tm.ZcJ ht;have:=h.sz;omega)⟩
theorem Zhk{b:Bnd}:∀{l:List Tm} {c:Int} {i:Nat} (h:i<l.length),(∀j (hj:j<l.length),j<i→Zu (ZN b l[j])=false)→Zu (ZN b l[i])=true→Ju b l c=some (c+i,ZN b l[i])
 |t::r,c,0,_,_,hv=>by
  have hv:Zu (ZN b t)=true:=hv;rw[Ju,if_pos hv];simp
 |t::r,c,i+1,h,h1,hv=>by
  have h0:=h1 0 sm om;simp only[Ud]at h0;rw[Ju,if_neg (by simp[h0]),Zhk (l:=r) (i:=i) (by simpa using h) (fun j hj hji=>h1 (j+1) (by simpa using hj) om) hv];simp only[UW,Int.natCast_add];congr 2;omega
theorem Ze5{b:Bnd}:∀{l:List Tm} {c:Int},(∀t∈l,Zu (ZN b t)=false)→Ju b l c=none
 |[],_,_=>rfl
 |t::r,c,h=>by
  rw[Ju,if_neg (by simp[h t sm])];exact Ze5 fun u hu=>h u (by simp[hu])
def Zuj(l bx:Nat)(n:Nat)(a:Am)(b:Bnd)(H:Za)(i:Nat):Zb:=
 ⟨[(13,.int .i64 i),(12,.int .i64 a.args.length),(11,.sl 4 (a.args.map Tm.enc) .any),(4,.ptr n 4 0),(0,.ptr l bx 0),(2,Zk b)],[(4,.box a.cs)],H⟩
theorem ZuI(n:Nat)(H:Za)(l bx ls bs:Nat)(hl:l<n)(hls:ls<n)(mp td:AV)(now:List Bnd)(hbx:H l bx=some (prB mp (.ptr ls bs 0) now td))(s:Sto)(hs:Yf H ls bs s)(hok:Ok s)(hn:0<n)(hT:Tabs H)(a:Am)(b:Bnd)(h:BA b a):
  PC Tryz.prog n 140 [.ptr l bx 0,a.enc,Zk b] H (.sl 2 ((Vj s.A a b).map Am.enc) .any):=by
 have hne:¬l=n:=by omega
 have hal:=h.good.len;refine aF Tryz.func140 fun B=>?_
 refine nR ?_;refine nR ?_;refine kK ?_;refine Yc (Zuj l bx n a b H) (fun i=>∀j (hj:j<a.args.length),j<i→Zu (ZN b a.args[j])=false) a.args.length rfl ?_ (fun j _ hj=>absurd hj (Qm _)) ?_
 ·exact KK
 intro i hi hq;refine Ya rfl ?_;rcases Qg i a.args.length with hlt|hge
 ·have hg:=h.arg (Qa hlt);refine nq hlt ?_;refine nT ?_;refine nr ?_;simp only[go_sem,simprocAttr,Tm.Zp _ _ hlt,hlt];refine nR ?_;refine cT (ZrQ b h.gb.asc (by have:=h.len;omega) a.args[i] hg.1) ?_;refine nR ?_;refine cT (a37 (ZN b a.args[i]) hg.2) ?_;cases hv:Zu (ZN b a.args[i])with
  |true=>
   have hf:=Zhk (c:=0) hlt hq hv;have hc:Vj s.A a b=Zl9 s.A a.sg (i:Int) (ZN b a.args[i]):=by rw[Vj,hf];simp
   refine nT ?_;refine nD drawO ?_;simp only[go_sem,simprocAttr,hne,hbx,prB];refine cP (a56 a) ?_;have hix:=hok.ixR (⟨a.sg,(i:Int),txt (ZN b a.args[i])⟩:Ak);refine cQ (a32 (n+1) _ ls bs s a.sg (i:Int) (ZN b a.args[i]) hg.2 om (hs.full hls _) hok.g om (hT.full hn) hix.1 hix.2) ?_;simp only[go_sem,simprocAttr];refine nW ?_;rw[hc,←hok.find _ _ hv];simp only[hv,if_true];exact Zc (.refl _) (YM _) rfl
  |false=>
   refine nF ?_;refine nR ?_;refine nN ?_;refine⟨fun j hj hji=>?_,?_⟩
   ·rcases Qg j i with h'|h'
    ·exact hq j hj h'
    ·have:j=i:=by omega
     subst this;exact hv
   ·exact KK
 ·have hf:Ju b a.args 0=none:=Ze5 fun t ht=>by
   obtain⟨j,hj,rfl⟩:=QJ ht;exact hq j hj om
  have hc:Vj s.A a b=Zsh s.A a.sg:=by rw[Vj,hf]
  refine nr ?_;refine aq (QE.2 hge) ?_;refine nF ?_;refine nX ?_;refine nD drawO ?_;simp only[go_sem,simprocAttr,hne,hbx,prB];refine cP (a56 a) ?_;have hix:=hok.ixS a.sg;refine cQ (a30 (n+1) _ ls bs s a.sg om (hs.full hls _) hok.g om (hT.full hn) hix.1 hix.2) ?_;simp only[go_sem,simprocAttr];refine nV ?_;rw[hc,←hok.all];exact Zc (.refl _) (YM _) rfl
theorem ZoP{A:List Am}{a:Am}{b:Bnd}:∀x∈Vj A a b,x∈A∧x.sg=a.sg:=fun x hx=>by
 unfold Vj at hx;split at hx
 ·obtain⟨h1,h2⟩:=MH.1 hx;simp only[Zj8,Qi,beq_iff_eq]at h2;exact⟨h1,h2.1.1.1⟩
 ·obtain⟨h1,h2⟩:=MH.1 hx;exact⟨h1,by simpa using h2⟩
theorem ZkE(A:List Am)(a:Am)(b:Bnd):(Vj A a b).length≤A.length:=by
 unfold Vj;split
 ·exact UH _ _
 ·exact UH _ _
def atS(A:List Am)(a:Am)(b:Bnd):List Bnd×Int:=((Vj A a b).filterMap fun x=>matT.matL a.args x.args b,0)
def ZoL(a:Am)(b:Bnd)(l bx:Nat)(cs:List Am)(n:Nat)(H:Za)(i:Nat):Zb:=
 ⟨[(16,.int .i64 i),(15,.int .i64 cs.length),(14,.sl 2 (cs.map Am.enc) .any),(6,.sl 1 (((cs.take i).filterMap fun x=>matT.matL a.args x.args b).map Zk) (.buf n 200)),(0,Zk b),(2,.iptr a.cs)],
  [(200,.buf 34 1 ((cs.take i).filterMap fun x=>matT.matL a.args x.args b).length)],H⟩
theorem Zvo(n:Nat)(H:Za)(l bx ls bs:Nat)(hl:l<n)(hls:ls<n)(mp td:AV)(now:List Bnd)(hbx:H l bx=some (prB mp (.ptr ls bs 0) now td))(s:Sto)(hs:Yf H ls bs s)(hok:Ok s)(hn:0<n)(hT:Tabs H)(a:Am)(b:Bnd)(h:BA b a):
  PC Tryz.prog n 139 [Zk b,.iptr [.ptr l bx 0],.iptr a.cs] H (.tup [.sl 1 ((atS s.A a b).1.map Zk) .any,eInt (atS s.A a b).2]):=by
 have hai:∀p,Inside n p (.iptr a.cs):=fun p=>(Zl a.bcs).inside
 have hcm:=ZoP (A:=s.A) (a:=a) (b:=b);have hcl:=Uw (ZkE s.A a b) hok.A;have hbs:∀(q:List Bnd) (p:Nat→Prop),p 200→Inside n p (.sl 1 (q.map Zk) (.buf n 200)):=fun q p h=>Abs.ZW (fun x hx=>by obtain⟨u,_,rfl⟩:=Qb.1 hx;exact Zx n u) h
 have hat:atS s.A a b=((Vj s.A a b).filterMap fun x=>matT.matL a.args x.args b,0):=rfl;rw[hat];refine aF Tryz.func139 fun B=>?_
 refine nR ?_;refine nR ?_;refine nR ?_;refine cQ (ZuI (n+1) _ l bx ls bs om om mp td now (by rw[Zj hl];exact hbx) s (hs.full hls _) hok om (hT.full hn) a b h) ?_;generalize Vj s.A a b=cs at hcm hcl⊢;refine aS ?_;refine kK ?_;refine XB 6 200 34 1 rfl rfl ?_;refine Zr (ZoL a b l bx cs n H) cs.length rfl ?_ ?_
 ·exact KK
 intro i hi;refine Ya rfl ?_;rcases Qg i cs.length with hlt|hge
 ·have hx:=hcm _ (Qa hlt);have hxl:a.args.length=cs[i].args.length:=by
   have:=congrArg Sg.n hx.2;simp only[Am.sg]at this;omega
  have hxg:=hok.g _ hx.1;have hm:=Zs0 a.args cs[i].args b hxl (fun t ht=>(h.arg ht).1) (fun u hu=>hxg.arg hu) h.gb.gb (by have:=h.len;have:=h.sz;omega);have hfl:=Qa5 (fun x=>matT.matL a.args x.args b) (cs.take i);have hfl2:(cs.take i).length≤2000:=by rw[QI];omega
  have hstep:(cs.take (i+1)).filterMap (fun x=>matT.matL a.args x.args b)=(cs.take i).filterMap (fun x=>matT.matL a.args x.args b)++(matT.matL a.args cs[i].args b).toList:=by
   rw[Qn hlt,List.filterMap_append];congr 1
  refine nq hlt ?_;refine nT ?_;refine nr ?_;simp only[go_sem,simprocAttr,Am.Zp _ _ hlt,hlt];refine nR ?_;refine cP (hm) ?_;obtain e|⟨d,e⟩:matT.matL a.args cs[i].args b=none∨ ∃d,matT.matL a.args cs[i].args b=some d:=by cases matT.matL a.args cs[i].args b<;>simp
  ·rw[e,Option.toList_none,Qu]at hstep;simp only[go_sem,simprocAttr,ZlP,e,GY,Qa6];refine nR ?_;refine nF ?_;refine nR ?_;refine nN ?_;unfold ZoL;rw[hstep];exact KK
  ·rw[e,Option.toList_some]at hstep;simp only[go_sem,simprocAttr,ZlP,e,G5,Um];refine nR ?_;refine nT ?_;refine nR ?_;refine⟨rfl,⟨Zn om,om⟩,?_⟩;refine nR ?_;refine nN ?_;unfold ZoL;rw[hstep,QG,Qh];refine Zh ?_ ?_ ?_ ?_<;>repeat' first|apply q0|exact xx|apply aI
   all_goals first|exact(Zx n b).inside|exact hai _|exact(YM _).inside|(rw[←List.map_append];exact hbs _ _ rfl)|exact hbs (_++[d]) _ rfl|(simp only[go_sem,simprocAttr];rw[iw];exact .refl _)
 ·have hi':i=cs.length:=by omega
  subst hi';refine nq (QE.2 hge) ?_;refine nF ?_;refine nX ?_;refine nt0 ?_;refine nV ?_;exact ZG (.any _ _ _) (.refl _) (Zw _) (.int _ _) rfl
theorem j93(n:Nat)(H:Za)(hT:Tabs H)(hn:0<n)(l bx ls bs:Nat)(hl:l<n)(hls:ls<n)(mp td:AV)(now:List Bnd)(hnow:now.length≤1000000)(hbx:H l bx=some (prB mp (.ptr ls bs 0) now td))(hmp:Below n mp∧Below n td)(s:Sto)(hs:Yf H ls bs s)(hok:Ok s)(a:Am)(hx:∀c∈now,BA c a):
  Zi Tryz.prog n 93 [.ptr l bx 0,a.enc] H fun r H'=>r=eInt (Go.Abs.Xe (atS s.A a) now).2∧H'=H.upd l bx (prB mp (.ptr ls bs 0) (Go.Abs.Xe (atS s.A a) now).1 td):=by
 have hne:l≠n:=by omega
 refine aF Tryz.func93 fun B=>?_
 refine nR ?_;refine kK ?_;refine ZY 2 [.ptr l bx 0] [(0,.ptr l bx 0),(2,.iptr [.ptr l bx 0]),(3,.ptr n 3 0)] rfl ⟨.ptr _ _ _ (.inl hl),trivial⟩ ?_ ⟨Ze.ZA (Z5 fun c hc=>(a.bcs.mem c hc).inside),trivial⟩ ?_
 ·exact⟨.inl ⟨.refl _,.ptr _ _ _ (.inl hl)⟩,.inr ⟨0,rfl,rfl⟩,.inl ⟨.refl _,.ptr _ _ _ (.inr ⟨rfl,dc⟩)⟩,trivial⟩
 refine aS ?_;refine ZY 3 a.cs [(0,.ptr l bx 0),(2,.iptr [.ptr l bx 0]),(3,.iptr a.cs)] rfl ?_ ?_ trivial ?_
 ·exact Z5 fun c hc=>(a.bcs.mem c hc).inside
 ·exact⟨.inl ⟨.refl _,.ptr _ _ _ (.inl hl)⟩,.inl ⟨.refl _,(Zl (cs:=[.ptr l bx 0]) ⟨.ptr _ _ _ hl,trivial⟩).inside⟩,.inr ⟨0,rfl,rfl⟩,trivial⟩
 refine nR ?_;refine YW (caps:=[]) (avs:=[.ptr l bx 0,.fn (.func 139) [.iptr [.ptr l bx 0],.iptr a.cs]]) rfl (Zf Tryz.func130 rfl rfl) (j130 (n+1) _ l bx om mp (.ptr ls bs 0) td now hnow (by rw[Zj hl];exact hbx) ⟨hmp.1.mono om,.ptr _ _ _ om,hmp.2.mono om⟩ 139 [.iptr [.ptr l bx 0],.iptr a.cs] (atS s.A a)
  ⟨⟨_,_,Zf Tryz.func139 rfl rfl⟩,fun c hc m H1 hm hH1=>?_,fun m hm=>⟨Zl (cs:=[.ptr l bx 0]) ⟨.ptr _ _ _ om,trivial⟩,Zl a.bcs,trivial⟩⟩ (fun c hc=>by
   have h1:=ZkE s.A a c;have h2:=hok.A;have h3:=Qa5 (fun x=>matT.matL a.args x.args c) (Vj s.A a c);simp only[atS];omega)) sS ?_
 ·exact Zvo m H1 l bx ls bs om om mp td now (by rw[hH1 _ _ om,Zj hl];exact hbx) s (fun k x hk=>by rw[hH1 _ _ om,Zj hls];exact hs k x hk) hok om (hT.up fun k=>by rw[hH1 _ _ om];exact Zj hn _ _ _) a c (hx c hc)
 rintro r H1 ⟨rfl,rfl⟩;refine⟨[],H.upd l bx (prB mp (.ptr ls bs 0) (Go.Abs.Xe (atS s.A a) now).1 td),(Yj n _ H l bx _ hne).symm,.upd (Ze.ZB ⟨hmp.1,.ptr _ _ _ hls,Zw _,hmp.2,trivial⟩),?_⟩;refine aS ?_;refine nV ?_;exact Zo (.refl _) (.int _ _) ⟨rfl,rfl⟩
theorem ZjI(m:Nat)(h:m≤100000000):(newV m).length≤140737488355328:=by
 have:=Lib.itoa_length_le (m:Int) om om;unfold newV;rw[Qo];omega
def totD(ds:List (Nat×Tm)):Nat:=(ds.map fun d=>d.2.sz+1).sum
theorem Zjp(p q:List (Nat×Tm)):totD (p++q)=totD p+totD q:=by simp[totD]
theorem ZrC(S:List Str):(∀t c,(flT S t c).1.sz+totD (flT S t c).2.2≤3*t.sz)∧ ∀l c,Tm.sz.szs (flT.flTs S l c).1+totD (flT.flTs S l c).2.2≤3*Tm.sz.szs l:=by
 refine Ws (fun k n s l ih c=>?_) (fun c=>by simp[flT.flTs,Tm.sz.szs,totD]) fun t r h1 h2 c=>?_
 ·by_cases hk:k=5∨k=6
  ·rw[WY hk];simp only[totD,Qs,Uy,QaA,List.sum_nil,Tm.sz,Tm.sz.szs];omega
  ·rw[WX hk];have:=ih c;simp only[Tm.sz];omega
 ·have a1:=h1 c;have a2:=h2 (flT S t c).2.1;simp only[flT.flTs,Tm.sz.szs,Zjp];omega
theorem ZtW(S:List Str)(B:Nat)(hB:B≤100000000):(∀t c,t.Nm→c+t.sz*(S.length+2)≤B→(flT S t c).1.Nm∧(flT S t c).1.sz≤t.sz∧ ∀d∈(flT S t c).2.2,d.1≤B∧d.2.Nm∧d.2.sz≤t.sz)∧
  ∀l c,(∀t∈l,t.Nm)→c+Tm.sz.szs l*(S.length+2)≤B→(∀t∈(flT.flTs S l c).1,t.Nm)∧Tm.sz.szs (flT.flTs S l c).1≤Tm.sz.szs l∧(flT.flTs S l c).1.length=l.length∧ ∀d∈(flT.flTs S l c).2.2,d.1≤B∧d.2.Nm∧d.2.sz≤Tm.sz.szs l:=by
 refine Ws (fun k n s l ih c h hc=>?_) (fun c _ _=>by simp[flT.flTs,Tm.sz.szs]) fun t r h1 h2 c h hc=>?_
 ·by_cases hk:k=5∨k=6
  ·have hm:=((ZcL S).1 (.mk k n s l) c).1;rw[WY hk]at hm⊢;have hm:XD S c≤c+(Tm.mk k n s l).sz*(S.length+2):=hm;have hz:=(Tm.mk k n s l).Zc1;refine⟨.mk _ _ _ _ (ZjI _ om) dc dc sm (fun u hu=>by cases hu),by simp only[Tm.sz,Tm.sz.szs];omega,fun d hd=>?_⟩;simp only[Ql]at hd;subst hd;exact⟨om,h,Qe _⟩
  ·rw[WX hk];cases h with|mk _ _ _ _ a1 a2 a3 a4 a5=>
   have hsz:Tm.sz.szs l*(S.length+2)≤(Tm.mk k n s l).sz*(S.length+2):=QD _ (by simp only[Tm.sz];omega);obtain⟨b1,b2,b3,b4⟩:=ih c a5 om;refine⟨.mk _ _ _ _ a1 a2 a3 (by rw[b3];exact a4) b1,by simp only[Tm.sz];omega,fun d hd=>?_⟩;obtain⟨c1,c2,c3⟩:=b4 d hd;exact⟨c1,c2,by simp only[Tm.sz];omega⟩
 ·simp only[Tm.sz.szs,Ue]at hc;obtain⟨a1,a2,a3⟩:=h1 c (h t sm) om;have hm:=((ZcL S).1 t c).1;obtain⟨b1,b2,b3,b4⟩:=h2 (flT S t c).2.1 (fun u hu=>h u (by simp[hu])) om;simp only[flT.flTs,Tm.sz.szs,Qo];refine⟨fun u hu=>?_,om,om,fun d hd=>?_⟩
  ·rcases Qk.1 hu with rfl|hu
   ·exact a1
   ·exact b1 u hu
  ·rcases Qj.1 hd with hd|hd
   ·obtain⟨c1,c2,c3⟩:=a3 d hd;exact⟨c1,c2,om⟩
   ·obtain⟨c1,c2,c3⟩:=b4 d hd;exact⟨c1,c2,om⟩
theorem Zq1{d:Nat×Tm}(h1:d.1≤100000000)(h2:d.2.Nm)(h3:d.2.sz≤305):Sm (Vl d):=
 ⟨⟨⟨by simp[Vl],by simp[Vl,Am.sz,Tm.sz.szs],fun t ht=>by cases ht⟩,⟨by simp[Vl,Tm.sz,Tm.sz.szs],.mk _ _ _ _ (ZjI _ h1) dc dc sm (fun u hu=>by cases hu)⟩,⟨by show d.2.sz≤_;omega,h2⟩⟩,
  by simp[Vl,Tm.sz,Tm.sz.szs],h3,by simp[Vl,Tm.sz.szs]⟩
theorem Zo4{S:List Str}(hS:S.length≤20000):∀(l:List Lt) (c:Nat),(∀x∈l,Sm x)→c+l.length*(305*(S.length+2))≤100000000→ ∀y∈flL S l c,Sm y∧(0≤y.op∧y.op≤255∨ ∃x∈l,y.op=x.op)
 |[],_,_,_,y,hy=>by cases hy
 |x::r,c,hs,hc,y,hy=>by
  have hx:=hs x sm;have hat:=hx.at_;have hxc:(flX S x c).2≤c+305*(S.length+2):=by
   by_cases hk:x.kind=1
   ·rw[JB hk];have:=((ZcL S).2 x.at_.args c).1;have h2:Tm.sz.szs x.at_.args*(S.length+2)≤305*(S.length+2):=QD _ hat;show(flT.flTs S x.at_.args c).2.1≤_;omega
   ·rw[(Jc hk).1];exact Gu _ _
  rw[Qo,Ue,QaF]at hc;rw[flL,Qj]at hy;rcases hy with hy|hy
  ·by_cases hk:x.kind=1
   ·rw[JB hk]at hy;have h2:Tm.sz.szs x.at_.args*(S.length+2)≤305*(S.length+2):=QD _ hat;obtain⟨b1,b2,b3,b4⟩:=(ZtW S 100000000 (Qe _)).2 x.at_.args c hx.good.at_.nm om;rcases Qk.1 hy with rfl|hy
    ·have hg:=hx.good.at_;have hgs:=hg.sz;simp only[Am.sz]at hgs;exact⟨⟨⟨⟨hg.pred,by simp only[Am.sz];omega,b1⟩,hx.good.L,hx.good.R⟩,hx.L,hx.R,by show Tm.sz.szs (flT.flTs S x.at_.args c).1≤_;omega⟩,.inr ⟨x,sm,rfl⟩⟩
    ·obtain⟨d,hd,rfl⟩:=Qb.1 hy;rw[dfX,if_pos hk]at hd;obtain⟨c1,c2,c3⟩:=b4 d hd;exact⟨Zq1 c1 c2 om,.inl (by simp[Vl])⟩
   ·rw[(Jc hk).1]at hy;simp only[Ql]at hy;subst hy;exact⟨hx,.inr ⟨y,sm,rfl⟩⟩
  ·obtain⟨h1,h2⟩:=Zo4 hS r (flX S x c).2 (fun z hz=>hs z (by simp[hz])) om y hy;refine⟨h1,?_⟩;rcases h2 with h2|⟨z,hz,h2⟩
   ·exact .inl h2
   ·exact .inr ⟨z,by simp[hz],h2⟩
theorem defs_vars:∀ds:List (Nat×Tm),((ds.map Vl).flatMap ZJ).length≤totD ds
 |[]=>by simp[totD]
 |d::ds=>by
  have h1:=defs_vars ds;have h2:(ZJ (Vl d)).length≤d.2.sz+1:=by
   have:=flatMap_vars_len [(Vl d).L,(Vl d).R];simp only[Tm.sz.szs]at this;unfold ZJ;rw[if_pos (by rfl)];have e:(Vl d).L.sz=1:=rfl;have e2:(Vl d).R.sz=d.2.sz:=rfl;omega
  simp only[Qs,QS,Qh,totD,QaA]at h1⊢;omega
theorem Zjq{S:List Str}:∀(l:List Lt) (c:Nat),(∀x∈l,Sm x)→((flL S l c).flatMap ZJ).length≤l.length*1525∧(flL S l c).length≤l.length*916
 |[],_,_=>by simp[flL]
 |x::r,c,hs=>by
  obtain⟨h1,h2⟩:=Zjq r (flX S x c).2 fun z hz=>hs z (by simp[hz])
  have hx:=hs x sm;have hat:=hx.at_;have hv:=hx.tv.2.2;simp only[flL,Ur,Qh,Qo,Ue];generalize flL S r (flX S x c).2=R at h1 h2⊢;by_cases hk:x.kind=1
  ·have ht:=(ZrC S).2 x.at_.args c;have hf:=((ZcL S).2 x.at_.args c).2;have hd:=defs_vars (flT.flTs S x.at_.args c).2.2;have h3:=flatMap_vars_len (flT.flTs S x.at_.args c).1;rw[JB hk,dfX,if_pos hk];simp only[QS,Qh,Qo,Qv];have h4:(ZJ {x with at_:=⟨x.at_.pred,(flT.flTs S x.at_.args c).1⟩}).length≤Tm.sz.szs (flT.flTs S x.at_.args c).1:=by
    unfold ZJ;rw[if_neg (by show¬x.kind=2;omega)];exact h3
   omega
  ·rw[(Jc hk).1];simp only[QS,List.flatMap_nil,Qu,Qo,QB];omega
theorem Zox{cx:Cx}(hP:cx.P=Tryz.prog){o:Oper}{args:List Operand}{ts:List TypeId}{tm:List (Nat×AV)}{L:List (Nat×Ze)}{H:Za}{l k:Nat}{S xs:List Str}{K:Zb→Prop}(hl:l<cx.n)(hlen:xs.length≤1000000)(hk:H l k=some (.map (encS S)))
  (ha:Yo cx.T (evT tm) args ts=[.map l k,.sl 1 (YP xs) .any]) (h:K ⟨Yl tm o.dst (.tup []),L,H.upd l k (.map (encS (ZO S xs)))⟩):Zet cx o (.func 40) args ts ⟨tm,L,H⟩ K:=by
 obtain⟨P,T,φ,n,N⟩:=cx;dsimp only at hP ha h hl;subst hP;refine⟨40,_,_,[],.tup [],L,H.upd l k (.map (encS (ZO S xs))),rfl,Zf Tryz.func40 rfl rfl,?_,.upd (WE _),h⟩;rw[Qu,ha];show Zi _ _ _ _ _ fun r' H1=>r'=_∧H1=full n L (H.upd l k _)
 rw[Yj n _ _ _ _ _ om];exact j40 (n+1) _ l k om S xs hlen (by rw[Zj hl];exact hk)
def al84:Opt:=⟨true,true,fun d=>if d=12 then .heap else if d=13 then .call else .auto,[]⟩
theorem Zr7{k l:Nat}(ls:List Lt)(h:ls.length≤1000000)(hk:k=13):Zkv k l (ls.map Lt.enc):=⟨by simpa using h,fun x hx=>by
 obtain⟨y,_,rfl⟩:=Qb.1 hx;subst hk;exact⟨rfl,rfl,y.blw l⟩⟩
def Zat(p q:List Lt):List AV:=(p++q).map Lt.enc++[zLit]
theorem _root_.Go.Abs.Ze.Zhx{n m:Nat}(p q:List Lt):Ze.Below n (.Zg 54 13 (flat (Zat p q)) m):=⟨fun c hc=>by
 obtain⟨y,hy,hc⟩:=Qz.1 hc;rcases Qj.1 hy with hy|hy
 ·obtain⟨z,_,rfl⟩:=Qb.1 hy;exact Below.cells (z.blw n) c hc
 ·rw[Ql]at hy;subst hy;exact Zjc.mem c hc,by simp[Ze.at_]⟩
theorem k84(n:Nat)(H:Za)(hT:Tabs H)(l bx mk lv kv kq:Nat)(hl:l<lv)(hlv:lv<n)(h0:0<l)(hkq:kv≠kq)(sp nw td:AV)(hbx:H l bx=some (.box [.map l mk,sp,nw,td]))(S:List Str)(hm:H l mk=some (.map (encS S)))
  (p q:List Lt) (x:Lt) (hx:Sm x) (hlen:(p++x::q).length≤1000000) (hv:H lv kv=some (.box [.sl 13 ((p++x::q).map Lt.enc) .any])) (hq:H lv kq=none):
  Zi Tryz.prog n 84 [.int .i64 p.length,.iptr [.ptr l bx 0],.ptr lv kv 0] H fun r H'=>r= .tup []∧
   H'=((H.upd l mk (.map (encS (ZO S (ZJ x))))).upd lv kq (.Zg 54 13 (flat (Zat p q)) (p++x::q).length)).upd lv kv (.box [.sub 13 lv kq (p++x::q).length 0 (p++q).length]):=by
 have hne:¬l=n:=by omega
 have hnv:¬lv=n:=by omega
 have hn:0<n:=by omega
 have hll:¬lv=l:=by omega
 have hvl:=hx.tv.2.2;refine aF Tryz.func84 fun B=>?_
 refine nD al84 ?_;have hpl:p.length<(p++x::q).length:=by simp
 have hgx:((p++x::q).map Lt.enc).getD p.length .dead=x.enc:=by simp
 simp only[go_sem,simprocAttr,al84,hne,hnv,hbx,hv,hpl,hgx];refine ZbR (Zf Tryz.func41 rfl rfl) (fun G hG=>j41 x hx (n+1) G om (XU hG▸hT.full hn)) sS ?_;simp only[go_sem,simprocAttr,al84];refine Zox rfl (k:=mk) (l:=l) (xs:=ZJ x) (S:=S) (show l<n by omega) om hm (by simp only[go_sem,simprocAttr];rfl) ?_;obtain⟨H2,hH2⟩:∃H2,H2=H.upd l mk (.map (encS (ZO S (ZJ x)))):=⟨_,rfl⟩
 have hv2:H2 lv kv=some (.box [.sl 13 ((p++x::q).map Lt.enc) .any]):=by rw[hH2];simp only[Za.upd,hll,false_and,if_false];exact hv
 have hq2:H2 lv kq=none:=by rw[hH2];simp only[Za.upd,hll,false_and,if_false];exact hq
 rw[←hH2];refine aS ?_;refine nq3 hne hnv hv2 ?_;have hel:Zkv 13 lv ((p++x::q).map Lt.enc):=Zr7 _ hlen rfl;refine YW (caps:=[]) (avs:=[.sl 13 ((p++x::q).map Lt.enc) .any]) rfl (Zf Tryz.func86 rfl rfl) (k86 (n+1) _ _ lv kq om (by rw[Zj hlv];exact hq2) hel) sS ?_;rintro r H1 ⟨rfl,rfl⟩;refine⟨[],H2.upd lv kq (.Zg 54 13 (flat ((p++x::q).map Lt.enc)) ((p++x::q).map Lt.enc).length),(Yj n _ _ _ _ _ hnv).symm,.upd (hel.blk (show lv≤n by omega)),?_⟩;obtain⟨H3,hH3⟩:∃H3,H3=H2.upd lv kq (.Zg 54 13 (flat ((p++x::q).map Lt.enc)) ((p++x::q).map Lt.enc).length):=⟨_,rfl⟩
 rw[←hH3];have hv3:H3 lv kv=some (.box [.sl 13 ((p++x::q).map Lt.enc) .any]):=by rw[hH3];simp only[Za.upd,hkq,and_false,if_false];exact hv2
 have e1:(p++x::q).map Lt.enc=p.map Lt.enc++x.enc::q.map Lt.enc:=by simp
 refine aS ?_;rw[IntWalk.i64_in ((p.length:Int)+1) (by simp at hlen;omega)];have hc85:Zi Tryz.prog (n+1) 85 [.msl 13 lv kq ((p++x::q).map Lt.enc).length,.int .i64 p.length,.int .i64 ((p.length:Int)+1)] (full n [] H3) fun r H'=>r= .sub 13 lv kq (p++x::q).length 0 (p++q).length∧H'=full n [] (H3.upd lv kq (.Zg 54 13 (flat (Zat p q)) (p++x::q).length)):=by
  have:=k85 (n+1) (full n [] H3) lv kq om (p.map Lt.enc) (q.map Lt.enc) x.enc (e1▸hel) (by rw[Zj hlv,hH3,e1];simp[Za.upd]);rw[←e1,Qv,Qv,Qv,←List.map_append]at this;rw[Yj n _ _ _ _ _ hnv,Qv,show(p++q).length=p.length+q.length from Qh];exact this
 refine YW (caps:=[]) (avs:=[.msl 13 lv kq ((p++x::q).map Lt.enc).length,.int .i64 p.length,.int .i64 ((p.length:Int)+1)]) rfl (Zf Tryz.func85 rfl rfl) hc85 sS ?_;rintro r H1 ⟨rfl,rfl⟩;refine⟨[],H3.upd lv kq (.Zg 54 13 (flat (Zat p q)) (p++x::q).length),rfl,.upd (Ze.Zhx p q),?_⟩;refine aq2 hne hnv ?_;have hv4:(H3.upd lv kq (.Zg 54 13 (flat (Zat p q)) (p++x::q).length)) lv kv=some (.box [.sl 13 ((p++x::q).map Lt.enc) .any]):=by simp only[Za.upd,hkq,and_false,if_false];exact hv3
 refine aq2 hnv hv4 ?_;refine⟨.inr (Ze.ZB ⟨.sub _ _ _ _ _ _ hlv,trivial⟩),?_⟩;refine nN ?_;exact⟨by simp[XW],[],trivial,sm,rfl,by rw[hH3,hH2,Za.Zas]⟩
theorem Vh{P:Program}{T:TT}{n:Nat}{t u ty y:Nat}{a v c:AV}{H:Za}{s:Zb}(r:Zv)(l k off:Nat)(cs:List AV)(h1:lkv s.tmps u= .ptr l k off)(h2:full n s.L s.H l k=some (.box cs))(h3:T ty=some r)
  (h4:off+r.size≤cs.length) (h5:r.isAgg=false→off<cs.length) (ha:Wk (lkv s.tmps t) a) (hv:Wk (if r.isAgg then .agg ((cs.drop off).take r.size)else(cs.drop off).getD 0 .dead) v) (hy:Wk (lkv s.tmps y) c) (b1:Below n a) (b2:Below n v) (b3:Below n c) (hH:s.H=H):
  PostF P T n [.tmp t,.cell u ty,.tmp y] (fun r' H'=>r'= .tup [a,v,c]∧H'=H) .ret s:=by
 refine⟨?_,[a,v,c],⟨ha,?_,hy,trivial⟩,by simp[b1,b2,b3],rfl,hH⟩
 ·intro x hx;simp only[Qk,Qy,or_false]at hx;rcases hx with rfl|rfl|rfl
  ·simp[XW]
  ·simp only[XW];exact⟨l,k,off,cs,r,h1,h2,h3,h4,h5⟩
  ·simp[XW]
 ·simp only[ZdT,h1,h2,h3];rw[if_pos ⟨h4,h5⟩];exact hv
def Za2(S:List Str)(x:Lt):Str×Tm×Bool:=
 if Va S (Z8 x.L)&&Va S (Z8 x.R)then([],tm0,true)
 else if x.op=1∧Va S (Z8 x.R)=true∧x.L.kind=3 then(x.L.name,x.R,true)
 else if x.op=1∧Va S (Z8 x.L)=true∧x.R.kind=3 then(x.R.name,x.L,true)
 else([],tm0,false)
theorem ZnJ(S:List Str)(x:Lt)(hk:x.kind=2):Y0 S x=if(Za2 S x).2.2=true then some (if(Za2 S x).1=[]then .test x else .bind (Za2 S x).1 (Za2 S x).2.1)else none:=by
 unfold Y0 Za2;rw[if_pos hk];split
 ·simp
 ·split
  ·simp
  ·split<;>simp
theorem j87(n:Nat)(H:Za)(l bx lm mk:Nat)(hl:l<n)(hlm:lm<n)(sp nw td:AV)(hbx:H l bx=some (.box [.map lm mk,sp,nw,td]))(S:List Str)(hm:H lm mk=some (.map (encS S)))(x:Lt)(hx:Sm x):
  PC Tryz.prog n 87 [.ptr l bx 0,x.enc] H (.tup [.str (Za2 S x).1,(Za2 S x).2.1.enc,.bool (Za2 S x).2.2]):=by
 have hne:¬l=n:=by omega
 have hnm:∀t:Tm,t.Good∧t.sz≤305→(nmT t).length≤1000000∧(Z8 t).length≤1000000:=fun t h=>by
  have:=nm_len.1 t;have:=Zes t;have:=h.2;constructor<;>omega
 obtain⟨n1,n2⟩:=hnm x.L ⟨hx.good.L,hx.L⟩;obtain⟨n3,n4⟩:=hnm x.R ⟨hx.good.R,hx.R⟩;have hmf:∀L,full n L H lm mk=some (.map (encS S)):=fun L=>by rw[Zj hlm];exact hm
 have hr:Za2 S x=if Va S (Z8 x.L)&&Va S (Z8 x.R)then([],tm0,true)
  else if x.op=1∧Va S (Z8 x.R)=true∧x.L.kind=3 then(x.L.name,x.R,true)
  else if x.op=1∧Va S (Z8 x.L)=true∧x.R.kind=3 then(x.R.name,x.L,true)
  else([],tm0,false):=rfl
 refine aF Tryz.func87 fun B=>?_
 refine nR ?_;refine nD drawO ?_;refine aq2 hne hbx ?_;refine cP (j56 x.L hx.good.L n1) ?_;refine cQ (j48 (n+1) _ lm mk om S (Z8 x.L) n2 (hmf _)) ?_;simp only[go_sem,simprocAttr,hne,hbx];refine cP (j56 x.R hx.good.R n3) ?_;refine cQ (j48 (n+1) _ lm mk om S (Z8 x.R) n4 (hmf _)) ?_;simp only[go_sem,simprocAttr,hne,hbx];generalize Va S (Z8 x.L)=p at hr⊢;generalize Va S (Z8 x.R)=q at hr⊢;repeat refine kn rfl ?_
 cases p with
 |true=>
  cases q with
  |true=>
   have hr:Za2 S x=([],tm0,true):=by rw[hr];rfl
   refine nR ?_;refine nT ?_;refine nR ?_;refine nV ?_;rw[hr];exact Vh _ n 5 0 [.int .u8 0,.int .i64 0,.str [],.sl 4 [] .full] sS sF rfl (Qe _) sS (.refl _) zero_tm (.refl _) (.str _) (Tm.blw _ _) (.bool _) rfl
  |false=>
   refine nR ?_;refine nF ?_;cases h1:(x.op==1)with
   |false=>
    have o1:¬x.op=1:=by simpa using h1
    have hr:Za2 S x=([],tm0,false):=by rw[hr];simp[o1]
    refine nq h1 ?_;refine nF ?_;refine nq h1 ?_;refine nF ?_;refine nR ?_;refine nV ?_;rw[hr];exact Vh _ n 5 0 [.int .u8 0,.int .i64 0,.str [],.sl 4 [] .full] sS sF rfl (Qe _) sS (.refl _) zero_tm (.refl _) (.str _) (Tm.blw _ _) (.bool _) rfl
   |true=>
    have o1:x.op=1:=by simpa using h1
    cases h2:(x.R.kind==3)with
    |false=>
     have o2:¬x.R.kind=3:=by simpa using h2
     have hr:Za2 S x=([],tm0,false):=by rw[hr];simp[o2]
     refine nq2 h1 h2 ?_;refine nF ?_;refine nq2 h1 h2 ?_;refine nF ?_;refine nR ?_;refine nV ?_;rw[hr];exact Vh _ n 5 0 [.int .u8 0,.int .i64 0,.str [],.sl 4 [] .full] sS sF rfl (Qe _) sS (.refl _) zero_tm (.refl _) (.str _) (Tm.blw _ _) (.bool _) rfl
    |true=>
     have o2:x.R.kind=3:=by simpa using h2
     have hr:Za2 S x=(x.R.name,x.L,true):=by rw[hr];simp[o1,o2]
     refine nq2 h1 h2 ?_;refine nF ?_;refine nq2 h1 h2 ?_;refine nT ?_;refine Y5 tok mixed drawO rfl rfl rfl ?_;refine aS ?_;refine nV ?_;rw[hr];exact Vh _ n 5 0 (x.L).cs sS sF rfl (Qe _) sS (.refl _) (by simp only[go_sem,simprocAttr];exact .refl _) (.refl _) (.str _) (Tm.blw _ _) (.bool _) rfl
 |false=>
  cases q with
  |true=>
   refine nR ?_;refine nF ?_;cases h1:(x.op==1)with
   |false=>
    have o1:¬x.op=1:=by simpa using h1
    have hr:Za2 S x=([],tm0,false):=by rw[hr];simp[o1]
    refine nq h1 ?_;refine nF ?_;refine nq h1 ?_;refine nF ?_;refine nR ?_;refine nV ?_;rw[hr];exact Vh _ n 5 0 [.int .u8 0,.int .i64 0,.str [],.sl 4 [] .full] sS sF rfl (Qe _) sS (.refl _) zero_tm (.refl _) (.str _) (Tm.blw _ _) (.bool _) rfl
   |true=>
    have o1:x.op=1:=by simpa using h1
    cases h2:(x.L.kind==3)with
    |false=>
     have o2:¬x.L.kind=3:=by simpa using h2
     have hr:Za2 S x=([],tm0,false):=by rw[hr];simp[o2]
     refine nq2 h1 h2 ?_;refine nF ?_;refine nq2 h1 h2 ?_;refine nF ?_;refine nR ?_;refine nV ?_;rw[hr];exact Vh _ n 5 0 [.int .u8 0,.int .i64 0,.str [],.sl 4 [] .full] sS sF rfl (Qe _) sS (.refl _) zero_tm (.refl _) (.str _) (Tm.blw _ _) (.bool _) rfl
    |true=>
     have o2:x.L.kind=3:=by simpa using h2
     have hr:Za2 S x=(x.L.name,x.R,true):=by rw[hr];simp[o1,o2]
     refine nq2 h1 h2 ?_;refine nT ?_;refine Y5 tok mixed drawO rfl rfl rfl ?_;refine aS ?_;refine nV ?_;rw[hr];exact Vh _ n 5 0 (x.R).cs sS sF rfl (Qe _) sS (.refl _) (by simp only[go_sem,simprocAttr];exact .refl _) (.refl _) (.str _) (Tm.blw _ _) (.bool _) rfl
  |false=>
   refine nR ?_;refine nF ?_;cases h1:(x.op==1)with
   |false=>
    have o1:¬x.op=1:=by simpa using h1
    have hr:Za2 S x=([],tm0,false):=by rw[hr];simp[o1]
    refine nq h1 ?_;refine nF ?_;refine nq h1 ?_;refine nF ?_;refine nR ?_;refine nV ?_;rw[hr];exact Vh _ n 5 0 [.int .u8 0,.int .i64 0,.str [],.sl 4 [] .full] sS sF rfl (Qe _) sS (.refl _) zero_tm (.refl _) (.str _) (Tm.blw _ _) (.bool _) rfl
   |true=>
    have o1:x.op=1:=by simpa using h1
    have hr:Za2 S x=([],tm0,false):=by rw[hr];simp
    refine nq h1 ?_;refine nF ?_;refine nq h1 ?_;refine nF ?_;refine nR ?_;refine nV ?_;rw[hr];exact Vh _ n 5 0 [.int .u8 0,.int .i64 0,.str [],.sl 4 [] .full] sS sF rfl (Qe _) sS (.refl _) zero_tm (.refl _) (.str _) (Tm.blw _ _) (.bool _) rfl
theorem k88(hE:ExpOK)(n:Nat)(H:Za)(hT:Tabs H)(hn:0<n)(l b:Nat)(hl:l<n)(mp sp td:AV)(now:List Bnd)(hnow:now.length≤1000000)(hbx:H l b=some (prB mp sp now td))(hmp:Below n mp∧Below n sp∧Below n td)(x:Lt)(hop:0≤x.op∧x.op≤255)
  (hx:∀c∈now,BT c x.L∧BT c x.R):Zi Tryz.prog n 88 [.iptr [.ptr l b 0],.iptr x.cs] H fun r H'=>r=eInt (Go.Abs.Xe (Jd x) now).2∧H'=H.upd l b (prB mp sp (Go.Abs.Xe (Jd x) now).1 td):=by
 have hne:l≠n:=by omega
 refine aF Tryz.func88 fun B=>?_
 refine nR ?_;refine nR ?_;refine YW (caps:=[]) (avs:=[.ptr l b 0,x.enc]) rfl (Zf Tryz.func89 rfl rfl) (j89 hE (n+1) _ (hT.full hn) om l b om mp sp td now hnow (by rw[Zj hl];exact hbx) ⟨hmp.1.mono om,hmp.2.1.mono om,hmp.2.2.mono om⟩ x hop hx) sS ?_;rintro r H1 ⟨rfl,rfl⟩;refine⟨[],H.upd l b (prB mp sp (Go.Abs.Xe (Jd x) now).1 td),(Yj n _ H l b _ hne).symm,.upd (Ze.ZB ⟨hmp.1,hmp.2.1,Zw _,hmp.2.2,trivial⟩),?_⟩;refine aS ?_;refine nV ?_;exact Zo (.refl _) (.int _ _) ⟨rfl,rfl⟩
theorem k90(hE:ExpOK)(n:Nat)(H:Za)(hT:Tabs H)(hn:0<n)(l b:Nat)(hl:l<n)(mp sp td:AV)(now:List Bnd)(hnow:now.length≤1000000)(hbx:H l b=some (prB mp sp now td))(hmp:Below n mp∧Below n sp∧Below n td)(s:Str)(t:Tm)(ht:∀c∈now,BT c t):
  Zi Tryz.prog n 90 [.iptr [.ptr l b 0],.iptr [.str s],.iptr t.cs] H fun r H'=>r=eInt (Go.Abs.Xe (ZbJ s t) now).2∧H'=H.upd l b (prB mp sp (Go.Abs.Xe (ZbJ s t) now).1 td):=by
 have hne:l≠n:=by omega
 refine aF Tryz.func90 fun B=>?_
 refine nR ?_;refine nR ?_;refine YW (caps:=[]) (avs:=[.ptr l b 0,.str s,t.enc]) rfl (Zf Tryz.func91 rfl rfl) (j91 hE (n+1) _ (hT.full hn) om l b om mp sp td now hnow (by rw[Zj hl];exact hbx) ⟨hmp.1.mono om,hmp.2.1.mono om,hmp.2.2.mono om⟩ s t ht) sS ?_;rintro r H1 ⟨rfl,rfl⟩;refine⟨[],H.upd l b (prB mp sp (Go.Abs.Xe (ZbJ s t) now).1 td),(Yj n _ H l b _ hne).symm,.upd (Ze.ZB ⟨hmp.1,hmp.2.1,Zw _,hmp.2.2,trivial⟩),?_⟩;refine aS ?_;refine nV ?_;exact Zo (.refl _) (.int _ _) ⟨rfl,rfl⟩
theorem k92(n:Nat)(H:Za)(hT:Tabs H)(hn:0<n)(l bx ls bs:Nat)(hl:l<n)(hls:ls<l)(mp td:AV)(now:List Bnd)(hnow:now.length≤1000000)(hbx:H l bx=some (prB mp (.ptr ls bs 0) now td))(hmp:Below n mp∧Below n td)(s:Sto)(hs:Yf H ls bs s)(hok:Ok s)(x:Lt)(hx:∀c∈now,BA c x.at_):
  Zi Tryz.prog n 92 [.iptr [.ptr l bx 0],.iptr x.cs] H fun r H'=>r=eInt (Go.Abs.Xe (atS s.A x.at_) now).2∧H'=H.upd l bx (prB mp (.ptr ls bs 0) (Go.Abs.Xe (atS s.A x.at_) now).1 td):=by
 have hne:l≠n:=by omega
 refine aF Tryz.func92 fun B=>?_
 refine nR ?_;refine nR ?_;refine YW (caps:=[]) (avs:=[.ptr l bx 0,x.at_.enc]) rfl (Zf Tryz.func93 rfl rfl) (j93 (n+1) _ (hT.full hn) om l bx ls bs om om mp td now hnow (by rw[Zj hl];exact hbx) ⟨hmp.1.mono om,hmp.2.mono om⟩ s (fun k x hk=>by rw[Zj om];exact hs k x hk) hok x.at_ hx) sS ?_;rintro r H1 ⟨rfl,rfl⟩;refine⟨[],H.upd l bx (prB mp (.ptr ls bs 0) (Go.Abs.Xe (atS s.A x.at_) now).1 td),(Yj n _ H l bx _ hne).symm,.upd (Ze.ZB ⟨hmp.1,.ptr _ _ _ (show ls<n by omega),Zw _,hmp.2,trivial⟩),?_⟩;refine aS ?_;refine nV ?_;exact Zo (.refl _) (.int _ _) ⟨rfl,rfl⟩
theorem k94(n:Nat)(H:Za)(hT:Tabs H)(hn:0<n)(l bx mk:Nat)(hl:l<n)(sp nw td:AV)(hbx:H l bx=some (.box [.map l mk,sp,nw,td]))(S:List Str)(hm:H l mk=some (.map (encS S)))(x:Lt)(hx:Sm x):
  PC Tryz.prog n 94 [x.enc,.iptr [.ptr l bx 0]] H (.bool (!XV S x)):=by
 have hne:¬l=n:=by omega
 have hvl:=hx.tv.2.2;refine aF Tryz.func94 fun B=>?_
 refine nR ?_;have hb:XV S x=(!(x.kind==2)&&Va S (ZJ x)):=rfl;cases hk:(x.kind==2)with
 |true=>
  rw[hb,hk];refine Y5 tok mixed drawO rfl rfl rfl ?_;simp -implicitDefEqProofs (maxSteps:=1000000) only[go_sem,simprocAttr,hne,hbx,hk];exact pB
 |false=>
  rw[hb,hk];refine Y5 tok mixed drawO rfl rfl rfl ?_;simp -implicitDefEqProofs (maxSteps:=1000000) only[go_sem,simprocAttr,hne,hbx,hk];refine cT (j41 x hx) ?_;refine ZjX (Zf Tryz.func48 rfl rfl) (j48 (n+1) _ l mk om S (ZJ x) om (by rw[Zj hl];exact hm)) (by simp only[go_sem,simprocAttr];rfl) ?_;refine aS ?_;exact pB
def Zcq(A:List Am):List Stp→List Bnd→Nat→List Bnd
 |_,now,0=>now
 |[],now,_+1=>now
 |s::r,now,i+1=>Zcq A r (Go.Abs.Xe (stepS A s) now).1 i
theorem Zeq(A:List Am):∀(p:List Stp) (now:List Bnd) (i:Nat) (h:i<p.length),Zcq A p now (i+1)=(Go.Abs.Xe (stepS A p[i]) (Zcq A p now i)).1
 |s::r,now,0,_=>by
  cases r<;>rfl
 |s::r,now,i+1,h=>by
  have:=Zeq A r (Go.Abs.Xe (stepS A s) now).1 i (by simpa using h);exact this
structure Zi7 (A:List Am) (p:List Stp) (S0:List Str) (now:List Bnd) (i:Nat):Prop where
 eq:WZ A p now=WZ A (p.drop i) (Zcq A p now i)
 ok:∀b∈Zcq A p now i,ZP b∧ ∀n,n∈Zq b↔n∈S0++(p.take i).flatMap varS
 rdy:Rdy (S0++(p.take i).flatMap varS) (p.drop i)
 len:(Zcq A p now i).length≤20001
theorem ZmS(f:Bnd→List Bnd×Int)(now:List Bnd):(Go.Abs.Xe f now).1.length≤20001:=by
 have:∀(q:List Bnd) (p:List Bnd×Int),p.1.length≤20001→(q.foldl (fun p b=>Wl p (f b)) p).1.length≤20001:=by
  intro q;induction q with
  |nil=>intro p h;exact h
  |cons x q ih=>
   intro p _;refine ih _ ?_;simp only[Wl,ZgP];split
   ·rw[QI];omega
   ·omega
 exact this now ([],0) sm
section
variable {i:Nat} {S0:List Str} {p:List Stp} {A:List Am}
theorem Zi7.step(hA:∀a∈A,Yv a=true){now:List Bnd}(h:Zi7 A p S0 now i)(hi:i<p.length)(h0:(Go.Abs.Xe (stepS A p[i]) (Zcq A p now i)).2=0):Zi7 A p S0 now (i+1):=by
 have hd:p.drop i=p[i]::p.drop (i+1):=Qw hi;have hs:=Zeq A p now i hi;have hr:=h.rdy;rw[hd]at hr;have ht:S0++(p.take (i+1)).flatMap varS=(S0++(p.take i).flatMap varS)++varS p[i]:=by
  rw[Qn hi,Ur,Q7];simp
 refine⟨?_,fun b hb=>?_,by rw[ht];exact hr.2,by rw[hs];exact ZmS _ _⟩
 ·rw[h.eq,hd,WZ,if_pos h0,hs]
 ·rw[hs]at hb;obtain⟨hz,heq⟩:=Zm3 h0;rw[heq,Qz]at hb;obtain⟨c,hc,hb⟩:=hb;obtain⟨hg,hdm⟩:=h.ok c hc;obtain⟨g,_,hd2,_⟩:=(Zgj hA hg (Zab (fun n=>(hdm n).symm) hr.1) (hz c hc) b).1 hb;exact⟨g,fun n=>by rw[hd2,hdm,ht];exact Qj.symm⟩
theorem plG_made:∀(f:Nat) (S:List Str) (l:List Lt),(∀x∈l,okX x)→ ∀q∈(plG f S l).1,q.2∈l∧Vq q.1 q.2
 |0,_,_,_,_,h=>by cases h
 |f+1,S,l,ho,q,h=>by
  unfold plG at h;split at h
  ·cases h
  ·rename_i s x r hn;obtain⟨h1,_,h3⟩:=ZhR ho hn;rcases Qk.1 h with rfl|h
   ·exact⟨h3.mem_iff.2 sm,h1⟩
   ·have:=plG_made f _ r (fun y hy=>ho y (h3.mem_iff.2 (by simp[hy]))) q h;exact⟨h3.mem_iff.2 (by simp[this.1]),this.2⟩
def fnF:Stp×Lt→Nat
 |(.test _,_)=>88
 |(.bind _ _,_)=>90
 |(.atom _,_)=>92
def fnC(l bx:Nat):Stp×Lt→List AV
 |(.test x,_)=>[.iptr [.ptr l bx 0],.iptr x.cs]
 |(.bind s t,_)=>[.iptr [.ptr l bx 0],.iptr [.str s],.iptr t.cs]
 |(.atom _,x)=>[.iptr [.ptr l bx 0],.iptr x.cs]
theorem Zqp(q:Stp×Lt):∃fn c,Fun Tryz.prog (fnF q) fn c:=by
 obtain⟨s,x⟩:=q;cases s with
 |test y=>exact⟨_,_,Zf Tryz.func88 rfl rfl⟩
 |bind s t=>exact⟨_,_,Zf Tryz.func90 rfl rfl⟩
 |atom a=>exact⟨_,_,Zf Tryz.func92 rfl rfl⟩
theorem ZtK(hE:ExpOK)(n:Nat)(H:Za)(hT:Tabs H)(hn:0<n)(l bx ls bs:Nat)(hl:l<n)(hls:ls<l)(mp td:AV)(now:List Bnd)(hnow:now.length≤1000000)(hbx:H l bx=some (prB mp (.ptr ls bs 0) now td))(hmp:Below n mp∧Below n td)(s:Sto)(hs:Yf H ls bs s)(hok:Ok s)
  (q:Stp×Lt) (hm:Vq q.1 q.2) (hx:Sm q.2) (hop:0≤q.2.op∧q.2.op≤255) (hok2:∀c∈now,ZP c∧c.length≤100000∧Ready (Zq c) q.1):
  Zi Tryz.prog n (fnF q) (fnC l bx q) H fun r H'=>r=eInt (Go.Abs.Xe (stepS s.A q.1) now).2∧H'=H.upd l bx (prB mp (.ptr ls bs 0) (Go.Abs.Xe (stepS s.A q.1) now).1 td):=by
 obtain⟨st,x⟩:=q;cases st with
 |test y=>
  obtain⟨rfl,hk⟩:=hm;refine k88 hE n H hT hn l bx hl mp (.ptr ls bs 0) td now hnow hbx ⟨hmp.1,.ptr _ _ _ om,hmp.2⟩ y hop fun c hc=>?_
  obtain⟨g,hl,hr⟩:=hok2 c hc;exact⟨⟨g,hl,hx.good.L,hx.L,fun n hn=>hr n (QC _ hn)⟩,⟨g,hl,hx.good.R,hx.R,fun n hn=>hr n (QK _ hn)⟩⟩
 |bind nm t=>
  obtain⟨hk,ho1,hc⟩:=hm;dsimp only at hc hx;refine k90 hE n H hT hn l bx hl mp (.ptr ls bs 0) td now hnow hbx ⟨hmp.1,.ptr _ _ _ om,hmp.2⟩ nm t fun c hc2=>?_
  obtain⟨g,hl,hr⟩:=hok2 c hc2;rcases hc with⟨_,_,rfl⟩|⟨_,_,rfl⟩
  ·exact⟨g,hl,hx.good.R,hx.R,hr.2⟩
  ·exact⟨g,hl,hx.good.L,hx.L,hr.2⟩
 |atom a=>
  obtain⟨hk,hng,e⟩:=hm;dsimp only at e hx;subst e;refine k92 n H hT hn l bx ls bs hl hls mp td now hnow hbx hmp s hs hok x fun c hc2=>?_
  obtain⟨g,hl,hr⟩:=hok2 c hc2;exact⟨g,hl,hx.good.at_,hx.at_⟩
structure Zee (l:List Lt) (b:Bnd) (F:List Lt):Prop where
 sm:∀y∈F,Sm y
 op:∀y∈F,0≤y.op∧y.op≤255
 ok:∀y∈F,okX y
 len:F.length≤9160
 vars:(F.flatMap ZJ).length≤15250
variable {b:Bnd} {l:List Lt}
theorem Zgk(hl:l.length≤10)(hs:∀x∈l,Sm x)(hb:b.length≤1000):(Z7 l b).length≤7100:=by
 have h2:(l.flatMap ZJ).length≤l.length*610:=by
  clear hl;induction l with
  |nil=>simp
  |cons x r ih=>
   have:=(hs x sm).tv.2.2;have:=ih fun y hy=>hs y (by simp[hy])
   rw[QS,Qh,Qo];omega
 unfold Z7;rw[Qh];have h3:(Zq b).length=b.length:=by simp[Zq]
 omega
theorem Zrm(hl:l.length≤10)(hs:∀x∈l,Sm x)(hop:∀x∈l,0≤x.op∧x.op≤255)(hb:b.length≤1000)(hv:l.all Y7=true):Zee l b (XQ l (Z7 l b)):=by
 have h1:=Zgk hl hs hb;have h2:(l.flatMap fun x=>(Yy x).flatMap Z8).length≤l.length*915:=by
  clear h1 hl hop hv;induction l with
  |nil=>simp
  |cons x r ih=>
   have:=Zgh (hs x sm);have:=ih fun y hy=>hs y (by simp[hy])
   rw[QS,Qh,Qo];omega
 have hsm:=Zo4 (S:=Z7 l b++l.flatMap fun x=>(Yy x).flatMap Z8) (by rw[Qh];omega) l 0 hs (by
  have h3:l.length*(305*((Z7 l b++l.flatMap fun x=>(Yy x).flatMap Z8).length+2))≤10*(305*20002):=QaQ hl (Qal _ (by rw[Qh];omega));omega)
 have hvl:=Zjq (S:=Z7 l b++l.flatMap fun x=>(Yy x).flatMap Z8) l 0 hs;refine⟨fun y hy=>(hsm y hy).1,fun y hy=>?_,ZfK 0 fun x hx=>(Zch (QA.1 hv x hx)).1,by have:=hvl.2;unfold XQ;omega,by have:=hvl.1;unfold XQ;omega⟩;rcases(hsm y hy).2 with h|⟨x,hx,e⟩
 ·exact h
 ·rw[e];exact hop x hx
variable {S1:List Str}
theorem ZhN(hv:l.all Y7=true)(hvb:validB b=true)(hS0:∀x,x∈S0↔x∈Zq b){D:List (Stp×Lt)}{R:List Lt}
  (hP:plG (XQ l (Z7 l b)).length S0 (XQ l (Z7 l b))=(D,S1,R)):
  Xf A l b=if R.all (XV S1)then(if(WZ A (D.map Prod.fst) [b]).2=0 then(XM YJ ((WZ A (D.map Prod.fst) [b]).1.map (Jb (Z7 l b))),0)else([],(WZ A (D.map Prod.fst) [b]).2))else([],120):=by
 obtain⟨h1,h2,h3⟩:=plG_planF (XQ l (Z7 l b)).length S0 (Zq b) (XQ l (Z7 l b)) hS0;rw[hP]at h1 h2 h3;dsimp only at h1 h2 h3;have hj:Xf A l b=match VP (Zq b) (XQ l (Z7 l b))with
   |none=>([],eUnsafe)
   |some p=>if(WZ A p [b]).2=0 then(XM YJ ((WZ A p [b]).1.map (Jb (Z7 l b))),0)else([],(WZ A p [b]).2):=by
  unfold Xf;rw[hv,hvb];rfl
 rw[hj];unfold VP;simp only;rw[←h1,←h3,ZdF fun n=>(h2 n).symm];cases R.all (XV S1)<;>rfl
variable {F:List Lt}
theorem ZnK(hF:Zee l b F)(hvb:validB b=true)(hS0:∀x,x∈S0↔x∈Zq b){D:List (Stp×Lt)}{X:List Str×List Lt}(hP:plG F.length S0 F=(D,X)):
  Zi7 A (D.map Prod.fst) (Zq b) [b] 0∧(∀q∈D,q.2∈F∧Vq q.1 q.2)∧D.length≤F.length∧ ∀n∈(D.map Prod.fst).flatMap varS,n∈F.flatMap ZJ:=by
 obtain⟨h1,_,_⟩:=plG_planF F.length S0 (Zq b) F hS0;obtain⟨T,a1,a2,a3,_,_⟩:=plan_spec F.length (Zq b) F hF.ok;rw[←h1,hP]at a2 a3;have hm:=plG_made F.length S0 F hF.ok;rw[hP]at hm;have hTF:∀y∈T,y∈F:=fun y hy=>a1.mem_iff.2 (QC _ hy)
 refine⟨⟨by simp[Zcq],fun c hc=>?_,by simpa using a3,by simp[Zcq]⟩,hm,?_,fun n hn=>?_⟩
 ·simp only[Zcq,Ql]at hc;subst hc;exact⟨validB_good hvb,fun n=>by simp⟩
 ·have e1:=a2.len;have e2:=a1.length_eq;rw[Qv]at e1;rw[Qh]at e2;dsimp only at e1;omega
 ·obtain⟨y,hy,hn⟩:=Qz.1 ((fa_vars a2 (fun y hy=>hF.ok y (hTF y hy)) n).1 hn);exact Qz.2 ⟨y,hTF y hy,hn⟩
theorem Zoi(hS0:∀x,x∈S0↔x∈Zq b){D:List (Stp×Lt)}{R:List Lt}(hP:plG F.length S0 F=(D,S1,R))(hb:R.all (XV S1)=true):VP (Zq b) F=some (D.map Prod.fst):=by
 obtain⟨h1,h2,h3⟩:=plG_planF F.length S0 (Zq b) F hS0;rw[hP]at h1 h2 h3;dsimp only at h1 h2 h3;unfold VP;simp only;rw[←h1,←h3,ZdF fun n=>(h2 n).symm,hb];rfl
theorem Zow(ho:∀x∈l,okX x)(hp:VP (Zq b) (XQ l (Z7 l b))=some p){c:Bnd}(g:ZP c)(hd:∀n,n∈Zq c↔n∈Zq b++p.flatMap varS):XY (Z7 l b) (Jb (Z7 l b) c):=by
 let S:=Z7 l b++l.flatMap fun x=>(Yy x).flatMap Z8
 have hoF:∀y∈flL S l 0,okX y:=ZfK 0 ho;have hp':VP (Zq b) (flL S l 0)=some p:=hp;obtain⟨m1,m2,m3⟩:=ZeE hoF hp';refine⟨g.filter _,fun n=>?_⟩;rw[ZdB];refine⟨fun h=>h.1,fun h=>⟨h,(hd n).2 ?_⟩⟩;rw[Qj,m2,ZbW S l 0 n];rcases Qj.1 h with h|h
 ·exact .inr (.inl h)
 ·exact .inl h
theorem Zl6{S T:List Str}(h:∀n,n∈S↔n∈T)(c:Bnd):Jb S c=Jb T c:=by
 unfold Jb;congr 1
 funext q;exact decide_eq_decide.2 (h q.1)
theorem ZmR(hF:Zee l b F)(hb:b.length≤1000)(hp:∀n∈p.flatMap varS,n∈F.flatMap ZJ)(h:Zi7 A p (Zq b) [b] i):∀c∈Zcq A p [b] i,c.length≤100000:=fun c hc=>by
 obtain⟨g,hd⟩:=h.ok c hc;have hnd:(Zq c).Nodup:=(Zdb g.asc).imp fun h e=>by rw[e,cmpBytes_self]at h;omega
 have:=Xq hnd (q:=Zq b++F.flatMap ZJ) fun n hn=>by
  rcases Qj.1 ((hd n).1 hn)with h|h
  ·exact QC _ h
  ·obtain⟨s,hs,h⟩:=Qz.1 h;exact QK _ (hp n (Qz.2 ⟨s,UM hs,h⟩))
 rw[Qh]at this;have h2:=hF.vars;have h3:(Zq b).length=b.length:=by simp[Zq]
 have h4:(Zq c).length=c.length:=by simp[Zq]
 omega
theorem Zi7.use(hF:Zee l b F)(hb:b.length≤1000)(hp:∀n∈p.flatMap varS,n∈F.flatMap ZJ)(h:Zi7 A p (Zq b) [b] i)(hi:i<p.length):∀c∈Zcq A p [b] i,ZP c∧c.length≤100000∧Ready (Zq c) p[i]:=fun c hc=>by
 obtain⟨g,hd⟩:=h.ok c hc;have hr:=h.rdy;rw[Qw hi]at hr;exact⟨g,ZmR hF hb hp h c hc,Zab (fun n=>(hd n).symm) hr.1⟩
end
end Go.Proofs.YtmdeagmbfhbbnaaGreatDoorR

namespace Go.Abs
section
variable {P:Program} {b:Frame} {a:Act} {k:List Item} {cs:List Frame} {w:World}
theorem X5{c:Code}:step P (lone (b.atR a (.code (.scope c)::k)) cs w)= .next (lone (b.atR a (.code c:: .inScope c::k)) cs w):=
 step_lone_go (by simp[stepG,stepG.exec,Frame.atR])
theorem ZcD{c:Code}:step P (lone (b.atR a (.inScope c::k)) cs w)= .next (lone (b.atR a k) cs w):=
 step_lone_go (by simp[stepG,stepG.exec,Frame.atR])
end
theorem Zej{F:Fence}{n:Nat}{P:Program}{Q:Exit→Act→World→Prop}{a:Act}{w:World}{c rest:Code}(l:Nat)(J:Act→World→Prop)(μ:Act→World→Nat)(hf:findLabel c l=some rest)
  (first:c.wpIn F n P (Exit.jump l J Q) a w)
  (pass:∀a w,J a w→rest.wpIn F n P (Exit.jump l (fun a' w'=>J a' w'∧μ a' w'<μ a w) Q) a w):(Code.scope c).wpIn F n P Q a w:=by
 intro b k cs hro hb hr;have hg:gotoIn l (.inScope c::k)=some (.code rest:: .inScope c::k):=by simp[gotoIn,hf]
 have h0:∀{a:Act} {w:World},(lone (b.atR a (.code (.scope c)::k)) cs w).fenced P F:=fenced_calm hb hr rfl;have h1:∀{a:Act} {w:World},(lone (b.atR a (.inScope c::k)) cs w).fenced P F:=fenced_calm hb hr rfl;have hxt:∀{id:Nat},exitTo id (.inScope c::k)=exitTo id k:=by simp[exitTo]
 have key:∀m a w,μ a w=m→J a w→ ∃e a' w',Q e a' w'∧ArrivesIn (Machine.fenced P F) P (lone (b.atR a (.code rest:: .inScope c::k)) cs w) b k cs e a' w':=by
  intro m;induction m using Nat.strongRecOn with
  |_ m ih=>
   intro a w hn hJ;obtain⟨e,a₁,w₁,hq,harr⟩:=pass a w hJ b (.inScope c::k) cs hro hb hr;cases e with
   |normal=>exact⟨.normal,a₁,w₁,hq,StepsIn.trans harr (.one h1 ZcD)⟩
   |exit id=>exact⟨_,a₁,w₁,hq,fun k' hk=>harr.1 k' (by rw[hxt];exact hk),fun hr' hk=>harr.2 hr' (by rw[hxt];exact hk)⟩
   |goto l'=>
    obtain⟨rfl,hJ',hlt⟩:=hq;obtain⟨e₂,a₂,w₂,hq₂,harr₂⟩:=ih _ om a₁ w₁ rfl hJ';exact⟨e₂,a₂,w₂,hq₂,.of_steps (harr.1 _ hg) harr₂⟩
   |ret=>exact⟨_,a₁,w₁,hq,harr⟩
   |panic ch=>exact⟨_,a₁,w₁,hq,harr⟩
   |outgrown=>exact⟨_,a₁,w₁,hq,harr⟩
 obtain⟨e,a₁,w₁,hq,harr⟩:=first b (.inScope c::k) cs hro hb hr
 cases e with
 |normal=>exact⟨.normal,a₁,w₁,hq,.head h0 X5 (StepsIn.trans harr (.one h1 ZcD))⟩
 |exit id=>exact⟨_,a₁,w₁,hq,fun k' hk=>.head h0 X5 (harr.1 k' (by rw[hxt];exact hk)),fun hr' hk=>let⟨k₁,h2,h3⟩:=harr.2 hr' (by rw[hxt];exact hk);⟨k₁,h2,.head h0 X5 h3⟩⟩
 |goto l'=>
  obtain⟨rfl,hJ'⟩:=hq;obtain⟨e₂,a₂,w₂,hq₂,harr₂⟩:=key _ a₁ w₁ rfl hJ';exact⟨e₂,a₂,w₂,hq₂,.of_steps (.head h0 X5 (harr.1 _ hg)) harr₂⟩
 |ret=>exact⟨_,a₁,w₁,hq,.of_steps (.one h0 X5) harr⟩
 |panic ch=>exact⟨_,a₁,w₁,hq,.of_steps (.one h0 X5) harr⟩
 |outgrown=>exact⟨_,a₁,w₁,hq,.of_steps (.one h0 X5) harr⟩
def JQ(l:Nat)(J:Zb→Prop)(Q:Exit→Zb→Prop):Exit→Zb→Prop:=fun e s=>match e with
 | .goto l'=>l'=l∧J s
 |e=>Q e s
theorem ZoV{P:Program}{φ:Fm}{n N:Nat}{c rest:Code}{k:List Itm}{Q:Exit→Zb→Prop}{s:Zb}(l:Nat)(I:Nat→Zb→Prop)(hf:findLabel c l=some rest)
  (first:AK P φ n N [.code c] (JQ l (fun s'=>∃m s'',AWk n N s' s''∧I m s'') (AX P φ n N Q k)) s)
  (pass:∀m s,I m s→AK P φ n N [.code rest] (JQ l (fun s'=>∃m' s'',m'<m∧AWk n N s' s''∧I m' s'') (AX P φ n N Q k)) s):
  AK P φ n N (.code (.scope c)::k) Q s:=fun E w a hs=>by
 classical
 let M (a:Act) (w':World) (m:Nat):Prop:=∃s' E',I m s'∧Yn φ.B n N s' E' a w'∧Ext n E w E' w'
 let μ (a:Act) (w':World):Nat:=if h:∃m,M a w' m then Classical.choose (least h)else 0
 refine Zej l (fun a w'=>∃m,M a w' m) μ hf ?_ ?_
 ·refine wpIn_mono (first E w a hs) ?_;rintro e a2 w2 ⟨s2,E2,hQ,hs2,hx2⟩;cases e with
  |goto l'=>
   obtain⟨rfl,m,s3,hwk,hI⟩:=hQ;obtain⟨E3,hs3,hx3⟩:=hwk _ E2 w2 a2 hs2;exact⟨rfl,m,s3,E3,hI,hs3,hx2.trans hx3⟩
  |_=>exact⟨s2,E2,hQ,hs2,hx2⟩
 ·intro a' w' hM;have hμ:μ a' w'=Classical.choose (least hM):=dif_pos hM;obtain⟨s',E',hI,hs',hx'⟩:=(G7 (least hM)).1;refine wpIn_mono (pass _ s' hI E' w' a' hs') ?_;rintro e a2 w2 ⟨s2,E2,hQ,hs2,hx2⟩;cases e with
  |goto l'=>
   obtain⟨rfl,m',s3,hm',hwk,hI3⟩:=hQ;obtain⟨E3,hs3,hx3⟩:=hwk _ E2 w2 a2 hs2;have hM2:M a2 w2 m':=⟨s3,E3,hI3,hs3,hx'.trans (hx2.trans hx3)⟩
   have hex:∃m,M a2 w2 m:=⟨m',hM2⟩
   refine⟨rfl,hex,?_⟩;have:μ a2 w2=Classical.choose (least hex):=dif_pos hex;rw[this,hμ];exact Nat.lt_of_le_of_lt ((G7 (least hex)).2 _ hM2) hm'
  |_=>exact⟨s2,E2,hQ,hs2,hx'.trans hx2⟩
section
variable {cx:Cx} {c:Code} {k:List Itm} {Q:Exit→Zb→Prop} {s:Zb}
theorem ZqA{l:Nat}(hc:c= .label l)(h:AKc cx k Q s):AKc cx (.code c::k) Q s:=by
 rw[hc];exact fun E w a hs=>wpIn_label ⟨s,E,h,hs,.refl cx.n E w⟩
theorem ZdA{P:Program}{φ:Fm}{n N:Nat}{l:Nat}(h:Q (.goto l) s):∀k,AX P φ n N Q k (.goto l) s
 |[]=>h
 | .code _::k=>ZdA h k
 | .blk _::k=>ZdA h k
theorem ZoS{l:Nat}(hc:c= .goto l)(h:Q (.goto l) s):AKc cx (.code c::k) Q s:=by
 rw[hc];exact fun E w a hs=>wpIn_goto ⟨s,E,ZdA h k,hs,.refl cx.n E w⟩
theorem ZqY(l:Nat)(I:Nat→Zb→Prop){rest:Code}(hc:c= .scope c.fst)(hf:findLabel c.fst l=some rest)
  (first:AKc cx [.code c.fst] (JQ l (fun s'=>∃m s'',AWk cx.n cx.N s' s''∧I m s'') (AX cx.P cx.φ cx.n cx.N Q k)) s)
  (pass:∀m s,I m s→AKc cx [.code rest] (JQ l (fun s'=>∃m' s'',m'<m∧AWk cx.n cx.N s' s''∧I m' s'') (AX cx.P cx.φ cx.n cx.N Q k)) s):
  AKc cx (.code c::k) Q s:=by rw[hc];exact ZoV l I hf first pass
theorem Zk0(l:Nat)(I:Nat→Zb→Prop)(m0:Nat)(s0:Zb){rest rest0:Code}(hc:c= .scope c.fst)(hf:findLabel c.fst l=some rest)(hr:∀Q' s,AKc cx [.code rest0] Q' s→AKc cx [.code rest] Q' s)(pre:∀Q',AKc cx [.code rest0] Q' s0→AKc cx [.code c.fst] Q' s)(h0:I m0 s0)
  (pass:∀m s,I m s→AKc cx [.code rest0] (JQ l (fun s'=>∃m' s'',m'<m∧AWk cx.n cx.N s' s''∧I m' s'') (AX cx.P cx.φ cx.n cx.N Q k)) s):
  AKc cx (.code c::k) Q s:=by
 refine ZqY l I hc hf (pre _ ?_) fun m s h=>hr _ _ (pass m s h)
 refine Zad ?_ (pass m0 s0 h0);intro e s' h;cases e with
 |goto l'=>
  obtain⟨e,m',s'',_,h1,h2⟩:=h;exact⟨e,m',s'',h1,h2⟩
 |_=>exact h
end
end Go.Abs

namespace Go.Proofs.YtmdeagmbfhbbnaaGreatDoorR
open Go.Abs
set_option maxRecDepth 100000
def fnV(l bx:Nat):Stp×Lt→AV
 |(.test x,_)=>.fn (.func 88) [.iptr [.ptr l bx 0],.iptr x.cs]
 |(.bind s t,_)=>.fn (.func 90) [.iptr [.ptr l bx 0],.iptr [.str s],.iptr t.cs]
 |(.atom _,x)=>.fn (.func 92) [.iptr [.ptr l bx 0],.iptr x.cs]
theorem Zb2(l bx:Nat)(s:Stp×Lt):(fnV l bx s).cells=[fnV l bx s]:=by
 obtain⟨s,x⟩:=s;cases s<;>rfl
theorem Zm9(l bx:Nat)(s:Stp×Lt):(fnV l bx s).one=true:=by
 obtain⟨s,x⟩:=s;cases s<;>rfl
section
variable {n:Nat}
theorem Zcl(l bx:Nat)(h:l<n)(s:Stp×Lt):Below n (fnV l bx s):=by
 have hp:Below n (.iptr [.ptr l bx 0]):=Zl ⟨.ptr _ _ _ h,trivial⟩;obtain⟨s,x⟩:=s;have key:∀f cs,Yi (fun c=>Below n c) cs→Below n (.fn f cs):=fun f cs h=>Below.fn _ _ fun i hi=>h.mem _ (Qa hi)
 cases s with
 |test y=>exact key _ _ ⟨hp,Zl y.bcs,trivial⟩
 |bind s t=>exact key _ _ ⟨hp,Zl ⟨.str _,trivial⟩,Zl t.bcs,trivial⟩
 |atom a=>exact key _ _ ⟨hp,Zl x.bcs,trivial⟩
variable {l bx:Nat}
theorem Zhw{m:Nat}(h:l<n)(done:List (Stp×Lt)):Ze.Below n (.Zg 84 1 (done.map (fnV l bx)) m):=⟨fun c hc=>by
 simp only[Ze.avs,Qb]at hc;obtain⟨s,_,rfl⟩:=hc;exact Zcl l bx h s,by simp[Ze.at_]⟩
def plH(H:Za)(l bx mk q:Nat)(sp nw:AV)(done:List (Stp×Lt))(S:List Str):Za:=
 ((H.upd l mk (.map (encS S))).upd l q (.Zg 84 1 (done.map (fnV l bx)) done.length)).upd l bx (.box [.map l mk,sp,nw,.msl 1 l q done.length])
def Zk2(n l bx mk q:Nat)(sp nw:AV)(H:Za)(S:List Str)(ls:List Lt)(done:List (Stp×Lt)):Zb:=
 ⟨[(5,.fn (.func 84) [.iptr [.ptr l bx 0],.ptr n 3 0]),(2,.iptr [.ptr l bx 0]),(3,.ptr n 3 0)],[(3,.box [.sl 13 (ls.map Lt.enc) .any])],plH H l bx mk q sp nw done S⟩
def I42(n l bx mk q:Nat)(sp nw:AV)(H:Za)(D:List (Stp×Lt))(E:List Str×List Lt)(m:Nat)(s:Zb):Prop:=
 ∃S ls done,m=ls.length∧s=Zk2 n l bx mk q sp nw H S ls done∧(∀x∈ls,Sm x)∧done++(plG ls.length S ls).1=D∧(plG ls.length S ls).2=E∧ls.length+done.length≤1000000
variable {p:Nat→Prop}
theorem Jy(hl:l<n)(h:p 3):Inside n p (.fn (.func 84) [.iptr [.ptr l bx 0],.ptr n 3 0]):=
 .fn _ _ fun i hi=>Yi.mem (l:=[.iptr [.ptr l bx 0],.ptr n 3 0]) (p:=fun c=>Inside n p c) ⟨(Zl (cs:=[.ptr l bx 0]) ⟨.ptr _ _ _ hl,trivial⟩).inside,.ptr _ _ _ (.inr ⟨rfl,h⟩),trivial⟩ _ (Qa hi)
theorem Zc0(hl:l<n):Inside n p (.iptr [.ptr l bx 0]):=(Zl (cs:=[.ptr l bx 0]) ⟨.ptr _ _ _ hl,trivial⟩).inside
theorem ZqI(H:Za)(l bx mk q:Nat)(hd:mk≠q∧mk≠bx∧q≠bx)(sp nw:AV)(done:List (Stp×Lt))(S S':List Str):(plH H l bx mk q sp nw done S).upd l mk (.map (encS S'))=plH H l bx mk q sp nw done S':=by
 funext a b;unfold plH Za.upd;by_cases h:a=l
 ·subst h;by_cases h1:b=mk
  ·subst h1;simp[hd.1,hd.2.1]
  ·simp[h1]
 ·simp[h]
theorem Zmg(H:Za)(l bx mk q:Nat)(hd:mk≠q∧mk≠bx∧q≠bx)(sp nw:AV)(done:List (Stp×Lt))(s:Stp×Lt)(S:List Str):
  ((plH H l bx mk q sp nw done S).upd l q (.Zg 84 1 (done.map (fnV l bx)++[fnV l bx s]) (done.length+1))).upd l bx (.box [.map l mk,sp,nw,.msl 1 l q (done.length+1)])=plH H l bx mk q sp nw (done++[s]) S:=by
 funext a b;unfold plH Za.upd;by_cases h:a=l
 ·subst h;by_cases h1:b=bx
  ·simp[h1]
  ·by_cases h2:b=q
   ·simp[h1,h2]
   ·simp[h1,h2]
 ·simp[h]
theorem ZoH(p q:List Lt):∀x∈Zat p q,x.cells.length=13:=fun x hx=>by
 rcases Qj.1 hx with h|h
 ·obtain⟨y,_,rfl⟩:=Qb.1 h;rfl
 ·rw[Ql]at h;subst h;rfl
variable {tm:List (Nat×AV)} {S:List Str}
theorem ZsX{N mk q:Nat}(hl:l<n)(hd:mk≠q∧mk≠bx∧q≠bx){sp nw:AV}{H:Za}{p r:List Lt}{x:Lt}{done:List (Stp×Lt)}(hN:83<N)
  (h5:lkv tm 5= .fn (.func 84) [.iptr [.ptr l bx 0],.ptr n 3 0]) (h2:lkv tm 2= .iptr [.ptr l bx 0]) (h3:lkv tm 3= .ptr n 3 0):
  AWk n N ⟨tm,[(3,.box [.sub 13 n 200 (p++x::r).length 0 (p++r).length]),(200,.Zg 54 13 (flat (Zat p r)) (p++x::r).length)],plH H l bx mk q sp nw done S⟩ (Zk2 n l bx mk q sp nw H S (p++r) done):=by
 have:=YX (n:=n) (N:=N) (tm:=tm) (tm':=(Zk2 n l bx mk q sp nw H S (p++r) done).tmps) (L:=[(3,.box [.sub 13 n 200 (p++x::r).length 0 (p++r).length]),(200,.Zg 54 13 (flat (Zat p r)) (p++x::r).length)]) (H:=plH H l bx mk q sp nw done S)
  (j0:=3) (j:=200) (i:=0) (e:=54) (sz:=13) (k:=(p++x::r).length) (av':=.sl 13 ((p++r).map Lt.enc) .any) (cs0:=[.sub 13 n 200 (p++x::r).length 0 (p++r).length]) 83 hN (Zat p r) dc rfl rfl (.inr ⟨0,(p++r).length,rfl,?_⟩) rfl rfl ?_ (ZoH p r) ?_ ?_ ?_
 ·exact this
 ·rw[GV,Zat,MW sm]
 ·simp[Zat]
 ·intro c hc;exact((Ze.Zhx (n:=n) (m:=0) p r).1 c hc).inside
 ·intro t ht;simp only[Zk2,Qk,Qy,or_false]at ht;rcases ht with rfl|rfl|rfl
  ·exact⟨show 5≠83 by decide,by rw[h5];exact .refl _,by rw[h5];exact Jy hl dc⟩
  ·exact⟨show 2≠83 by decide,by rw[h2];exact .refl _,by rw[h2];exact Zc0 hl⟩
  ·exact⟨show 3≠83 by decide,by rw[h3];exact .refl _,by rw[h3];exact .ptr _ _ _ (.inr ⟨rfl,dc⟩)⟩
 ·intro t ht;simp only[setb,delb,if_true,Qk,Qy,or_false]at ht;simp at ht;subst ht;exact Ze.ZA ⟨.dead,trivial⟩
theorem ZoE{mk q:Nat}{φ:Fm}{N:Nat}(hl:l<n)(h0:0<l)(hd:mk≠q∧mk≠bx∧q≠bx){sp nw:AV}{H:Za}(hT:Tabs H){p r:List Lt}{x:Lt}(hx:Sm x){done:List (Stp×Lt)}(hlen:(p++x::r).length≤1000000)
  {o:Oper} {g:Operand} {args:List Operand} {ts:List TypeId} {F:Zb→Prop} (hg:evT tm g= .fn (.func 84) [.iptr [.ptr l bx 0],.ptr n 3 0]) (ha:Yo tt (evT tm) args ts=[.int .i64 p.length])
  (h:F ⟨Yl tm o.dst (.tup []),[(3,.box [.sub 13 n 200 (p++x::r).length 0 (p++r).length]),(200,.Zg 54 13 (flat (Zat p r)) (p++x::r).length)],plH H l bx mk q sp nw done (ZO S (ZJ x))⟩):
  Vg ⟨Tryz.prog,tt,φ,n,N⟩ false o g args ts ⟨tm,[(3,.box [.sl 13 ((p++x::r).map Lt.enc) .any])],plH H l bx mk q sp nw done S⟩ F:=by
 have hne:¬l=n:=by omega
 have hT2:Tabs (full n [(3,.box [.sl 13 ((p++x::r).map Lt.enc) .any])] (plH H l bx mk q sp nw done S)):=hT.up fun k=>by
  rw[Zj om];unfold plH Za.upd;simp only[show¬(0:Nat)=l by omega,false_and,if_false]
 have hc:=k84 (n+1) _ hT2 l bx mk n 3 200 hl om h0 dc sp nw (.msl 1 l q done.length) (by rw[Zj hl];simp[plH,Za.upd]) S (by rw[Zj hl];simp[plH,Za.upd,hd.1,hd.2.1]) p r x hx hlen (by simp[full,lkb]) (by simp[full,lkb]);refine YW (caps:=[.iptr [.ptr l bx 0],.ptr n 3 0]) (avs:=[.int .i64 p.length]) hg (Zf Tryz.func84 rfl rfl) hc ha ?_;rintro _ H1 ⟨rfl,rfl⟩;refine⟨[(3,.box [.sub 13 n 200 (p++x::r).length 0 (p++r).length]),(200,.Zg 54 13 (flat (Zat p r)) (p++x::r).length)],(plH H l bx mk q sp nw done S).upd l mk (.map (encS (ZO S (ZJ x)))),?_,.upd (WE _),?_⟩
 ·rw[←Yj n _ _ _ _ _ hne,←Zm,←Zm];rfl
 ·show F ⟨_,_,(plH H l bx mk q sp nw done S).upd l mk _⟩;rw[ZqI H l bx mk q hd];exact h
def plO:Opt:=⟨true,true,fun d=>if d=37∨d=38∨d=66∨d=67 then .pure else if d=44∨d=73 then .heap else .auto,[]⟩
theorem k42(n:Nat)(H:Za)(hT:Tabs H)(l bx mk q:Nat)(h0:0<l)(hl:l<n)(hd:mk≠q∧mk≠bx∧q≠bx)(sp nw:AV)(S:List Str)(ls:List Lt)(hs:∀x∈ls,Sm x)(hlen:ls.length≤1000000)(hsp:Below n sp∧Below n nw)
  (hbx:H l bx=some (.box [.map l mk,sp,nw,.msl 1 l q 0])) (hq:H l q=some (.Zg 84 1 [] 0)) (hm:H l mk=some (.map (encS S))):
  Zi Tryz.prog n 42 [.ptr l bx 0,.sl 13 (ls.map Lt.enc) .any] H fun r H'=>r= .bool ((plG ls.length S ls).2.2.all (XV (plG ls.length S ls).2.1))∧H'=plH H l bx mk q sp nw (plG ls.length S ls).1 (plG ls.length S ls).2.1:=by
 have hne:¬l=n:=by omega
 have hn:0<n:=by omega
 obtain⟨D,hD⟩:∃D,D=(plG ls.length S ls).1:=⟨_,rfl⟩
 obtain⟨E,hE⟩:∃E,E=(plG ls.length S ls).2:=⟨_,rfl⟩
 have hH0:plH H l bx mk q sp nw [] S=H:=by
  unfold plH;rw[Yd hm];exact(congrArg (fun G:Za=>G.upd l bx _) (Yd hq)).trans (Yd hbx)
 rw[←hD,←hE];refine aF Tryz.func42 fun B=>?_
 refine nR ?_;refine kK ?_;refine ZY 2 [.ptr l bx 0] [(2,.iptr [.ptr l bx 0]),(3,.ptr n 3 0)] rfl ⟨.ptr _ _ _ (.inl hl),trivial⟩ ?_ ⟨Ze.ZA ⟨(Yb ls).inside,trivial⟩,trivial⟩ ?_
 ·exact⟨.inr ⟨0,rfl,rfl⟩,.inl ⟨.refl _,.ptr _ _ _ (.inr ⟨rfl,dc⟩)⟩,trivial⟩
 refine aS ?_;refine Zk0 (rest0:=(ZQ Tryz.f42).snd.fst.snd.snd) 0 (I42 n l bx mk q sp nw H D E) ls.length (Zk2 n l bx mk q sp nw H S ls []) rfl rfl (fun _ _ h=>ZbZ rfl (Wq rfl h)) ?_ ⟨S,ls,[],rfl,rfl,hs,hD.symm,hE.symm,by simpa using hlen⟩ ?_
 ·intro Q' h;rw[Zk2,hH0]at h;refine nR ?_;refine kK ?_;refine ZqA rfl ?_;refine ZK ?_ h;exact KK
 rintro m _ ⟨S,ls,done,rfl,rfl,hs,hD,hE,hlen⟩;unfold Zk2;obtain⟨G,hG⟩:∃G,G=plH H l bx mk q sp nw done S:=⟨_,rfl⟩
 have hGb:G l bx=some (.box [.map l mk,sp,nw,.msl 1 l q done.length]):=by rw[hG];simp[plH,Za.upd]
 have hGq:G l q=some (.Zg 84 1 (done.map (fnV l bx)) done.length):=by rw[hG];simp[plH,Za.upd,hd.2.2]
 rw[←hG];refine nR ?_;refine kK ?_;refine Yc (fun i=>⟨[(17,.int .i64 i),(16,.int .i64 ls.length),(15,.sl 13 (ls.map Lt.enc) .any),(5,.fn (.func 84) [.iptr [.ptr l bx 0],.ptr n 3 0]),(2,.iptr [.ptr l bx 0]),(3,.ptr n 3 0)],[(3,.box [.sl 13 (ls.map Lt.enc) .any])],G⟩)
  (fun i=>∀j (h:j<ls.length),j<i→Y0 S ls[j]=none) ls.length rfl ?_ (fun j _ h=>absurd h (Qm _)) ?_
 ·exact KK
 intro i hi hr;refine Ya rfl ?_;rcases Qg i ls.length with h|h
 ·obtain⟨x,hx⟩:∃x,x=ls[i]:=⟨_,rfl⟩
  have hxs:=hs _ (Qa h);rw[←hx]at hxs;refine nq h ?_;refine nT ?_;refine nr ?_;simp only[go_sem,simprocAttr,Lt.Zp _ _ h,h,←hx];refine nR ?_;by_cases k2:x.kind=2
  ·refine VB rfl rfl (by simp only[go_sem,simprocAttr,k2]) ?_;refine nR ?_;refine cQ (j87 (n+1) _ l bx l mk om om sp nw (.msl 1 l q done.length) ?_ S ?_ x hxs) ?_
   ·rw[Zj hl,hG];simp[plH,Za.upd]
   ·rw[Zj hl,hG];simp[plH,Za.upd,hd.1,hd.2.1]
   have hrd:=ZnJ S x k2;generalize Za2 S x=rd at hrd⊢;obtain⟨sn,tn,b⟩:=rd;refine aS ?_;cases b with
   |false=>
    have hno:Y0 S x=none:=by rw[hrd];rfl
    refine nR ?_;refine nF ?_;refine nR ?_;refine nN ?_;refine⟨fun j hj hji=>?_,?_⟩
    ·rcases Qg j i with h'|h'
     ·exact hr j hj h'
     ·have:j=i:=by omega
      subst this;rw[←hx];exact hno
    ·refine Zh ?_ ?_ ?_ ?_<;>repeat' first|apply q0|exact xx|apply aI
     ·refine aS ?_;rw[iw];exact .refl _
     all_goals first|exact Zc0 hl|exact(Yb ls).inside|exact Jy hl rfl
   |true=>
    refine nR ?_;refine nT ?_;have hrs:Y0 S x=some (if sn=[]then .test x else .bind sn tn):=by rw[hrd];rfl
    refine ZY 7 x.cs [(7,.iptr x.cs),(8,.ptr n 8 0),(9,.ptr n 9 0),(6,.int .i64 i),(5,.fn (.func 84) [.iptr [.ptr l bx 0],.ptr n 3 0]),(2,.iptr [.ptr l bx 0]),(3,.ptr n 3 0)] rfl (Z5 fun c hc=>(x.bcs.mem c hc).inside) ?_ ?_ ?_
    ·exact⟨.inr ⟨0,rfl,rfl⟩,.inl ⟨.refl _,.ptr _ _ _ (.inr ⟨rfl,dc⟩)⟩,.inl ⟨.refl _,.ptr _ _ _ (.inr ⟨rfl,dc⟩)⟩,.inl ⟨.refl _,.int _ _⟩,.inl ⟨.refl _,Jy hl dc⟩,.inl ⟨.refl _,Zc0 hl⟩,.inl ⟨.refl _,.ptr _ _ _ (.inr ⟨rfl,dc⟩)⟩,trivial⟩
    ·exact⟨Ze.ZA ⟨(Yb ls).inside,trivial⟩,Ze.ZA ⟨.str _,trivial⟩,Ze.ZA (Z5 fun c hc=>(tn.bcs.mem c hc).inside),trivial⟩
    refine aS ?_;refine ZY 8 [.str sn] [(8,.iptr [.str sn]),(7,.iptr x.cs),(9,.ptr n 9 0),(6,.int .i64 i),(5,.fn (.func 84) [.iptr [.ptr l bx 0],.ptr n 3 0]),(2,.iptr [.ptr l bx 0]),(3,.ptr n 3 0)] rfl ⟨.str _,trivial⟩ ?_ ?_ ?_
    ·exact⟨.inr ⟨0,rfl,rfl⟩,.inl ⟨.refl _,(Zl x.bcs).inside⟩,.inl ⟨.refl _,.ptr _ _ _ (.inr ⟨rfl,dc⟩)⟩,.inl ⟨.refl _,.int _ _⟩,.inl ⟨.refl _,Jy hl dc⟩,.inl ⟨.refl _,Zc0 hl⟩,.inl ⟨.refl _,.ptr _ _ _ (.inr ⟨rfl,dc⟩)⟩,trivial⟩
    ·exact⟨Ze.ZA ⟨(Yb ls).inside,trivial⟩,Ze.ZA (Z5 fun c hc=>(tn.bcs.mem c hc).inside),trivial⟩
    refine aS ?_;refine ZY 9 tn.cs [(9,.iptr tn.cs),(8,.iptr [.str sn]),(7,.iptr x.cs),(6,.int .i64 i),(5,.fn (.func 84) [.iptr [.ptr l bx 0],.ptr n 3 0]),(2,.iptr [.ptr l bx 0]),(3,.ptr n 3 0)] rfl (Z5 fun c hc=>(tn.bcs.mem c hc).inside) ?_ ?_ ?_
    ·exact⟨.inr ⟨0,rfl,rfl⟩,.inl ⟨.refl _,(Zl (cs:=[.str sn]) ⟨.str _,trivial⟩).inside⟩,.inl ⟨.refl _,(Zl x.bcs).inside⟩,.inl ⟨.refl _,.int _ _⟩,.inl ⟨.refl _,Jy hl dc⟩,.inl ⟨.refl _,Zc0 hl⟩,.inl ⟨.refl _,.ptr _ _ _ (.inr ⟨rfl,dc⟩)⟩,trivial⟩
    ·exact⟨Ze.ZA ⟨(Yb ls).inside,trivial⟩,trivial⟩
    refine nR ?_;refine nR ?_;refine VU ⟨[(11,fnV l bx (if sn=[]then .test x else .bind sn tn,x)),(6,.int .i64 i),(5,.fn (.func 84) [.iptr [.ptr l bx 0],.ptr n 3 0]),(2,.iptr [.ptr l bx 0]),(3,.ptr n 3 0)],[(3,.box [.sl 13 (ls.map Lt.enc) .any])],G⟩ ?_ ?_
    ·by_cases hsn:sn=[]
     ·rw[if_pos hsn];have hsb:(!sn==[])=false:=by simp[hsn]
      refine VB rfl rfl (by simp only[go_sem,simprocAttr,hsb]) ?_;refine nN ?_;refine⟨rfl,?_⟩;refine Zh ?_ ?_ ?_ ?_<;>repeat' first|apply q0|exact xx|apply aI
      all_goals first|exact Zc0 hl|exact(Yb ls).inside|exact Jy hl rfl|exact(Zcl l bx hl (Stp.test x,x)).inside|exact(Zcl l bx hl (Stp.bind sn tn,x)).inside
     ·rw[if_neg hsn];have hsb:(!sn==[])=true:=by simp[hsn]
      refine VK rfl rfl (by simp only[go_sem,simprocAttr,hsb]) ?_;refine nR ?_;refine nN ?_;refine⟨rfl,?_⟩;refine Zh ?_ ?_ ?_ ?_<;>repeat' first|apply q0|exact xx|apply aI
      all_goals first|exact Zc0 hl|exact(Yb ls).inside|exact Jy hl rfl|exact(Zcl l bx hl (Stp.test x,x)).inside|exact(Zcl l bx hl (Stp.bind sn tn,x)).inside
    generalize (if sn=[]then Stp.test x else .bind sn tn)=s at hrs⊢;have hpl:=Zof i h hr (hx▸hrs);refine nD plO ?_;obtain⟨G1,hG1⟩:∃G1,G1=G.upd l q (.Zg 84 1 (done.map (fnV l bx)++[fnV l bx (s,x)]) (done.length+1)):=⟨_,rfl⟩
    have hGb1:G1 l bx=some (.box [.map l mk,sp,nw,.msl 1 l q done.length]):=by rw[hG1];simp only[Za.upd,hd.2.2.symm,and_false,if_false];exact hGb
    have hfl:flat [fnV l bx (s,x)]=[fnV l bx (s,x)]:=by simp[flat,Zb2]
    have hdl:done.length+1≤1000000:=by omega
    simp only[go_sem,simprocAttr,plO,hne,hGb,hGq,Zb2,Zm9,hfl,←hG1,hGb1];have e2:done.map (fnV l bx)++[fnV l bx (s,x)]=(done++[(s,x)]).map (fnV l bx):=by simp
    refine⟨rfl,⟨Zn om,om⟩,.inr (e2▸Zhw hl _),.inr (Ze.ZB ⟨.map _ _ hl,hsp.1,hsp.2,.msl _ _ _ _ hl,trivial⟩),?_⟩;rw[hG1,hG,Zmg H l bx mk q hd];obtain⟨p,r,hls,hpi⟩:∃p r,ls=p++x::r∧p.length=i:=⟨ls.take i,ls.drop (i+1),by rw[hx];simp,by simp;omega⟩
    have hpr:ls.take i++ls.drop (i+1)=p++r:=by rw[hls,←hpi];simp
    rw[←hx,hpr]at hpl;subst hls hpi;refine nR ?_;refine ZoE hl h0 hd hT hxs om rfl sS ?_;refine aS ?_;refine kK ?_;have hst:=ZkB hpl (f:=(p++r).length) (by simp;omega);refine ZoS rfl (ZdA ⟨rfl,_,_,?_,ZsX hl hd dc sS sS sS,⟨_,_,_,rfl,rfl,?_,?_,?_,?_⟩⟩ _)
    ·simp
    ·exact fun y hy=>hs y (by rcases Qj.1 hy with h|h;all_goals simp[h])
    ·rw[←hD,hst];simp
    ·rw[←hE,hst]
    ·simp at hlen⊢;omega
  ·have k2':(x.kind !=2)=true:=by simp[k2]
   have hno:Y0 S x=none:=by unfold Y0;rw[if_neg k2]
   refine VK rfl rfl (by simp only[go_sem,simprocAttr,k2']) ?_;refine ZkX rfl rfl rfl ?_;refine nR ?_;refine nN ?_;refine⟨fun j hj hji=>?_,?_⟩
   ·rcases Qg j i with h'|h'
    ·exact hr j hj h'
    ·have:j=i:=by omega
     subst this;rw[←hx];exact hno
   ·refine Zh ?_ ?_ ?_ ?_<;>repeat' first|apply q0|exact xx|apply aI
    ·refine aS ?_;rw[iw];exact .refl _
    all_goals first|exact Zc0 hl|exact(Yb ls).inside|exact Jy hl rfl
 ·have hi':i=ls.length:=by omega
  subst hi';have hr0:∀j (h:j<ls.length),Y0 S ls[j]=none:=fun j h=>hr j h h
  refine nq (QE.2 h) ?_;refine nF ?_;refine nX ?_;refine nR ?_;refine kK ?_;refine Yc (fun i=>⟨[(53,.int .i64 i),(52,.int .i64 ls.length),(51,.sl 13 (ls.map Lt.enc) .any),(5,.fn (.func 84) [.iptr [.ptr l bx 0],.ptr n 3 0]),(2,.iptr [.ptr l bx 0]),(3,.ptr n 3 0)],[(3,.box [.sl 13 (ls.map Lt.enc) .any])],G⟩)
   (fun i=>∀j (h:j<ls.length),j<i→JU ls[j]=none) ls.length rfl ?_ (fun j _ h=>absurd h (Qm _)) ?_
  ·exact KK
  intro i hi ha;refine Ya rfl ?_;rcases Qg i ls.length with h|h
  ·obtain⟨x,hx⟩:∃x,x=ls[i]:=⟨_,rfl⟩
   have hxs:=hs _ (Qa h);rw[←hx]at hxs;refine nq h ?_;refine nT ?_;refine nr ?_;simp only[go_sem,simprocAttr,Lt.Zp _ _ h,h,←hx];by_cases k1:x.kind=1∧x.neg=false
   ·have e1:(x.kind==1)=true:=by simp[k1.1]
    have has:JU x=some (.atom x.at_):=by unfold JU;rw[if_pos k1]
    have e2:(!x.neg)=true:=by simp[k1.2]
    refine nq2 e1 e2 ?_;refine nT ?_;refine ZY 13 x.cs [(13,.iptr x.cs),(12,.int .i64 i),(5,.fn (.func 84) [.iptr [.ptr l bx 0],.ptr n 3 0]),(2,.iptr [.ptr l bx 0]),(3,.ptr n 3 0)] rfl (Z5 fun c hc=>(x.bcs.mem c hc).inside) ?_ ?_ ?_
    ·exact⟨.inr ⟨0,rfl,rfl⟩,.inl ⟨.refl _,.int _ _⟩,.inl ⟨.refl _,Jy hl dc⟩,.inl ⟨.refl _,Zc0 hl⟩,.inl ⟨.refl _,.ptr _ _ _ (.inr ⟨rfl,dc⟩)⟩,trivial⟩
    ·exact⟨Ze.ZA ⟨(Yb ls).inside,trivial⟩,trivial⟩
    refine aS ?_;obtain⟨G1,hG1⟩:∃G1,G1=G.upd l q (.Zg 84 1 (done.map (fnV l bx)++[fnV l bx (.atom x.at_,x)]) (done.length+1)):=⟨_,rfl⟩
    have hGb1:G1 l bx=some (.box [.map l mk,sp,nw,.msl 1 l q done.length]):=by rw[hG1];simp only[Za.upd,hd.2.2.symm,and_false,if_false];exact hGb
    have hfv:AV.fn (.func 92) [.iptr [.ptr l bx 0],.iptr x.cs]=fnV l bx (.atom x.at_,x):=rfl;simp only[Lt.cs]at hfv;have hfl:flat [fnV l bx (.atom x.at_,x)]=[fnV l bx (.atom x.at_,x)]:=by simp[flat,Zb2]
    have hdl:done.length+1≤1000000:=by omega
    have hpl:=Zli i h hr0 ha (hx▸has);refine nD plO ?_;simp only[go_sem,simprocAttr,plO,hne,hGb,hGq,hfv,Zb2,Zm9,hfl,←hG1,hGb1];have e2:done.map (fnV l bx)++[fnV l bx (.atom x.at_,x)]=(done++[(Stp.atom x.at_,x)]).map (fnV l bx):=by simp
    refine⟨rfl,⟨Zn om,om⟩,.inr (e2▸Zhw hl _),.inr (Ze.ZB ⟨.map _ _ hl,hsp.1,hsp.2,.msl _ _ _ _ hl,trivial⟩),?_⟩;rw[hG1,hG,Zmg H l bx mk q hd];obtain⟨p,r,hls,hpi⟩:∃p r,ls=p++x::r∧p.length=i:=⟨ls.take i,ls.drop (i+1),by rw[hx];simp,by simp;omega⟩
    have hpr:ls.take i++ls.drop (i+1)=p++r:=by rw[hls,←hpi];simp
    rw[←hx,hpr]at hpl;subst hls hpi;refine nR ?_;refine ZoE hl h0 hd hT hxs om rfl sS ?_;refine aS ?_;refine kK ?_;have hst:=ZkB hpl (f:=(p++r).length) (by simp;omega);refine ZoS rfl (ZdA ⟨rfl,_,_,?_,ZsX hl hd dc sS sS sS,⟨_,_,_,rfl,rfl,?_,?_,?_,?_⟩⟩ _)
    ·simp
    ·exact fun y hy=>hs y (by rcases Qj.1 hy with h|h;all_goals simp[h])
    ·rw[←hD,hst];simp
    ·rw[←hE,hst]
    ·simp at hlen⊢;omega
   ·have hno:JU x=none:=by unfold JU;rw[if_neg k1]
    have e1:((x.kind==1)&& !x.neg)=false:=by
     cases h1:(x.kind==1)with
     |false=>rfl
     |true=>
      cases h2:x.neg with
      |false=>exact absurd ⟨by simpa using h1,h2⟩ k1
      |true=>rfl
    cases h1:(x.kind==1)with
    |false=>
     refine nq h1 ?_;refine nF ?_;refine nR ?_;refine nN ?_;refine⟨fun j hj hji=>?_,?_⟩
     ·rcases Qg j i with h'|h'
      ·exact ha j hj h'
      ·have:j=i:=by omega
       subst this;rw[←hx];exact hno
     ·refine Zh ?_ ?_ ?_ ?_<;>repeat' first|apply q0|exact xx|apply aI
      ·refine aS ?_;rw[iw];exact .refl _
      all_goals first|exact Zc0 hl|exact(Yb ls).inside|exact Jy hl rfl
    |true=>
     rw[h1,MP]at e1;refine nq2 h1 e1 ?_;refine nF ?_;refine nR ?_;refine nN ?_;refine⟨fun j hj hji=>?_,?_⟩
     ·rcases Qg j i with h'|h'
      ·exact ha j hj h'
      ·have:j=i:=by omega
       subst this;rw[←hx];exact hno
     ·refine Zh ?_ ?_ ?_ ?_<;>repeat' first|apply q0|exact xx|apply aI
      ·refine aS ?_;rw[iw];exact .refl _
      all_goals first|exact Zc0 hl|exact(Yb ls).inside|exact Jy hl rfl
  ·have hi':i=ls.length:=by omega
   subst hi';have ha0:∀j (h:j<ls.length),JU ls[j]=none:=fun j h=>ha j h h
   have hpl:=Zqn (ZpN hr0 ha0);refine nq (QE.2 h) ?_;refine nF ?_;refine nX ?_;refine nR ?_;refine YW (caps:=[]) (avs:=[.sl 13 (ls.map Lt.enc) .any,.fn (.func 94) [.iptr [.ptr l bx 0]]]) rfl (Zf Tryz.func78 rfl rfl) (h78 ls om 94 [.iptr [.ptr l bx 0]] (fun x=>!XV S x) (n+1) _ ⟨⟨_,_,Zf Tryz.func94 rfl rfl⟩,fun x hx m G2 hm hG2=>?_,fun m hm=>⟨Zl (cs:=[.ptr l bx 0]) ⟨.ptr _ _ _ om,trivial⟩,trivial⟩⟩) sS ?_
   ·exact k94 m G2 (hT.up fun k=>by
     rw[hG2 0 k om,Zj hn,hG];unfold plH Za.upd;simp only[show¬(0:Nat)=l by omega,false_and,if_false]) om l bx mk om sp nw (.msl 1 l q done.length) (by rw[hG2 _ _ om,Zj hl];exact hGb) S (by rw[hG2 _ _ om,Zj hl,hG];simp[plH,Za.upd,hd.1,hd.2.1]) x (hs x hx)
   rintro r H1 ⟨rfl,rfl⟩;refine⟨_,_,rfl,.refl _ _,?_⟩;refine aS ?_;refine nV ?_;rw[hpl,Qu]at hD;rw[hpl]at hE;subst hD hE;have hany:(!ls.any fun x=>!XV S x)=ls.all (XV S):=by
    rw[UQ];simp
   show PostF Tryz.prog tt n [.tmp 4] (fun r H'=>r=AV.bool (ls.all (XV S))∧H'=plH H l bx mk q sp nw done S) .ret _;refine Zo (v:=.bool (ls.all (XV S))) ?_ (.bool _) ?_
   ·refine aq hany ?_;exact .refl _
   ·exact⟨rfl,hG⟩
end
def okB(pr:Option Str)(p:Str×Tm):Bool:=(match pr with
 |none=>true
 |some s=>decide (Lib.compareBytes s p.1<0))&&Zu p.2
def vB:Option Str→Bnd→Bool
 |_,[]=>true
 |pr,p::r=>okB pr p&&vB (some p.1) r
theorem Zml(s:Str)(v:Tm):∀r:Bnd,(Zu v&&vB (some s) r)=validB ((s,v)::r)
 |[]=>by simp[vB,validB]
 |p::r=>by
  have:=Zml p.1 p.2 r;simp only[vB,okB,validB]at this⊢;rw[←this];cases Zu v<;>cases Zu p.2<;>simp
theorem vB_none:∀b:Bnd,vB none b=validB b
 |[]=>rfl
 |p::r=>by
  have:=Zml p.1 p.2 r;rw[←this];simp[vB,okB]
theorem Zqa(x y:Str):(Op.bytesLess x y||x==y)= !decide (Lib.compareBytes y x<0):=by
 have h1:=ZnM x y;have h2:Lib.compareBytes y x= -Lib.compareBytes x y:=by rw[ZfE,ZfE,lexI_anti]
 rw[h2,←h1];cases Op.bytesLess x y with
 |true=>simp
 |false=>
  cases hxy:x==y with
  |true=>simp
  |false=>simp
def Zk6(b:Bnd)(i:Nat):Option Str:=if i=0 then none else(b[i - 1]?).map Prod.fst
def ZuX(b:Bnd)(H:Za)(i:Nat):Zb:=⟨[(7,.int .i64 i),(6,.int .i64 b.length),(5,.sl 5 (b.map eBd) .any),(0,.sl 5 (b.map eBd) .any)],[],H⟩
theorem k39(b:Bnd)(hb:b.length≤1000000)(gb:∀x∈b,x.2.Good):Z4 Tryz.prog 39 [.sl 5 (b.map eBd) .any] (.bool (validB b)):=by
 intro n H hn hT;refine aF Tryz.func39 fun B=>?_
 refine nR ?_;refine nR ?_;refine kK ?_;refine Yc (ZuX b H) (fun i=>validB b=vB (Zk6 b i) (b.drop i)) b.length rfl ?_ (vB_none b).symm ?_
 ·exact KK
 intro i hi hc;refine Ya rfl ?_;rcases Qg i b.length with h|h
 ·rw[Qw h,vB]at hc;refine nq h ?_;refine nT ?_;refine nr ?_;simp only[go_sem,simprocAttr,getD_map eBd _ _ h,h];have hv:=a37 b[i].2 (gb _ (Qa h));have hps:∀i (h:i<b.length),Zk6 b (i+1)=some b[i].1:=fun i h=>by simp[Zk6,Qd h]
  cases i with
  |zero=>
   have hk:okB (Zk6 b 0) b[0]=Zu b[0].2:=by simp[okB,Zk6]
   rw[hk]at hc;have h00:decide (0<(0:Int))=false:=rfl;refine Y5 tok mixed drawO rfl rfl rfl ?_;simp -implicitDefEqProofs (maxSteps:=1000000) only[go_sem,simprocAttr,h00,Int.natCast_zero];refine cT (hv) ?_;refine kK ?_;cases hvv:Zu b[0].2 with
   |false=>
    refine VK rfl rfl (by simp only[go_sem,simprocAttr,hvv]) ?_;refine nR ?_;refine nW ?_;refine Zc ?_ (.bool _) rfl;rw[hc,hvv];exact .refl _
   |true=>
    refine VB rfl rfl (by simp only[go_sem,simprocAttr,hvv]) ?_;refine nR ?_;refine nN ?_;refine⟨by rw[hc,hvv,hps 0 h,MP],?_⟩;exact KK
  |succ i=>
   have h':i<b.length:=by omega
   have hk:okB (Zk6 b (i+1)) b[i+1]=(decide (Lib.compareBytes b[i].1 b[i+1].1<0)&&Zu b[i+1].2):=by simp[okB,Zk6,Qd h']
   rw[hk]at hc;have hgt:decide (0<((i+1:Nat):Int))=true:=by simp
   have hw:IntKind.i64.wrap (((i+1:Nat):Int) - 1)=(i:Int):=by rw[show((i+1:Nat):Int) - 1=(i:Int) by omega];exact iw
   cases hlt:decide (Lib.compareBytes b[i].1 b[i+1].1<0)with
   |false=>
    rw[hlt,Qau,Qau]at hc;refine Y5 tok mixed drawO rfl rfl rfl ?_;simp -implicitDefEqProofs (maxSteps:=1000000) only[go_sem,simprocAttr,hgt,hw,getD_map eBd _ _ h',h',Zqa,hlt];refine kK ?_;refine VK rfl rfl (by simp only[go_sem,simprocAttr,hlt]) ?_;refine nR ?_;refine nW ?_;refine Zc ?_ (.bool _) rfl;rw[hc];exact .refl _
   |true=>
    rw[hlt,MP]at hc;refine Y5 tok mixed drawO rfl rfl rfl ?_;simp -implicitDefEqProofs (maxSteps:=1000000) only[go_sem,simprocAttr,hgt,hw,getD_map eBd _ _ h',h',Zqa,hlt];refine cT (hv) ?_;refine kK ?_;cases hvv:Zu b[i+1].2 with
    |false=>
     refine VK rfl rfl (by simp only[go_sem,simprocAttr,hvv]) ?_;refine nR ?_;refine nW ?_;refine Zc ?_ (.bool _) rfl;rw[hc,hvv];exact .refl _
    |true=>
     refine VB rfl rfl (by simp only[go_sem,simprocAttr,hvv]) ?_;refine nR ?_;refine nN ?_;refine⟨by rw[hc,hvv,hps (i+1) h,MP],?_⟩;exact KK
 ·refine nq (QE.2 h) ?_;refine nF ?_;refine nX ?_;refine nR ?_;refine nV ?_;refine Zc ?_ (.bool _) rfl;rw[hc,Uk h];exact .refl _
theorem Zm6{α:Type}(p:α→Bool)(l:List α):(l.any fun t=>!p t)= !l.all p:=by
 induction l with
 |nil=>rfl
 |cons x r ih=>simp only[List.any_cons,Qbs,ih,Bool.not_and]
theorem j79(x:Lt)(hx:x.Good):Z4 Tryz.prog 79 [x.enc,.iptr [.fn (.func 76) []]] (.bool (!Y7 x)):=by
 intro n H hn hT;have hs:=hx.at_.pred;have hbad:ZeX 76 [] Tm.enc x.at_.args (fun t=>!Zah t):=⟨⟨_,_,Zf Tryz.func76 rfl rfl⟩,fun t ht=>j76 t (hx.at_.arg ht),fun _=>trivial⟩
 refine aF Tryz.func79 fun B=>?_
 refine nR ?_;refine nR ?_;refine kK ?_;by_cases k1:x.kind=1
 ·have e1:(x.kind==1)=true:=by simp[k1]
  refine nq e1 ?_;refine nT ?_;refine nR ?_;refine cP (a45 x.at_.pred om) ?_;cases h1:sym x.at_.pred with
  |false=>
   refine aS ?_;refine YO rfl rfl ?_;refine Zc ?_ (.bool _) rfl;try simp only[go_sem,simprocAttr,Y7,k1,h1]
   exact .refl _
  |true=>
   cases h2:decide ((8:Int)<(x.at_.args.length:Int))with
   |true=>
    have e2:decide (x.at_.args.length≤8)=false:=by simp at h2⊢;omega
    refine aq h2 ?_;refine YO rfl rfl ?_;refine Zc ?_ (.bool _) rfl;try simp only[go_sem,simprocAttr,Y7,k1,h1,e2]
    exact .refl _
   |false=>
    have e2:decide (x.at_.args.length≤8)=true:=by simp at h2⊢;omega
    refine aq h2 ?_;refine cT (a46 x.at_.args hx.at_.len _ [] _ hbad) ?_;refine nV ?_;refine Zc ?_ (.bool _) rfl;simp only[go_sem,simprocAttr,Y7,k1,h1,e2,Zm6];exact .refl _
 ·have e1:(x.kind==1)=false:=by simp[k1]
  refine nq e1 ?_;refine nF ?_;by_cases k2:x.kind=2
  ·have e2:(x.kind==2)=true:=by simp[k2]
   refine nq e2 ?_;refine nT ?_;refine nR ?_;cases h1:x.neg with
   |true=>
    refine aq h1 ?_;refine YO rfl rfl ?_;refine Zc ?_ (.bool _) rfl;try simp only[go_sem,simprocAttr,Y7,k1,k2,h1]
    exact .refl _
   |false=>
    cases h2:decide (x.op<1)with
    |true=>
     have e3:decide (1≤x.op)=false:=by simp at h2⊢;omega
     refine aq2 h1 h2 ?_;refine YO rfl rfl ?_;refine Zc ?_ (.bool _) rfl;try simp only[go_sem,simprocAttr,Y7,k1,k2,h1,e3]
     exact .refl _
    |false=>
     have e3:decide (1≤x.op)=true:=by simp at h2⊢;omega
     cases h3:decide (6<x.op)with
     |true=>
      have e4:decide (x.op≤6)=false:=by simp at h3⊢;omega
      simp only[go_sem,simprocAttr,h1,h2,h3];refine YO rfl rfl ?_;refine Zc ?_ (.bool _) rfl;try simp only[go_sem,simprocAttr,Y7,k1,k2,h1,e3,e4]
      exact .refl _
     |false=>
      have e4:decide (x.op≤6)=true:=by simp at h3⊢;omega
      simp only[go_sem,simprocAttr,h1,h2,h3];refine YD (avs:=[x.L.enc]) rfl (Zf Tryz.func76 rfl rfl) (j76 x.L hx.L _ _ (QW _) (hT.full hn)) rfl ?_;cases h4:Zah x.L with
      |false=>
       refine aS ?_;refine YO rfl rfl ?_;refine Zc ?_ (.bool _) rfl;try simp only[go_sem,simprocAttr,Y7,k1,k2,h1,e3,e4,h4]
       exact .refl _
      |true=>
       refine aS ?_;refine YD (avs:=[x.R.enc]) rfl (Zf Tryz.func76 rfl rfl) (j76 x.R hx.R _ _ (QW _) (hT.full hn)) rfl ?_;refine aS ?_;refine YO rfl rfl ?_;refine Zc ?_ (.bool _) rfl;try simp only[go_sem,simprocAttr,Y7,k1,k2,h1,e3,e4,h4]
       exact .refl _
  ·have e2:(x.kind==2)=false:=by simp[k2]
   refine nq e2 ?_;refine nF ?_;refine nR ?_;refine YO rfl rfl ?_;refine Zc ?_ (.bool _) rfl;try simp only[go_sem,simprocAttr,Y7,k1,k2]
   exact .refl _
theorem j38(l:List Lt)(hl:l.length≤1000000)(hg:∀x∈l,x.Good):Z4 Tryz.prog 38 [.sl 13 (l.map Lt.enc) .any] (.bool (l.all Y7)):=by
 intro n H hn hT;refine aF Tryz.func38 fun B=>?_
 refine nR ?_;refine nR ?_;refine kK ?_;refine ZY 3 [.fn (.func 76) []] [(2,.bool false),(3,.iptr [.fn (.func 76) []]),(0,.sl 13 (l.map Lt.enc) .any)] rfl ?_ ?_ trivial ?_
 ·exact⟨(Ja (caps:=[]) trivial).inside,trivial⟩
 ·exact⟨.inl ⟨.refl _,.bool _⟩,.inr ⟨0,rfl,rfl⟩,.inl ⟨.refl _,(Yb l).inside⟩,trivial⟩
 refine nR ?_;refine cT (j78 l hl 79 [.iptr [.fn (.func 76) []]] (fun x=>!Y7 x) ⟨⟨_,_,Zf Tryz.func79 rfl rfl⟩,fun x hx=>j79 x (hg x hx),fun n=>⟨Zl ⟨Ja (caps:=[]) trivial,trivial⟩,trivial⟩⟩) ?_;refine nV ?_;refine Zc ?_ (.bool _) rfl;simp only[go_sem,simprocAttr,Zm6,Bool.not_not];exact .refl _
structure Zty (n:Nat) (H:Za) (f:Nat) (caps:List AV) (l:List Bnd) (g:Bnd→Bnd):Prop where
 fn:∃fn c,Fun Tryz.prog f fn c
 on:∀x∈l,∀m G,n≤m→(∀l' k,l'<n→G l' k=H l' k)→PC Tryz.prog m f (Zk x::caps) G (Zk (g x))
 below:∀m,n≤m→Yi (fun c=>Below m c) caps
def Ztj(l:List Bnd)(f:Nat)(caps:List AV)(g:Bnd→Bnd)(n:Nat)(H:Za)(i:Nat):Zb:=
 ⟨[(10,.int .i64 i),(9,.int .i64 l.length),(8,.sl 1 (l.map Zk) .any),(5,.msl 1 n 200 i),(1,.fn (.func f) caps)],[(200,.Zg 34 1 (((l.take i).map g).map Zk) i)],H⟩
theorem Zor(v:AV)(h:v.cells=[v]):flat [v]=[v]:=by simp[flat,h]
theorem k43(n:Nat)(H:Za)(l:List Bnd)(hl:l.length≤1000000)(f:Nat)(caps:List AV)(g:Bnd→Bnd)(hp:Zty n H f caps l g)(l2 k2:Nat)(hl2:l2<n)(hfr:H l2 k2=none):
  Zi Tryz.prog n 43 [.sl 1 (l.map Zk) .any,.fn (.func f) caps] H fun r H'=>r= .msl 1 l2 k2 l.length∧H'=H.upd l2 k2 (.Zg 34 1 ((l.map g).map Zk) l.length):=by
 obtain⟨⟨fn,c,hf⟩,hp,hbl⟩:=hp;have hfi:∀q,Inside n q (.fn (.func f) caps):=fun q=>(Below.fn _ _ fun i hi=>(hbl n (Qe n)).mem _ (Qa hi)).inside
 have hbi:∀q,Inside n q (.sl 1 (l.map Zk) .any):=fun q=>(Zw l).inside
 have hmb:∀(q:Nat→Prop) (r:List Bnd) m,Ze.Inside n q (.Zg 34 1 (r.map Zk) m):=fun q r m=>⟨fun c hc=>by obtain⟨u,_,rfl⟩:=Qb.1 hc;exact(Zx n u).inside,by simp[Ze.at_]⟩
 have hmi:∀(q:Nat→Prop) (r:List Bnd),Yi (fun c=>Inside n q c) (r.map Zk):=fun q r=>Z5 fun c hc=>by obtain⟨u,_,rfl⟩:=Qb.1 hc;exact(Zx n u).inside
 have hbb:∀(r:List Bnd) m,Ze.Below n (.Zg 34 1 (r.map Zk) m):=fun r m=>⟨fun c hc=>by obtain⟨u,_,rfl⟩:=Qb.1 hc;exact Zx n u,by simp[Ze.at_]⟩
 refine aF Tryz.func43 fun B=>?_
 refine nR ?_;refine nR ?_;refine nR ?_;refine kK ?_;refine Zcc 5 200 34 1 rfl rfl ?_;refine Zr (Ztj l f caps g n H) l.length rfl ?_ ?_
 ·exact KK
 intro i hi;refine Ya rfl ?_;rcases Qg i l.length with h|h
 ·refine nq h ?_;refine nT ?_;refine nr ?_;simp only[go_sem,simprocAttr,getD_map Zk _ _ h,h];refine nR ?_;refine YD (avs:=[Zk l[i]]) rfl hf (hp l[i] (Qa h) (n+1) _ om fun l' k h=>Zj h _ _ _) rfl ?_;have hfl:flat [Zk (g l[i])]=[Zk (g l[i])]:=Zor _ rfl;have hta:((l.take i).map g).map Zk++[Zk (g l[i])]=((l.take (i+1)).map g).map Zk:=by rw[Qn h,QG,QG];rfl
  refine aq2 hfl hta ?_;refine⟨rfl,⟨Zn om,om⟩,?_⟩;refine nR ?_;refine nN ?_;refine Zh ?_ ?_ ?_ ?_<;>repeat' first|apply q0|exact xx|apply aI
  ·refine aS ?_;rw[iw];exact .refl _
  all_goals first|exact hfi _|exact hbi _|exact hmb _ _ _|exact .msl _ _ _ _ (.inr ⟨rfl,rfl⟩)|exact hmi _ _
 ·refine nq (QE.2 h) ?_;refine nF ?_;refine nX ?_;have hi':i=l.length:=by omega
  subst hi';refine nt0 ?_;refine ZbC 200 l2 k2 _ [(4,.msl 1 l2 k2 l.length)] hl2 hfr rfl (hbb _ _) ⟨⟨.inr (.inr (.inr ⟨1,_,rfl⟩)),by simp[lkv,ren];exact .refl _⟩,trivial⟩ trivial ?_;refine nV ?_;exact Zo (.refl _) (.msl _ _ _ _ hl2) ⟨rfl,rfl⟩
end Go.Proofs.YtmdeagmbfhbbnaaGreatDoorR
