/- Flat. -/
import Derived.Test.YtmdeagmbfhbbnaaGreatDoorRS11
import Derived.Test.YtmdeagmbfhbbnaaGreatDoorRS07
import Derived.Test.YtmdeagmbfhbbnaaGreatDoorRS10
import Derived.Test.YtmdeagmbfhbbnaaGreatDoorRS09
import Derived.Test.YtmdeagmbfhbbnaaGreatDoorRS08
import Derived.Test.YtmdeagmbfhbbnaaGreatDoorRS05
import Derived.Test.YtmdeagmbfhbbnaaGreatDoorRS04
import Derived.ScopeJumps
import Derived.Test.YtmdeagmbfhbbnaaGreatDoorRS06
set_option linter.all false
set_option maxRecDepth 100000
open Go.Proofs.Tryz
namespace Go.Proofs.YtmdeagmbfhbbnaaGreatDoorR
open Go.Abs
def Jc(S p q:List Str):ZM S (p++q)=ZM (ZM S p) q:=by unfold ZM;rw[U7]
section
variable {S:List Str}
def Zmy{cx:Cx}(hP:cx.P=prog){o:Oper}{args:List Operand}{ts:List TypeId}{tm:List (Nat×AV)}{L:List (Nat×Ze)}{H:Za}{k:Nat}{xs:List Str}{K:Zb→Prop}(hlen:xs.length≤1000000)(hk:lkb L k=some (.map (encS S)))
  (ha:Yo cx.T (evT tm) args ts=[.map cx.n k,.sl 1 (YO xs) .any]) (h:K ⟨Yl tm o.dst (.tup []),setb L k (.map (encS (ZM S xs))),H⟩):Zex cx o (.func 40) args ts ⟨tm,L,H⟩ K:=by
 obtain⟨P,T,φ,n,N⟩:=cx;dsimp only at hP ha h;subst hP;refine⟨40,_,_,[],.tup [],setb L k (.map (encS (ZM S xs))),H,rfl,Zf func40 rfl rfl,?_,.refl _ _,h⟩;rw[Qs,ha,Zn];exact j40 (n+1) _ n k (Qq n) S xs hlen (by simp only[full,if_true];exact hk)
def flAO:Opt:=⟨true,true,fun d=>if d=48 then .call else .auto,[]⟩
def gAt(l:List Lt)(used:List Str)(i:Nat):List Str:=ZM (ZM [] used) ((l.take i).flatMap fun x=>(Yw x).flatMap Z8)
def ZpN(l:List Lt)(used:List Str)(i:Nat)(h:i<l.length):gAt l used (i+1)=ZM (gAt l used i) ((Yw l[i]).flatMap Z8):=by
 unfold gAt;rw[Qn h,Uc,Jc];simp
def Ztz(n:Nat)(l:List Lt)(used:List Str)(H:Za)(i:Nat):Zb:=
 ⟨[(24,.int .i64 i),(23,.int .i64 l.length),(22,.sl 13 (l.map Lt.enc) .any),(5,.ptr n 15 0),(0,.sl 13 (l.map Lt.enc) .any)],[(13,.map (encS (gAt l used i))),(15,.box [.map n 13,.int .i64 0,.sl 13 [] .full])],H⟩
def ZtX(n:Nat)(l:List Lt)(q:List Tm)(S:List Str)(i:Nat)(H:Za)(j:Nat):Zb:=
 ⟨[(38,.int .i64 j),(37,.int .i64 q.length),(36,.sl 4 (q.map Tm.enc) .any),(24,.int .i64 i),(23,.int .i64 l.length),(22,.sl 13 (l.map Lt.enc) .any),(5,.ptr n 15 0),(0,.sl 13 (l.map Lt.enc) .any)],[(13,.map (encS (ZM S ((q.take j).flatMap Z8)))),(15,.box [.map n 13,.int .i64 0,.sl 13 [] .full])],H⟩
variable {x:Lt}
def Sm.tx(h:Sm x):(∀t∈Yw x,t.Good∧t.sz≤305)∧(Yw x).length≤307:=by
 have h3:=h.len;have h4:=h.at_;refine⟨fun t ht=>?_,by simp[Yw];omega⟩;simp only[Yw,Qk]at ht;rcases ht with rfl|rfl|ht
 ·exact⟨h.good.L,h.L⟩
 ·exact⟨h.good.R,h.R⟩
 ·exact⟨h.good.at_.arg ht,by have:=Tm.ZcL ht;omega⟩
def flY(S:List Str)(x:Lt)(c:Nat):Lt:=⟨x.kind,x.neg,⟨x.at_.pred,if x.kind=1 then(flT.flTs S x.at_.args c).1 else x.at_.args⟩,x.op,x.L,x.R⟩
def flD(S:List Str)(x:Lt)(c:Nat):List (Nat×Tm):=if x.kind=1 then(flT.flTs S x.at_.args c).2.2 else []
def flN(S:List Str)(x:Lt)(c:Nat):Nat:=if x.kind=1 then(flT.flTs S x.at_.args c).2.1 else c
def ZiM(S:List Str)(x:Lt)(c:Nat):flX S x c=(flY S x c::(flD S x c).map Vk,flN S x c):=by
 unfold flX flY flD flN;split
 ·rfl
 ·rfl
def ZqF(S:List Str)(x:Lt)(c:Nat):List AV:=(flY S x c).enc::(flD S x c).map Ja
def WW(S:List Str):List Lt→Nat→List AV
 |[],_=>[]
 |x::r,c=>ZqF S x c++WW S r (flN S x c)
theorem ZeK(S:List Str):∀(p q:List Lt) (c:Nat),WW S (p++q) c=WW S p c++WW S q (Zab S p c)
 |[],q,c=>rfl
 |x::p,q,c=>by
  have:=ZeK S p q (flN S x c);have e:(flX S x c).2=flN S x c:=by rw[ZiM]
  simp only[Q9,WW,Zab,e,this,Ua]
def ZnI(S:List Str)(l:List Lt)(c i:Nat)(h:i<l.length):WW S (l.take (i+1)) c=WW S (l.take i) c++ZqF S l[i] (Zab S (l.take i) c):=by
 rw[Qn h,ZeK];simp[WW]
variable {n:Nat}
def Zo2{c:Nat}:∀v∈ZqF S x c,Below n v∧ones v=true∧v.cells.length=13:=fun v hv=>by
 rcases Qk.1 hv with rfl|hv
 ·exact⟨Lt.blw n _,rfl,rfl⟩
 ·obtain⟨d,_,rfl⟩:=Qi.1 hv;exact⟨Zgf n d,rfl,rfl⟩
def ZkU{n:Nat}{S:List Str}:∀{l:List Lt} {c:Nat},∀v∈WW S l c,Below n v∧ones v=true∧v.cells.length=13
 |[],_,v,hv=>by cases hv
 |x::r,c,v,hv=>by
  rcases Qg.1 hv with hv|hv
  ·exact Zo2 v hv
  ·exact ZkU v hv
def wkss_append:∀{p q r s:List AV},Zc8 p q→Zc8 r s→Zc8 (p++r) (q++s)
 |[],[],_,_,_,h=>h
 |_::_,_::_,_,_,h1,h2=>⟨h1.1,wkss_append h1.2 h2⟩
 |[],_::_,_,_,h,_=>h.elim
 |_::_,[],_,_,h,_=>h.elim
def ZqM(S:List Str)(x:Lt)(c:Nat):Zc8 (ZqF S x c) ((flX S x c).1.map Lt.enc):=by
 rw[ZiM];refine⟨.refl _,?_⟩;generalize flD S x c=ds;induction ds with
 |nil=>trivial
 |cons d ds ih=>exact⟨.Ze7 ⟨.refl _,.refl _,.refl _,.nil _ _ _,.refl _,.refl _,.refl _,.refl _,.nil _ _ _,.refl _,.refl _,.refl _,.refl _,trivial⟩,ih⟩
def Zig(S:List Str):∀(l:List Lt) (c:Nat),Zc8 (WW S l c) ((flL S l c).map Lt.enc)
 |[],_=>trivial
 |x::r,c=>by
  have e:(flX S x c).2=flN S x c:=by rw[ZiM]
  rw[WW,flL,QL,e];exact wkss_append (ZqM S x c) (Zig S r _)
def Zps(S:List Str)(l:List Lt)(c:Nat):(WW S l c).length=(flL S l c).length:=by
 have:=(Zig S l c).len;simpa using this.symm
def Zh9(S:List Str)(l:List Lt)(i:Nat):AV:=if i=0 then .sl 13 [] .full else match l[i - 1]? with
 |some x=>.sl 13 ((flD S x (Zab S (l.take (i - 1)) 0)).map Ja) .any
 |none=>.sl 13 [] .any
def Zj5(S:List Str)(l:List Lt)(i:Nat)(h:i<l.length):Zh9 S l (i+1)= .sl 13 ((flD S l[i] (Zab S (l.take i) 0)).map Ja) .any:=by
 unfold Zh9;rw[if_neg om,show i+1 - 1=i by omega,Qb h]
def Znp(ds:List (Nat×Tm)):Below n (.sl 13 (ds.map Ja) .any):=Zy fun x hx=>by obtain⟨d,_,rfl⟩:=Qi.1 hx;exact Zgf n d
def ZrL(n:Nat)(l:List Lt)(S:List Str)(H:Za)(i:Nat):Zb:=
 ⟨[(53,.int .i64 i),(52,.int .i64 l.length),(51,.sl 13 (l.map Lt.enc) .any),(10,.sl 13 (WW S (l.take i) 0) (.buf n 201)),(5,.ptr n 15 0)],
  [(13,.map (encS S)),(15,.box [.map n 13,.int .i64 (Zab S (l.take i) 0),Zh9 S l i]),(201,.buf 54 13 (WW S (l.take i) 0).length)],H⟩
variable {p:Nat→Prop}
def Zim{l:List Lt}{c:Nat}(h:p 201):Inside n p (.sl 13 (WW S l c) (.buf n 201)):=Abs.Yz (fun x hx=>(ZkU x hx).1) h
def Zm0(ds:List (Nat×Tm)):Yg (fun c=>Inside n p c) (flat (ds.map Ja)):=ZY fun c hc=>((Zer (n:=n) (e:=54) (k:=0) ds).1 c hc).inside
def outO:Opt:=⟨true,true,fun d=>if d=88∨d=93 then .own 201 else .auto,[201]⟩
def ZkD(S:List Str):Yg (fun c=>Inside n p c) (List.map (fun x=>x.1) (encS S)++List.map (fun x=>x.2) (encS S)):=ZY fun c hc=>((WE (n:=n) S).1 c hc).inside
def Zeb{k:Nat}(h:p k):Inside n p (.map n k):=.map _ _ (.inr ⟨rfl,h⟩)
theorem Zl6(x:Lt):[x.L.enc,x.R.enc]++x.at_.args.map Tm.enc=(Yw x).map Tm.enc:=rfl
def Zqd{G:Za}{l b m q:Nat}{s:FZs}(h1:G l b=some (.box [.map l m,.int .i64 s.n,.msl 13 l q s.ds.length]))(h2:G l q=some (.Zg 54 13 (flat (s.ds.map Ja)) s.ds.length)):fsH G l b m q s=G:=by
 unfold fsH;rw[Yb h2,Yb h1]
def ZgF(h:Sm x):((Yw x).flatMap Z8).length≤915:=by
 have h1:=flatMap_vars_len (Yw x);have h2:=h.L;have h3:=h.R;have h4:=h.at_;simp only[Yw,Tm.sz.szs]at h1⊢;omega
def Zl5{l:List Lt}(hl:l.length≤10)(hs:∀x∈l,Sm x){used:List Str}(hu:used.length≤10000):(J7 l used).length≤20000:=by
 have h1:=addsN_len (S:=ZM [] used) (l:=l.flatMap fun x=>(Yw x).flatMap Z8);have h2:=addsN_len (S:=[]) (l:=used);have h3:∀q:List Lt,(∀x∈q,Sm x)→(q.flatMap fun x=>(Yw x).flatMap Z8).length≤q.length*915:=by
  intro q;induction q with
  |nil=>intro _;simp
  |cons x q ih=>
   intro h;have a1:=ZgF (h x sm);have a2:=ih fun y hy=>h y (by simp[hy])
   rw[QM,Qd,Qo];omega
 have h4:=h3 l hs;have h5:l.length*915≤10*915:=QE _ hl;simp only[QC]at h2;unfold J7;omega
def j26(l:List Lt)(hl:l.length≤10)(hs:∀x∈l,Sm x)(used:List Str)(hu:used.length≤10000):Z4 prog 26 [.sl 13 (l.map Lt.enc) .any,eSs used] (.sl 13 ((XR l used).map Lt.enc) .any):=by
 intro n H hn hT;refine aF func26 fun B=>?_
 refine gc ?_;refine nR ?_;have hm0:encS (ZM [] [])=[]:=rfl;refine YV (caps:=[]) (avs:=[.map n 13,.sl 1 (YO used) .any]) rfl (Zf func40 rfl rfl) (j40 (n+1) _ n 13 (Qq n) [] used om (by simp only[full,if_true];rfl)) (by simp only[go_sem,simprocAttr];rfl) ?_;rintro r H1 ⟨rfl,rfl⟩;refine⟨[(13,.map (encS (ZM [] used))),(15,.box [.map n 13,.int .i64 0,.sl 13 [] .full])],H,(Zn n _ H 13 _).symm,.refl _ _,?_⟩;refine aS ?_;refine gh ?_;refine Zt (Ztz n l used H) l.length rfl ?_ ?_
 ·exact KK
 intro i hi;refine Yc rfl ?_;rcases Qj i l.length with h|h
 ·obtain⟨x,hx⟩:∃x,x=l[i]:=⟨_,rfl⟩
  have hxs:=hs _ (Qa h);have hg:=ZpN l used i h;rw[←hx]at hxs hg;refine nq h ?_;refine gH ?_;simp only[go_sem,simprocAttr,Lt.Zp _ _ h,h,←hx];refine nq Zl6 ?_;obtain⟨hx1,hx2⟩:=hxs.tx;refine⟨rfl,⟨Zm (by have:=hxs.len;omega),by have:=hxs.len;omega⟩,?_⟩;generalize hq:Yw x=q at hx1 hx2 hg;refine kK ?_;refine Zt (ZtX n l q (gAt l used i) i H) q.length rfl ?_ ?_
  ·exact KK
  intro j hj;refine Yc rfl ?_;rcases Qj j q.length with h'|h'
  ·have ht:=hx1 _ (Qa h');have hv:=ZdX q[j];have hv2:=nm_len.1 q[j];have hstep:ZM (ZM (gAt l used i) ((q.take j).flatMap Z8)) (Z8 q[j])=ZM (gAt l used i) ((q.take (j+1)).flatMap Z8):=by
    rw[Qn h',Uc,Jc];simp
   refine nr ?_;refine aq h' ?_;refine nT ?_;refine nq2 (Tm.Zp _ _ h') h' ?_;refine nD flAO ?_;simp only[go_sem,simprocAttr,flAO];refine ZgN (Zf func56 rfl rfl) (j56 q[j] ht.1 om) sS ?_;simp only[go_sem,simprocAttr,flAO];refine Zmy rfl (k:=13) (xs:=Z8 q[j]) (S:=ZM (gAt l used i) ((q.take j).flatMap Z8)) om rfl sS ?_;rw[hstep];simp only[go_sem,simprocAttr];refine gd ?_;exact KK
  ·have hj':j=q.length:=om;subst hj';rw[QN,←hg];refine nq (QI.2 h') ?_;refine gg ?_;refine gd ?_;exact KK
 ·have hi':i=l.length:=om;subst hi';have hS:gAt l used l.length=J7 l used:=by unfold gAt J7;rw[QN]
  rw[hS];refine nq (QI.2 h) ?_;refine gg ?_;refine gk ?_;refine XL 10 201 54 13 rfl rfl ?_;refine Zt (ZrL n l (J7 l used) H) l.length rfl ?_ ?_
  ·exact KK
  intro i hi;refine Yc rfl ?_;rcases Qj i l.length with h|h
  ·obtain⟨x,hx⟩:∃x,x=l[i]:=⟨_,rfl⟩
   have hxs:=hs _ (Qa h);rw[←hx]at hxs;refine nq h ?_;refine gH ?_;simp only[go_sem,simprocAttr,Lt.Zp _ _ h,h,←hx];refine gh ?_;refine ZaK 15 200 2 54 13 rfl rfl rfl ?_;simp only[go_sem,simprocAttr,Mc,UR];refine XJ tok mixed drawO rfl rfl rfl ?_;refine aS ?_;refine cT (j49 x.L hxs.good.L) ?_;refine cT (j49 x.R hxs.good.R) ?_;obtain⟨S,hSe⟩:∃S,S=J7 l used:=⟨_,rfl⟩
   obtain⟨c,hc⟩:∃c,c=Zab S (l.take i) 0:=⟨_,rfl⟩
   have hSl:S.length≤20000:=by rw[hSe];exact Zl5 hl hs hu
   have hx3:=hxs.at_;have hcl:c≤61006100:=by
    have h1:=(ZiE (S:=S) (l:=l.take i) (fun y hy=>hs y (UQ hy)) 0).1;have h2:(l.take i).length*(305*(S.length+2))≤10*(305*20002):=Qaw (by rw[QK];omega) (GV _ om);omega
   rw[←hSe,←hc];refine gh ?_;refine V5 ⟨[(53,.int .i64 i),(52,.int .i64 l.length),(51,.sl 13 (l.map Lt.enc) .any),(10,.sl 13 (WW S (l.take i) 0) (.buf n 201)),(5,.ptr n 15 0),(12,.ptr n 12 0)],
    [(13,.map (encS S)),(201,.buf 54 13 (WW S (l.take i) 0).length),(12,.box (flY S x c).cs),(200,.Zg 54 13 (flat ((flD S x c).map Ja)) (flD S x c).length),(15,.box [.map n 13,.int .i64 (flN S x c),.msl 13 n 200 (flD S x c).length])],H⟩ ?_ ?_
   ·by_cases k1:x.kind=1
    ·have e1:(x.kind==1)=true:=by simp[k1]
     have eY:flY S x c=⟨x.kind,x.neg,⟨x.at_.pred,(flT.flTs S x.at_.args c).1⟩,x.op,x.L,x.R⟩:=by unfold flY;rw[if_pos k1]
     have eD:flD S x c=(flT.flTs S x.at_.args c).2.2:=by unfold flD;rw[if_pos k1]
     have eN:flN S x c=(flT.flTs S x.at_.args c).2.1:=by unfold flN;rw[if_pos k1]
     rw[eY,eD,eN];refine nTq e1 ?_;refine nR ?_;obtain⟨L,hL⟩:∃L:List (Nat×Ze),L=[(13,.map (encS S)),(15,.box [.map n 13,.int .i64 c,.msl 13 n 200 0]),(201,.buf 54 13 (WW S (l.take i) 0).length),(12,.box x.cs),(200,.Zg 54 13 [] 0)]:=⟨_,rfl⟩
     simp only[Lt.cs]at hL;rw[←hL];have hself:fsH (full n L H) n 15 13 200 ⟨c,[]⟩=full n L H:=Zqd (by rw[hL];simp[full,lkb]) (by rw[hL];simp[full,lkb,flat]);have hmp:full n L H n 13=some (.map (encS S)):=by rw[hL];simp[full,lkb]
     have hargs:=x.at_.args;refine YV (caps:=[]) (avs:=[.sl 4 (x.at_.args.map Tm.enc) .any,.bfn (.func 71) [.ptr n 15 0]]) (Qc:=fun r H1=>r= .sl 4 ((flT.flTs S x.at_.args c).1.map Tm.enc) .any∧H1=fsH (full n L H) n 15 13 200 (JM S x.at_.args ⟨c,[]⟩ x.at_.args.length)) rfl (Zf func70 rfl rfl) (by
      rw[Qs];have he:=Zty (n+1) x.at_.args (by have:=hxs.len;omega) 71 [.ptr n 15 0] _ _ (Zf func71 rfl rfl) (flT.flTs S x.at_.args c).1 (Zad S _ c) (fun i=>fsH (full n L H) n 15 13 200 (JM S x.at_.args ⟨c,[]⟩ i)) ?_ ?_ ?_
      ·simp only[ZhQ,hself]at he;exact he
      ·exact .bfn _ _ fun i hi=>by
        simp only[Qo,QC]at hi;have:i=0:=om;subst this;exact .ptr _ _ _ om
      ·intro i h L';have h1:=j71 S n 15 13 200 hn dc dc dc x.at_.args[i] (hxs.good.at_.arg (Qa h)) (n+1+1) (full (n+1) L' (full n L H)) (JM S x.at_.args ⟨c,[]⟩ i) om (by rw[Zi om];exact hmp) ((hT.full hn).full om) ?_
       ·simp only[Zc0 (show n≠n+1 by omega),Zg9 S x.at_.args _ i h];rw[Zmi S x.at_.args c i h (by rw[Zad];exact h)];exact h1
       ·have h1:=Zhe S x.at_.args c i;have h2:=Zf3 x.at_.args i h;have h3:=ZbD x.at_.args (i+1);have h5:(Tm.sz.szs (x.at_.args.take i)+x.at_.args[i].sz)*(S.length+2)≤305*(S.length+2):=QE _ om;rw[QY]at h5;have h6:305*(S.length+2)≤305*20002:=GV _ om;exact⟨om,by simp only[JM];omega,by simp only[JM,Q5];omega⟩
      ·intro i h;exact Zid om dc) sS ?_
     rintro r H1 ⟨rfl,rfl⟩;have hend:JM S x.at_.args ⟨c,[]⟩ x.at_.args.length=⟨(flT.flTs S x.at_.args c).2.1,(flT.flTs S x.at_.args c).2.2⟩:=by unfold JM;rw[QN];rfl
     refine⟨setb (setb L 200 (.Zg 54 13 (flat ((flT.flTs S x.at_.args c).2.2.map Ja)) (flT.flTs S x.at_.args c).2.2.length)) 15 (.box [.map n 13,.int .i64 (flT.flTs S x.at_.args c).2.1,.msl 13 n 200 (flT.flTs S x.at_.args c).2.2.length]),H,by rw[hend];unfold fsH;rw[Zn,Zn],.refl _ _,?_⟩;rw[hL];refine gO ?_;refine⟨rfl,?_⟩;exact KK
    ·have e1:(x.kind==1)=false:=by simp[k1]
     have eY:flY S x c=x:=by unfold flY;rw[if_neg k1]
     have eD:flD S x c=[]:=by unfold flD;rw[if_neg k1]
     have eN:flN S x c=c:=by unfold flN;rw[if_neg k1]
     rw[eY,eD,eN];refine nFq e1 ?_;refine nR ?_;refine cT (j70 x.at_.args (by have:=hxs.len;omega) 49 [] id ⟨⟨_,_,Zf func49 rfl rfl⟩,fun u hu=>j49 u (hxs.good.at_.arg hu),fun _=>trivial⟩) ?_;refine nN ?_;refine⟨rfl,?_⟩;rw[Qby];exact KK
   have hT200:∀p∈([(53,.int .i64 i),(52,.int .i64 l.length),(51,.sl 13 (l.map Lt.enc) .any),(10,.sl 13 (WW S (l.take i) 0) (.buf n 201)),(5,.ptr n 15 0),(12,.ptr n 12 0)]:List (Nat×AV)),p.1≠60∧Wk p.2 p.2∧Inside n (fun k=>k≠200) p.2:=by
    intro p hp;simp only[Qk,QD,or_false]at hp;rcases hp with rfl|rfl|rfl|rfl|rfl|rfl
    ·exact⟨sm,.refl _,.int _ _⟩
    ·exact⟨sm,.refl _,.int _ _⟩
    ·exact⟨sm,.refl _,(Yi l).inside⟩
    ·exact⟨sm,.refl _,Zim dc⟩
    ·exact⟨sm,.refl _,.ptr _ _ _ (.inr ⟨rfl,dc⟩)⟩
    ·exact⟨sm,.refl _,.ptr _ _ _ (.inr ⟨rfl,dc⟩)⟩
   refine ZK (YU (tm':=[(53,.int .i64 i),(52,.int .i64 l.length),(51,.sl 13 (l.map Lt.enc) .any),(10,.sl 13 (WW S (l.take i) 0) (.buf n 201)),(5,.ptr n 15 0),(12,.ptr n 12 0)]) (av':=.sl 13 ((flD S x c).map Ja) .any) (j0:=15) (i:=2) (j:=200) 60 (show 60<Tryz.f26.ntmps by decide) ((flD S x c).map Ja) dc rfl rfl (.inl ⟨13,rfl,rfl⟩) rfl rfl (by rw[Qv]) (fun y hy=>by obtain⟨d,_,rfl⟩:=Qi.1 hy;rfl) (Zm0 _).mem ?_ ?_) ?_
   ·intro p hp;have h1:=hT200 p hp;simp only[Qk,QD,or_false]at hp;rcases hp with rfl|rfl|rfl|rfl|rfl|rfl<;>exact h1
   ·exact(show Yg (fun p:Nat×Ze=>p.2.Inside n (fun k=>k≠200)) [(13,.map (encS S)),(201,.buf 54 13 (WW S (l.take i) 0).length),(12,.box (flY S x c).cs),(15,.box [.map n 13,.int .i64 (flN S x c),.dead])] from
     ⟨(WE S).inside,⟨fun a ha=>(by cases ha),fun p hp=>(by cases hp)⟩,Ze.Zx (ZY fun a ha=>((flY S x c).bcs.mem a ha).inside),Ze.Zx ⟨.map _ _ (.inr ⟨rfl,dc⟩),.int _ _,.dead,trivial⟩,trivial⟩).mem
   simp only[go_sem,simprocAttr,setb,delb,Mc,UR];have hyc:(flY S x c).cs.length=13:=rfl;refine kK ?_;refine nD outO ?_;simp only[go_sem,simprocAttr,outO,UF,Nat.reduceBEq,U1,U8,Nat.reduceEqDiff];have hrt:WW S (l.take (i+1)) 0=WW S (l.take i) 0++[(flY S x c).enc]++(flD S x c).map Ja:=by
    rw[ZnI S l 0 i h,←hx,←hc,Ua];rfl
   have hnt:Zab S (l.take (i+1)) 0=flN S x c:=by
    rw[(ZpE S l 0 i h).2,←hx,←hc,ZiM]
   have hma:Zh9 S l (i+1)= .sl 13 ((flD S x c).map Ja) .any:=by rw[Zj5 S l i h,←hx,←hc]
   have hl1:(WW S (l.take i) 0).length≤3060:=by
    rw[Zps];have h1:=(ZiE (S:=S) (l:=l.take i) (fun y hy=>hs y (UQ hy)) 0).2;have h2:(l.take i).length≤10:=by rw[QK];omega
    omega
   have hl2:(flD S x c).length≤305:=by
    unfold flD;split
    ·have:=((ZcM S).2 x.at_.args c).2;omega
    ·simp
   have hl3:(WW S (l.take i) 0++[(flY S x c).enc]).length=(WW S (l.take i) 0).length+1:=sm;have hl4:(WW S (l.take i) 0++[(flY S x c).enc]++(flD S x c).map Ja).length=(WW S (l.take i) 0++[(flY S x c).enc]).length+(flD S x c).length:=by simp only[Qd,Qv]
   refine⟨rfl,⟨Zm om,om⟩,⟨hl3.symm,fun y hy=>by obtain⟨d,_,rfl⟩:=Qi.1 hy;rfl,Zm om,om⟩,?_⟩;refine gd ?_;unfold ZrL;rw[hnt,hma,hrt,hl4];have hob:∀p:Nat→Prop,p 201→Inside n p (.sl 13 (WW S (l.take i) 0++[(flY S x c).enc]++(flD S x c).map Ja) (.buf n 201)):=fun p h=>by rw[←hrt];exact Zim h
   exact KK
  ·have hi':i=l.length:=om;subst hi';refine nq (QI.2 h) ?_;refine gg ?_;refine gE ?_;refine Zc ?_ (Yi _) rfl;rw[←Zjc];refine aS ?_;exact .deep (WkS.slL (Zig _ l 0))
end
structure BA (b:Bnd) (a:Am):Prop where
 gb:ZO b
 len:b.length≤100000
 good:a.Good
 sz:Tm.sz.szs a.args≤305
def BA.arg{b:Bnd}{a:Am}(h:BA b a){t:Tm}(ht:t∈a.args):t.Good∧(ZV b t).Good:=
 ⟨h.good.arg ht,Zko h.gb (h.good.nm t ht) (by have:=Tm.ZcL ht;have:=h.sz;omega)⟩
def ZhN{b:Bnd}:∀{l:List Tm} {c:Int} {i:Nat} (h:i<l.length),(∀j (hj:j<l.length),j<i→Zr (ZV b l[j])=false)→Zr (ZV b l[i])=true→JB b l c=some (c+i,ZV b l[i])
 |t::r,c,0,_,_,hv=>by
  have hv:Zr (ZV b t)=true:=hv;rw[JB,if_pos hv];simp
 |t::r,c,i+1,h,h1,hv=>by
  have h0:=h1 0 sm om;simp only[Ue]at h0;rw[JB,if_neg (by simp[h0]),ZhN (l:=r) (i:=i) (by simpa using h) (fun j hj hji=>h1 (j+1) (by simpa using hj) om) hv];simp only[U0,Int.natCast_add];congr 2;omega
theorem ZeS{b:Bnd}:∀{l:List Tm} {c:Int},(∀t∈l,Zr (ZV b t)=false)→JB b l c=none
 |[],_,_=>rfl
 |t::r,c,h=>by
  rw[JB,if_neg (by simp[h t sm])];exact ZeS fun u hu=>h u (by simp[hu])
def Ztg(l bx:Nat)(n:Nat)(a:Am)(b:Bnd)(H:Za)(i:Nat):Zb:=
 ⟨[(13,.int .i64 i),(12,.int .i64 a.args.length),(11,.sl 4 (a.args.map Tm.enc) .any),(4,.ptr n 4 0),(0,.ptr l bx 0),(2,Zj b)],[(4,.box a.cs)],H⟩
def Zu4(n:Nat)(H:Za)(l bx ls bs:Nat)(hl:l<n)(hls:ls<n)(mp td:AV)(now:List Bnd)(hbx:H l bx=some (prB mp (.ptr ls bs 0) now td))(s:Sto)(hs:Z7 H ls bs s)(hok:Ok s)(hn:0<n)(hT:Tabs H)(a:Am)(b:Bnd)(h:BA b a):
  PC prog n 140 [.ptr l bx 0,a.enc,Zj b] H (.sl 2 ((Vf s.A a b).map Am.enc) .any):=by
 have hne:¬l=n:=om;have hal:=h.good.len;refine aF func140 fun B=>?_
 refine gk ?_;refine ZX (Ztg l bx n a b H) (fun i=>∀j (hj:j<a.args.length),j<i→Zr (ZV b a.args[j])=false) a.args.length rfl ?_ (fun j _ hj=>absurd hj (Qm _)) ?_
 ·exact KK
 intro i hi hq;refine Yc rfl ?_;rcases Qj i a.args.length with hlt|hge
 ·have hg:=h.arg (Qa hlt);refine nq hlt ?_;refine nT ?_;refine nq2 (Tm.Zp _ _ hlt) hlt ?_;refine nR ?_;refine cT (Zsj b h.gb.asc (by have:=h.len;omega) a.args[i] hg.1) ?_;refine nR ?_;refine cT (a37 (ZV b a.args[i]) hg.2) ?_;cases hv:Zr (ZV b a.args[i])with
  |true=>
   have hf:=ZhN (c:=0) hlt hq hv;have hc:Vf s.A a b=Znd s.A a.sg (i:Int) (ZV b a.args[i]):=by rw[Vf,hf];simp
   refine nT ?_;refine nD drawO ?_;simp only[go_sem,simprocAttr,hne,hbx,prB];refine cP (a56 a) ?_;have hix:=hok.ixR (⟨a.sg,(i:Int),txt (ZV b a.args[i])⟩:Ak);refine cQ (a32 (n+1) _ ls bs s a.sg (i:Int) (ZV b a.args[i]) hg.2 om (hs.full hls _) hok.g om (hT.full hn) hix.1 hix.2) ?_;simp only[go_sem,simprocAttr];refine nW ?_;rw[hc,←hok.find _ _ hv];simp only[hv,if_true];exact Zc (.refl _) (Xn _) rfl
  |false=>
   refine gm ?_;refine⟨fun j hj hji=>?_,?_⟩
   ·rcases Qj j i with h'|h'
    ·exact hq j hj h'
    ·have:j=i:=om;subst this;exact hv
   ·exact KK
 ·have hf:JB b a.args 0=none:=ZeS fun t ht=>by
   obtain⟨j,hj,rfl⟩:=QJ ht;exact hq j hj om
  have hc:Vf s.A a b=Zst s.A a.sg:=by rw[Vf,hf]
  refine nr ?_;refine aq (QI.2 hge) ?_;refine gg ?_;refine nD drawO ?_;simp only[go_sem,simprocAttr,hne,hbx,prB];refine cP (a56 a) ?_;have hix:=hok.ixS a.sg;refine cQ (a30 (n+1) _ ls bs s a.sg om (hs.full hls _) hok.g om (hT.full hn) hix.1 hix.2) ?_;simp only[go_sem,simprocAttr];refine nV ?_;rw[hc,←hok.all];exact Zc (.refl _) (Xn _) rfl
def ZpL{A:List Am}{a:Am}{b:Bnd}:∀x∈Vf A a b,x∈A∧x.sg=a.sg:=fun x hx=>by
 unfold Vf at hx;split at hx
 ·obtain⟨h1,h2⟩:=MB.1 hx;simp only[Zkk,Qh,beq_iff_eq]at h2;exact⟨h1,h2.1.1.1⟩
 ·obtain⟨h1,h2⟩:=MB.1 hx;exact⟨h1,by simpa using h2⟩
def ZkO(A:List Am)(a:Am)(b:Bnd):(Vf A a b).length≤A.length:=by
 unfold Vf;split
 ·exact UL _ _
 ·exact UL _ _
def atS(A:List Am)(a:Am)(b:Bnd):List Bnd×Int:=((Vf A a b).filterMap fun x=>matT.matL a.args x.args b,0)
def ZpH(a:Am)(b:Bnd)(l bx:Nat)(cs:List Am)(n:Nat)(H:Za)(i:Nat):Zb:=
 ⟨[(16,.int .i64 i),(15,.int .i64 cs.length),(14,.sl 2 (cs.map Am.enc) .any),(6,.sl 1 (((cs.take i).filterMap fun x=>matT.matL a.args x.args b).map Zj) (.buf n 200)),(0,Zj b),(2,.iptr a.cs)],
  [(200,.buf 34 1 ((cs.take i).filterMap fun x=>matT.matL a.args x.args b).length)],H⟩
def Zuv(n:Nat)(H:Za)(l bx ls bs:Nat)(hl:l<n)(hls:ls<n)(mp td:AV)(now:List Bnd)(hbx:H l bx=some (prB mp (.ptr ls bs 0) now td))(s:Sto)(hs:Z7 H ls bs s)(hok:Ok s)(hn:0<n)(hT:Tabs H)(a:Am)(b:Bnd)(h:BA b a):
  PC prog n 139 [Zj b,.iptr [.ptr l bx 0],.iptr a.cs] H (.tup [.sl 1 ((atS s.A a b).1.map Zj) .any,eInt (atS s.A a b).2]):=by
 have hai:∀p,Inside n p (.iptr a.cs):=fun p=>(Zl a.bcs).inside
 have hcm:=ZpL (A:=s.A) (a:=a) (b:=b);have hcl:=Ux (ZkO s.A a b) hok.A;have hbs:∀(q:List Bnd) (p:Nat→Prop),p 200→Inside n p (.sl 1 (q.map Zj) (.buf n 200)):=fun q p h=>Abs.Yz (mB fun u=>ZC n u) h
 have hat:atS s.A a b=((Vf s.A a b).filterMap fun x=>matT.matL a.args x.args b,0):=rfl;rw[hat];refine aF func139 fun B=>?_
 refine gc ?_;refine nR ?_;refine cQ (Zu4 (n+1) _ l bx ls bs om om mp td now (by rw[Zi hl];exact hbx) s (hs.full hls _) hok om (hT.full hn) a b h) ?_;generalize Vf s.A a b=cs at hcm hcl⊢;refine gM ?_;refine XL 6 200 34 1 rfl rfl ?_;refine Zt (ZpH a b l bx cs n H) cs.length rfl ?_ ?_
 ·exact KK
 intro i hi;refine Yc rfl ?_;rcases Qj i cs.length with hlt|hge
 ·have hx:=hcm _ (Qa hlt);have hxl:a.args.length=cs[i].args.length:=by
   have:=congrArg Sg.n hx.2;simp only[Am.sg]at this;omega
  have hxg:=hok.g _ hx.1;have hm:=Zuj a.args cs[i].args b hxl (fun t ht=>(h.arg ht).1) (fun u hu=>hxg.arg hu) h.gb.gb (by have:=h.len;have:=h.sz;omega);have hfl:=Qbb (fun x=>matT.matL a.args x.args b) (cs.take i);have hfl2:(cs.take i).length≤2000:=by rw[QK];omega
  have hstep:(cs.take (i+1)).filterMap (fun x=>matT.matL a.args x.args b)=(cs.take i).filterMap (fun x=>matT.matL a.args x.args b)++(matT.matL a.args cs[i].args b).toList:=by
   rw[Qn hlt,List.filterMap_append];congr 1
  refine nq hlt ?_;refine nT ?_;refine nq2 (Am.Zp _ _ hlt) hlt ?_;refine nR ?_;refine cP (hm) ?_;obtain e|⟨d,e⟩:matT.matL a.args cs[i].args b=none∨ ∃d,matT.matL a.args cs[i].args b=some d:=by cases matT.matL a.args cs[i].args b<;>simp
  ·rw[e,Option.toList_none,Qs]at hstep;simp only[go_sem,simprocAttr,Zk9,e,G9,Qbi];refine nR ?_;refine gm ?_;unfold ZpH;rw[hstep];exact KK
  ·rw[e,Option.toList_some]at hstep;simp only[go_sem,simprocAttr,Zk9,e,Qaa,Uk];refine nR ?_;refine gi ?_;refine⟨rfl,⟨Zm om,om⟩,?_⟩;refine gd ?_;unfold ZpH;rw[hstep,QL,Qd];apply kZ;repeat' first|apply q0|exact xx|apply aI
   all_goals first|exact(ZC n b).inside|exact hai _|exact(Xn _).inside|(rw[←QL];exact hbs _ _ rfl)|exact hbs (_++[d]) _ rfl|exact xI
 ·have hi':i=cs.length:=om;subst hi';refine nq (QI.2 hge) ?_;refine gg ?_;refine gE ?_;exact ZF (.any _ _ _) (.refl _) (ZA _) (.int _ _) rfl
def j93(n:Nat)(H:Za)(hT:Tabs H)(hn:0<n)(l bx ls bs:Nat)(hl:l<n)(hls:ls<n)(mp td:AV)(now:List Bnd)(hnow:now.length≤1000000)(hbx:H l bx=some (prB mp (.ptr ls bs 0) now td))(hmp:Below n mp∧Below n td)(s:Sto)(hs:Z7 H ls bs s)(hok:Ok s)(a:Am)(hx:∀c∈now,BA c a):
  Zh prog n 93 [.ptr l bx 0,a.enc] H fun r H'=>r=eInt (Go.Abs.Xk (atS s.A a) now).2∧H'=H.upd l bx (prB mp (.ptr ls bs 0) (Go.Abs.Xk (atS s.A a) now).1 td):=by
 have hne:l≠n:=om;refine aF func93 fun B=>?_
 refine gh ?_;refine Z5 2 [.ptr l bx 0] [(0,.ptr l bx 0),(2,.iptr [.ptr l bx 0]),(3,.ptr n 3 0)] rfl ⟨.ptr _ _ _ (.inl hl),trivial⟩ ?_ ⟨Ze.Zx (ZY fun c hc=>(a.bcs.mem c hc).inside),trivial⟩ ?_
 ·exact⟨.inl ⟨.refl _,.ptr _ _ _ (.inl hl)⟩,.inr ⟨0,rfl,rfl⟩,.inl ⟨.refl _,.ptr _ _ _ (.inr ⟨rfl,dc⟩)⟩,trivial⟩
 refine aS ?_;refine Z5 3 a.cs [(0,.ptr l bx 0),(2,.iptr [.ptr l bx 0]),(3,.iptr a.cs)] rfl ?_ ?_ trivial ?_
 ·exact ZY fun c hc=>(a.bcs.mem c hc).inside
 ·exact⟨.inl ⟨.refl _,.ptr _ _ _ (.inl hl)⟩,.inl ⟨.refl _,(Zl (cs:=[.ptr l bx 0]) ⟨.ptr _ _ _ hl,trivial⟩).inside⟩,.inr ⟨0,rfl,rfl⟩,trivial⟩
 refine nR ?_;refine YV (caps:=[]) (avs:=[.ptr l bx 0,.fn (.func 139) [.iptr [.ptr l bx 0],.iptr a.cs]]) rfl (Zf func130 rfl rfl) (j130 (n+1) _ l bx om mp (.ptr ls bs 0) td now hnow (by rw[Zi hl];exact hbx) ⟨hmp.1.mono om,.ptr _ _ _ om,hmp.2.mono om⟩ 139 [.iptr [.ptr l bx 0],.iptr a.cs] (atS s.A a)
  ⟨⟨_,_,Zf func139 rfl rfl⟩,fun c hc m H1 hm hH1=>?_,fun m hm=>⟨Zl (cs:=[.ptr l bx 0]) ⟨.ptr _ _ _ om,trivial⟩,Zl a.bcs,trivial⟩⟩ (fun c hc=>by
   have h1:=ZkO s.A a c;have h2:=hok.A;have h3:=Qbb (fun x=>matT.matL a.args x.args c) (Vf s.A a c);simp only[atS];omega)) sS ?_
 ·exact Zuv m H1 l bx ls bs om om mp td now (by rw[hH1 _ _ om,Zi hl];exact hbx) s (fun k x hk=>by rw[hH1 _ _ om,Zi hls];exact hs k x hk) hok om (hT.up fun k=>by rw[hH1 _ _ om];exact Zi hn _ _ _) a c (hx c hc)
 rintro r H1 ⟨rfl,rfl⟩;refine⟨[],H.upd l bx (prB mp (.ptr ls bs 0) (Go.Abs.Xk (atS s.A a) now).1 td),(Yk n _ H l bx _ hne).symm,.upd (Ze.Zz ⟨hmp.1,.ptr _ _ _ hls,ZA _,hmp.2,trivial⟩),?_⟩;refine gw ?_;exact Zk (.refl _) (.int _ _) ⟨rfl,rfl⟩
def ZjS(m:Nat)(h:m≤100000000):(newV m).length≤140737488355328:=by
 have:=Lib.itoa_length_le (m:Int) om om;unfold newV;rw[Qo];omega
def totD(ds:List (Nat×Tm)):Nat:=(ds.map fun d=>d.2.sz+1).sum
def ZjN(p q:List (Nat×Tm)):totD (p++q)=totD p+totD q:=by simp[totD]
def ZsD(S:List Str):(∀t c,(flT S t c).1.sz+totD (flT S t c).2.2≤3*t.sz)∧ ∀l c,Tm.sz.szs (flT.flTs S l c).1+totD (flT.flTs S l c).2.2≤3*Tm.sz.szs l:=by
 refine X4 (fun k n s l ih c=>?_) (fun c=>by simp[flT.flTs,Tm.sz.szs,totD]) fun t r h1 h2 c=>?_
 ·by_cases hk:k=5∨k=6
  ·rw[WY hk];simp only[totD,Qu,UD,QaD,List.sum_nil,Tm.sz,Tm.sz.szs];omega
  ·rw[WR hk];have:=ih c;simp only[Tm.sz];omega
 ·have a1:=h1 c;have a2:=h2 (flT S t c).2.1;simp only[flT.flTs,Tm.sz.szs,ZjN];omega
def Ztj(S:List Str)(B:Nat)(hB:B≤100000000):(∀t c,t.Nm→c+t.sz*(S.length+2)≤B→(flT S t c).1.Nm∧(flT S t c).1.sz≤t.sz∧ ∀d∈(flT S t c).2.2,d.1≤B∧d.2.Nm∧d.2.sz≤t.sz)∧
  ∀l c,(∀t∈l,t.Nm)→c+Tm.sz.szs l*(S.length+2)≤B→(∀t∈(flT.flTs S l c).1,t.Nm)∧Tm.sz.szs (flT.flTs S l c).1≤Tm.sz.szs l∧(flT.flTs S l c).1.length=l.length∧ ∀d∈(flT.flTs S l c).2.2,d.1≤B∧d.2.Nm∧d.2.sz≤Tm.sz.szs l:=by
 refine X4 (fun k n s l ih c h hc=>?_) (fun c _ _=>by simp[flT.flTs,Tm.sz.szs]) fun t r h1 h2 c h hc=>?_
 ·by_cases hk:k=5∨k=6
  ·have hm:=((ZcM S).1 (.mk k n s l) c).1;rw[WY hk]at hm⊢;have hm:XC S c≤c+(Tm.mk k n s l).sz*(S.length+2):=hm;have hz:=(Tm.mk k n s l).ZcO;refine⟨.mk _ _ _ _ (ZjS _ om) dc dc sm (fun u hu=>by cases hu),by simp only[Tm.sz,Tm.sz.szs];omega,fun d hd=>?_⟩;simp only[Ql]at hd;subst hd;exact⟨om,h,Qe _⟩
  ·rw[WR hk];cases h with|mk _ _ _ _ a1 a2 a3 a4 a5=>
   have hsz:Tm.sz.szs l*(S.length+2)≤(Tm.mk k n s l).sz*(S.length+2):=QE _ (by simp only[Tm.sz];omega);obtain⟨b1,b2,b3,b4⟩:=ih c a5 om;refine⟨.mk _ _ _ _ a1 a2 a3 (by rw[b3];exact a4) b1,by simp only[Tm.sz];omega,fun d hd=>?_⟩;obtain⟨c1,c2,c3⟩:=b4 d hd;exact⟨c1,c2,by simp only[Tm.sz];omega⟩
 ·simp only[Tm.sz.szs,QY]at hc;obtain⟨a1,a2,a3⟩:=h1 c (h t sm) om;have hm:=((ZcM S).1 t c).1;obtain⟨b1,b2,b3,b4⟩:=h2 (flT S t c).2.1 (fun u hu=>h u (by simp[hu])) om;simp only[flT.flTs,Tm.sz.szs,Qo];refine⟨fun u hu=>?_,om,om,fun d hd=>?_⟩
  ·rcases Qk.1 hu with rfl|hu
   ·exact a1
   ·exact b1 u hu
  ·rcases Qg.1 hd with hd|hd
   ·obtain⟨c1,c2,c3⟩:=a3 d hd;exact⟨c1,c2,om⟩
   ·obtain⟨c1,c2,c3⟩:=b4 d hd;exact⟨c1,c2,om⟩
def Zq7{d:Nat×Tm}(h1:d.1≤100000000)(h2:d.2.Nm)(h3:d.2.sz≤305):Sm (Vk d):=
 ⟨⟨⟨by simp[Vk],by simp[Vk,Am.sz,Tm.sz.szs],fun t ht=>by cases ht⟩,⟨by simp[Vk,Tm.sz,Tm.sz.szs],.mk _ _ _ _ (ZjS _ h1) dc dc sm (fun u hu=>by cases hu)⟩,⟨by show d.2.sz≤_;omega,h2⟩⟩,
  by simp[Vk,Tm.sz,Tm.sz.szs],h3,by simp[Vk,Tm.sz.szs]⟩
def ZpB{S:List Str}(hS:S.length≤20000):∀(l:List Lt) (c:Nat),(∀x∈l,Sm x)→c+l.length*(305*(S.length+2))≤100000000→ ∀y∈flL S l c,Sm y∧(0≤y.op∧y.op≤255∨ ∃x∈l,y.op=x.op)
 |[],_,_,_,y,hy=>by cases hy
 |x::r,c,hs,hc,y,hy=>by
  have hx:=hs x sm;have hat:=hx.at_;have hxc:(flX S x c).2≤c+305*(S.length+2):=by
   by_cases hk:x.kind=1
   ·rw[Jp hk];have:=((ZcM S).2 x.at_.args c).1;have h2:Tm.sz.szs x.at_.args*(S.length+2)≤305*(S.length+2):=QE _ hat;show(flT.flTs S x.at_.args c).2.1≤_;omega
   ·rw[(VZ hk).1];exact Gx _ _
  rw[Qo,QY,QaK]at hc;rw[flL,Qg]at hy;rcases hy with hy|hy
  ·by_cases hk:x.kind=1
   ·rw[Jp hk]at hy;have h2:Tm.sz.szs x.at_.args*(S.length+2)≤305*(S.length+2):=QE _ hat;obtain⟨b1,b2,b3,b4⟩:=(Ztj S 100000000 (Qe _)).2 x.at_.args c hx.good.at_.nm om;rcases Qk.1 hy with rfl|hy
    ·have hg:=hx.good.at_;have hgs:=hg.sz;simp only[Am.sz]at hgs;exact⟨⟨⟨⟨hg.pred,by simp only[Am.sz];omega,b1⟩,hx.good.L,hx.good.R⟩,hx.L,hx.R,by show Tm.sz.szs (flT.flTs S x.at_.args c).1≤_;omega⟩,.inr ⟨x,sm,rfl⟩⟩
    ·obtain⟨d,hd,rfl⟩:=Qi.1 hy;rw[dfX,if_pos hk]at hd;obtain⟨c1,c2,c3⟩:=b4 d hd;exact⟨Zq7 c1 c2 om,.inl (by simp[Vk])⟩
   ·rw[(VZ hk).1]at hy;simp only[Ql]at hy;subst hy;exact⟨hx,.inr ⟨y,sm,rfl⟩⟩
  ·obtain⟨h1,h2⟩:=ZpB hS r (flX S x c).2 (fun z hz=>hs z (by simp[hz])) om y hy;refine⟨h1,?_⟩;rcases h2 with h2|⟨z,hz,h2⟩
   ·exact .inl h2
   ·exact .inr ⟨z,by simp[hz],h2⟩
def defs_vars:∀ds:List (Nat×Tm),((ds.map Vk).flatMap ZE).length≤totD ds
 |[]=>by simp[totD]
 |d::ds=>by
  have h1:=defs_vars ds;have h2:(ZE (Vk d)).length≤d.2.sz+1:=by
   have:=flatMap_vars_len [(Vk d).L,(Vk d).R];simp only[Tm.sz.szs]at this;unfold ZE;rw[if_pos (by rfl)];have e:(Vk d).L.sz=1:=rfl;have e2:(Vk d).R.sz=d.2.sz:=rfl;omega
  simp only[Qu,QM,Qd,totD,QaD]at h1⊢;omega
def ZjH{S:List Str}:∀(l:List Lt) (c:Nat),(∀x∈l,Sm x)→((flL S l c).flatMap ZE).length≤l.length*1525∧(flL S l c).length≤l.length*916
 |[],_,_=>by simp[flL]
 |x::r,c,hs=>by
  obtain⟨h1,h2⟩:=ZjH r (flX S x c).2 fun z hz=>hs z (by simp[hz])
  have hx:=hs x sm;have hat:=hx.at_;have hv:=hx.tv.2.2;simp only[flL,Uc,Qd,Qo,QY];generalize flL S r (flX S x c).2=R at h1 h2⊢;by_cases hk:x.kind=1
  ·have ht:=(ZsD S).2 x.at_.args c;have hf:=((ZcM S).2 x.at_.args c).2;have hd:=defs_vars (flT.flTs S x.at_.args c).2.2;have h3:=flatMap_vars_len (flT.flTs S x.at_.args c).1;rw[Jp hk,dfX,if_pos hk];simp only[QM,Qd,Qo,Qv];have h4:(ZE {x with at_:=⟨x.at_.pred,(flT.flTs S x.at_.args c).1⟩}).length≤Tm.sz.szs (flT.flTs S x.at_.args c).1:=by
    unfold ZE;rw[if_neg (by show¬x.kind=2;omega)];exact h3
   omega
  ·rw[(VZ hk).1];simp only[QM,List.flatMap_nil,Qs,Qo,QC];omega
def ZoA{cx:Cx}(hP:cx.P=prog){o:Oper}{args:List Operand}{ts:List TypeId}{tm:List (Nat×AV)}{L:List (Nat×Ze)}{H:Za}{l k:Nat}{S xs:List Str}{K:Zb→Prop}(hl:l<cx.n)(hlen:xs.length≤1000000)(hk:H l k=some (.map (encS S)))
  (ha:Yo cx.T (evT tm) args ts=[.map l k,.sl 1 (YO xs) .any]) (h:K ⟨Yl tm o.dst (.tup []),L,H.upd l k (.map (encS (ZM S xs)))⟩):Zex cx o (.func 40) args ts ⟨tm,L,H⟩ K:=by
 obtain⟨P,T,φ,n,N⟩:=cx;dsimp only at hP ha h hl;subst hP;refine⟨40,_,_,[],.tup [],L,H.upd l k (.map (encS (ZM S xs))),rfl,Zf func40 rfl rfl,?_,.upd (WE _),h⟩;rw[Qs,ha];show Zh _ _ _ _ _ fun r' H1=>r'=_∧H1=full n L (H.upd l k _)
 rw[Yk n _ _ _ _ _ om];exact j40 (n+1) _ l k om S xs hlen (by rw[Zi hl];exact hk)
def al84:Opt:=⟨true,true,fun d=>if d=12 then .heap else if d=13 then .call else .auto,[]⟩
def ZsB{k l:Nat}(ls:List Lt)(h:ls.length≤1000000)(hk:k=13):Zkh k l (ls.map Lt.enc):=⟨by simpa using h,fun x hx=>by
 obtain⟨y,_,rfl⟩:=Qi.1 hx;subst hk;exact⟨rfl,rfl,y.blw l⟩⟩
def Zal(p q:List Lt):List AV:=(p++q).map Lt.enc++[zLit]
def _root_.Go.Abs.Ze.Zhu{n m:Nat}(p q:List Lt):Ze.Below n (.Zg 54 13 (flat (Zal p q)) m):=⟨fun c hc=>by
 obtain⟨y,hy,hc⟩:=Qw.1 hc;rcases Qg.1 hy with hy|hy
 ·obtain⟨z,_,rfl⟩:=Qi.1 hy;exact Below.cells (z.blw n) c hc
 ·rw[Ql]at hy;subst hy;exact Zi6.mem c hc,by simp[Ze.at_]⟩
def k84(n:Nat)(H:Za)(hT:Tabs H)(l bx mk lv kv kq:Nat)(hl:l<lv)(hlv:lv<n)(h0:0<l)(hkq:kv≠kq)(sp nw td:AV)(hbx:H l bx=some (.box [.map l mk,sp,nw,td]))(S:List Str)(hm:H l mk=some (.map (encS S)))
  (p q:List Lt) (x:Lt) (hx:Sm x) (hlen:(p++x::q).length≤1000000) (hv:H lv kv=some (.box [.sl 13 ((p++x::q).map Lt.enc) .any])) (hq:H lv kq=none):
  Zh prog n 84 [.int .i64 p.length,.iptr [.ptr l bx 0],.ptr lv kv 0] H fun r H'=>r= .tup []∧
   H'=((H.upd l mk (.map (encS (ZM S (ZE x))))).upd lv kq (.Zg 54 13 (flat (Zal p q)) (p++x::q).length)).upd lv kv (.box [.sub 13 lv kq (p++x::q).length 0 (p++q).length]):=by
 have hne:¬l=n:=om;have hnv:¬lv=n:=om;have hn:0<n:=om;have hll:¬lv=l:=om;have hvl:=hx.tv.2.2;refine aF func84 fun B=>?_
 refine nD al84 ?_;have hpl:p.length<(p++x::q).length:=sm;have hgx:((p++x::q).map Lt.enc).getD p.length .dead=x.enc:=sm;simp only[go_sem,simprocAttr,al84,hne,hnv,hbx,hv,hpl,hgx];refine Zbf (Zf func41 rfl rfl) (fun G hG=>j41 x hx (n+1) G om (XV hG▸hT.full hn)) sS ?_;simp only[go_sem,simprocAttr,al84];refine ZoA rfl (k:=mk) (l:=l) (xs:=ZE x) (S:=S) (show l<n by omega) om hm (by simp only[go_sem,simprocAttr];rfl) ?_;obtain⟨H2,hH2⟩:∃H2,H2=H.upd l mk (.map (encS (ZM S (ZE x)))):=⟨_,rfl⟩
 have hv2:H2 lv kv=some (.box [.sl 13 ((p++x::q).map Lt.enc) .any]):=by rw[hH2];simp only[Za.upd,hll,false_and,if_false];exact hv
 have hq2:H2 lv kq=none:=by rw[hH2];simp only[Za.upd,hll,false_and,if_false];exact hq
 rw[←hH2];refine aS ?_;refine nq3 hne hnv hv2 ?_;have hel:Zkh 13 lv ((p++x::q).map Lt.enc):=ZsB _ hlen rfl;refine YV (caps:=[]) (avs:=[.sl 13 ((p++x::q).map Lt.enc) .any]) rfl (Zf func86 rfl rfl) (k86 (n+1) _ _ lv kq om (by rw[Zi hlv];exact hq2) hel) sS ?_;rintro r H1 ⟨rfl,rfl⟩;refine⟨[],H2.upd lv kq (.Zg 54 13 (flat ((p++x::q).map Lt.enc)) ((p++x::q).map Lt.enc).length),(Yk n _ _ _ _ _ hnv).symm,.upd (hel.blk (show lv≤n by omega)),?_⟩;obtain⟨H3,hH3⟩:∃H3,H3=H2.upd lv kq (.Zg 54 13 (flat ((p++x::q).map Lt.enc)) ((p++x::q).map Lt.enc).length):=⟨_,rfl⟩
 rw[←hH3];have hv3:H3 lv kv=some (.box [.sl 13 ((p++x::q).map Lt.enc) .any]):=by rw[hH3];simp only[Za.upd,hkq,and_false,if_false];exact hv2
 have e1:(p++x::q).map Lt.enc=p.map Lt.enc++x.enc::q.map Lt.enc:=sm;refine aS ?_;rw[IntWalk.i64_in ((p.length:Int)+1) (by simp at hlen;omega)];have hc85:Zh prog (n+1) 85 [.msl 13 lv kq ((p++x::q).map Lt.enc).length,.int .i64 p.length,.int .i64 ((p.length:Int)+1)] (full n [] H3) fun r H'=>r= .sub 13 lv kq (p++x::q).length 0 (p++q).length∧H'=full n [] (H3.upd lv kq (.Zg 54 13 (flat (Zal p q)) (p++x::q).length)):=by
  have:=k85 (n+1) (full n [] H3) lv kq om (p.map Lt.enc) (q.map Lt.enc) x.enc (e1▸hel) (by rw[Zi hlv,hH3,e1];simp[Za.upd]);rw[←e1,Qv,Qv,Qv,←List.map_append]at this;rw[Yk n _ _ _ _ _ hnv,Qv,show(p++q).length=p.length+q.length from Qd];exact this
 refine YV (caps:=[]) (avs:=[.msl 13 lv kq ((p++x::q).map Lt.enc).length,.int .i64 p.length,.int .i64 ((p.length:Int)+1)]) rfl (Zf func85 rfl rfl) hc85 sS ?_;rintro r H1 ⟨rfl,rfl⟩;refine⟨[],H3.upd lv kq (.Zg 54 13 (flat (Zal p q)) (p++x::q).length),rfl,.upd (Ze.Zhu p q),?_⟩;refine aq2 hne hnv ?_;have hv4:(H3.upd lv kq (.Zg 54 13 (flat (Zal p q)) (p++x::q).length)) lv kv=some (.box [.sl 13 ((p++x::q).map Lt.enc) .any]):=by simp only[Za.upd,hkq,and_false,if_false];exact hv3
 refine aq2 hnv hv4 ?_;refine⟨.inr (Ze.Zz ⟨.sub _ _ _ _ _ _ hlv,trivial⟩),?_⟩;refine nN ?_;exact⟨by simp[XZ],[],trivial,sm,rfl,by rw[hH3,hH2,Za.Zar]⟩
def WV{P:Program}{T:TT}{n:Nat}{t u ty y:Nat}{a v c:AV}{H:Za}{s:Zb}(r:Zu)(l k off:Nat)(cs:List AV)(h1:lkv s.tmps u= .ptr l k off)(h2:full n s.L s.H l k=some (.box cs))(h3:T ty=some r)
  (h4:off+r.size≤cs.length) (h5:r.isAgg=false→off<cs.length) (ha:Wk (lkv s.tmps t) a) (hv:Wk (if r.isAgg then .agg ((cs.drop off).take r.size)else(cs.drop off).getD 0 .dead) v) (hy:Wk (lkv s.tmps y) c) (b1:Below n a) (b2:Below n v) (b3:Below n c) (hH:s.H=H):
  PostF P T n [.tmp t,.cell u ty,.tmp y] (fun r' H'=>r'= .tup [a,v,c]∧H'=H) .ret s:=by
 refine⟨?_,[a,v,c],⟨ha,?_,hy,trivial⟩,by simp[b1,b2,b3],rfl,hH⟩
 ·intro x hx;simp only[Qk,QD,or_false]at hx;rcases hx with rfl|rfl|rfl
  ·simp[XZ]
  ·simp only[XZ];exact⟨l,k,off,cs,r,h1,h2,h3,h4,h5⟩
  ·simp[XZ]
 ·simp only[Zdo,h1,h2,h3];rw[if_pos ⟨h4,h5⟩];exact hv
def ZaD(S:List Str)(x:Lt):Str×Tm×Bool:=
 if WX S (Z8 x.L)&&WX S (Z8 x.R)then([],tm0,true)
 else if x.op=1∧WX S (Z8 x.R)=true∧x.L.kind=3 then(x.L.name,x.R,true)
 else if x.op=1∧WX S (Z8 x.L)=true∧x.R.kind=3 then(x.R.name,x.L,true)
 else([],tm0,false)
def Zox(S:List Str)(x:Lt)(hk:x.kind=2):YZ S x=if(ZaD S x).2.2=true then some (if(ZaD S x).1=[]then .test x else .bind (ZaD S x).1 (ZaD S x).2.1)else none:=by
 unfold YZ ZaD;rw[if_pos hk];split
 ·simp
 ·split
  ·simp
  ·split<;>simp
def j87(n:Nat)(H:Za)(l bx lm mk:Nat)(hl:l<n)(hlm:lm<n)(sp nw td:AV)(hbx:H l bx=some (.box [.map lm mk,sp,nw,td]))(S:List Str)(hm:H lm mk=some (.map (encS S)))(x:Lt)(hx:Sm x):
  PC prog n 87 [.ptr l bx 0,x.enc] H (.tup [.str (ZaD S x).1,(ZaD S x).2.1.enc,.bool (ZaD S x).2.2]):=by
 have hne:¬l=n:=om;have hnm:∀t:Tm,t.Good∧t.sz≤305→(nmT t).length≤1000000∧(Z8 t).length≤1000000:=fun t h=>by
  have:=nm_len.1 t;have:=ZdX t;have:=h.2;constructor<;>omega
 obtain⟨n1,n2⟩:=hnm x.L ⟨hx.good.L,hx.L⟩;obtain⟨n3,n4⟩:=hnm x.R ⟨hx.good.R,hx.R⟩;have hmf:∀L,full n L H lm mk=some (.map (encS S)):=fun L=>by rw[Zi hlm];exact hm
 have hr:ZaD S x=if WX S (Z8 x.L)&&WX S (Z8 x.R)then([],tm0,true)
  else if x.op=1∧WX S (Z8 x.R)=true∧x.L.kind=3 then(x.L.name,x.R,true)
  else if x.op=1∧WX S (Z8 x.L)=true∧x.R.kind=3 then(x.R.name,x.L,true)
  else([],tm0,false):=rfl
 refine aF func87 fun B=>?_
 refine nR ?_;refine nD drawO ?_;refine aq2 hne hbx ?_;refine cP (j56 x.L hx.good.L n1) ?_;refine cQ (j48 (n+1) _ lm mk om S (Z8 x.L) n2 (hmf _)) ?_;simp only[go_sem,simprocAttr,hne,hbx];refine cP (j56 x.R hx.good.R n3) ?_;refine cQ (j48 (n+1) _ lm mk om S (Z8 x.R) n4 (hmf _)) ?_;simp only[go_sem,simprocAttr,hne,hbx];generalize WX S (Z8 x.L)=p at hr⊢;generalize WX S (Z8 x.R)=q at hr⊢;repeat refine kn rfl ?_
 cases p with
 |true=>
  cases q with
  |true=>
   have hr:ZaD S x=([],tm0,true):=by rw[hr];rfl
   refine nR ?_;refine gj ?_;rw[hr];exact WV _ n 5 0 [.int .u8 0,.int .i64 0,.str [],.sl 4 [] .full] sS sF rfl (Qe _) sS (.refl _) zero_tm (.refl _) (.str _) (Tm.blw _ _) (.bool _) rfl
  |false=>
   refine nR ?_;refine nF ?_;cases h1:(x.op==1)with
   |false=>
    have o1:¬x.op=1:=by simpa using h1
    have hr:ZaD S x=([],tm0,false):=by rw[hr];simp[o1]
    refine nq h1 ?_;refine nF ?_;refine nq h1 ?_;refine gF ?_;rw[hr];exact WV _ n 5 0 [.int .u8 0,.int .i64 0,.str [],.sl 4 [] .full] sS sF rfl (Qe _) sS (.refl _) zero_tm (.refl _) (.str _) (Tm.blw _ _) (.bool _) rfl
   |true=>
    have o1:x.op=1:=by simpa using h1
    cases h2:(x.R.kind==3)with
    |false=>
     have o2:¬x.R.kind=3:=by simpa using h2
     have hr:ZaD S x=([],tm0,false):=by rw[hr];simp[o2]
     refine nq2 h1 h2 ?_;refine nF ?_;refine nq2 h1 h2 ?_;refine gF ?_;rw[hr];exact WV _ n 5 0 [.int .u8 0,.int .i64 0,.str [],.sl 4 [] .full] sS sF rfl (Qe _) sS (.refl _) zero_tm (.refl _) (.str _) (Tm.blw _ _) (.bool _) rfl
    |true=>
     have o2:x.R.kind=3:=by simpa using h2
     have hr:ZaD S x=(x.R.name,x.L,true):=by rw[hr];simp[o1,o2]
     refine nq2 h1 h2 ?_;refine nF ?_;refine nq2 h1 h2 ?_;refine nT ?_;refine XJ tok mixed drawO rfl rfl rfl ?_;refine gw ?_;rw[hr];exact WV _ n 5 0 (x.L).cs sS sF rfl (Qe _) sS (.refl _) (by simp only[go_sem,simprocAttr];exact .refl _) (.refl _) (.str _) (Tm.blw _ _) (.bool _) rfl
 |false=>
  cases q with
  |true=>
   refine nR ?_;refine nF ?_;cases h1:(x.op==1)with
   |false=>
    have o1:¬x.op=1:=by simpa using h1
    have hr:ZaD S x=([],tm0,false):=by rw[hr];simp[o1]
    refine nq h1 ?_;refine nF ?_;refine nq h1 ?_;refine gF ?_;rw[hr];exact WV _ n 5 0 [.int .u8 0,.int .i64 0,.str [],.sl 4 [] .full] sS sF rfl (Qe _) sS (.refl _) zero_tm (.refl _) (.str _) (Tm.blw _ _) (.bool _) rfl
   |true=>
    have o1:x.op=1:=by simpa using h1
    cases h2:(x.L.kind==3)with
    |false=>
     have o2:¬x.L.kind=3:=by simpa using h2
     have hr:ZaD S x=([],tm0,false):=by rw[hr];simp[o2]
     refine nq2 h1 h2 ?_;refine nF ?_;refine nq2 h1 h2 ?_;refine gF ?_;rw[hr];exact WV _ n 5 0 [.int .u8 0,.int .i64 0,.str [],.sl 4 [] .full] sS sF rfl (Qe _) sS (.refl _) zero_tm (.refl _) (.str _) (Tm.blw _ _) (.bool _) rfl
    |true=>
     have o2:x.L.kind=3:=by simpa using h2
     have hr:ZaD S x=(x.L.name,x.R,true):=by rw[hr];simp[o1,o2]
     refine nq2 h1 h2 ?_;refine nT ?_;refine XJ tok mixed drawO rfl rfl rfl ?_;refine gw ?_;rw[hr];exact WV _ n 5 0 (x.R).cs sS sF rfl (Qe _) sS (.refl _) (by simp only[go_sem,simprocAttr];exact .refl _) (.refl _) (.str _) (Tm.blw _ _) (.bool _) rfl
  |false=>
   refine nR ?_;refine nF ?_;cases h1:(x.op==1)with
   |false=>
    have o1:¬x.op=1:=by simpa using h1
    have hr:ZaD S x=([],tm0,false):=by rw[hr];simp[o1]
    refine nq h1 ?_;refine nF ?_;refine nq h1 ?_;refine gF ?_;rw[hr];exact WV _ n 5 0 [.int .u8 0,.int .i64 0,.str [],.sl 4 [] .full] sS sF rfl (Qe _) sS (.refl _) zero_tm (.refl _) (.str _) (Tm.blw _ _) (.bool _) rfl
   |true=>
    have o1:x.op=1:=by simpa using h1
    have hr:ZaD S x=([],tm0,false):=by rw[hr];simp
    refine nq h1 ?_;refine nF ?_;refine nq h1 ?_;refine gF ?_;rw[hr];exact WV _ n 5 0 [.int .u8 0,.int .i64 0,.str [],.sl 4 [] .full] sS sF rfl (Qe _) sS (.refl _) zero_tm (.refl _) (.str _) (Tm.blw _ _) (.bool _) rfl
def k88(hE:ExpOK)(n:Nat)(H:Za)(hT:Tabs H)(hn:0<n)(l b:Nat)(hl:l<n)(mp sp td:AV)(now:List Bnd)(hnow:now.length≤1000000)(hbx:H l b=some (prB mp sp now td))(hmp:Below n mp∧Below n sp∧Below n td)(x:Lt)(hop:0≤x.op∧x.op≤255)
  (hx:∀c∈now,BT c x.L∧BT c x.R):Zh prog n 88 [.iptr [.ptr l b 0],.iptr x.cs] H fun r H'=>r=eInt (Go.Abs.Xk (V6 x) now).2∧H'=H.upd l b (prB mp sp (Go.Abs.Xk (V6 x) now).1 td):=by
 have hne:l≠n:=om;refine aF func88 fun B=>?_
 refine gc ?_;refine YV (caps:=[]) (avs:=[.ptr l b 0,x.enc]) rfl (Zf func89 rfl rfl) (j89 hE (n+1) _ (hT.full hn) om l b om mp sp td now hnow (by rw[Zi hl];exact hbx) ⟨hmp.1.mono om,hmp.2.1.mono om,hmp.2.2.mono om⟩ x hop hx) sS ?_;rintro r H1 ⟨rfl,rfl⟩;refine⟨[],H.upd l b (prB mp sp (Go.Abs.Xk (V6 x) now).1 td),(Yk n _ H l b _ hne).symm,.upd (Ze.Zz ⟨hmp.1,hmp.2.1,ZA _,hmp.2.2,trivial⟩),?_⟩;refine gw ?_;exact Zk (.refl _) (.int _ _) ⟨rfl,rfl⟩
def k90(hE:ExpOK)(n:Nat)(H:Za)(hT:Tabs H)(hn:0<n)(l b:Nat)(hl:l<n)(mp sp td:AV)(now:List Bnd)(hnow:now.length≤1000000)(hbx:H l b=some (prB mp sp now td))(hmp:Below n mp∧Below n sp∧Below n td)(s:Str)(t:Tm)(ht:∀c∈now,BT c t):
  Zh prog n 90 [.iptr [.ptr l b 0],.iptr [.str s],.iptr t.cs] H fun r H'=>r=eInt (Go.Abs.Xk (ZbQ s t) now).2∧H'=H.upd l b (prB mp sp (Go.Abs.Xk (ZbQ s t) now).1 td):=by
 have hne:l≠n:=om;refine aF func90 fun B=>?_
 refine gc ?_;refine YV (caps:=[]) (avs:=[.ptr l b 0,.str s,t.enc]) rfl (Zf func91 rfl rfl) (j91 hE (n+1) _ (hT.full hn) om l b om mp sp td now hnow (by rw[Zi hl];exact hbx) ⟨hmp.1.mono om,hmp.2.1.mono om,hmp.2.2.mono om⟩ s t ht) sS ?_;rintro r H1 ⟨rfl,rfl⟩;refine⟨[],H.upd l b (prB mp sp (Go.Abs.Xk (ZbQ s t) now).1 td),(Yk n _ H l b _ hne).symm,.upd (Ze.Zz ⟨hmp.1,hmp.2.1,ZA _,hmp.2.2,trivial⟩),?_⟩;refine gw ?_;exact Zk (.refl _) (.int _ _) ⟨rfl,rfl⟩
def k92(n:Nat)(H:Za)(hT:Tabs H)(hn:0<n)(l bx ls bs:Nat)(hl:l<n)(hls:ls<l)(mp td:AV)(now:List Bnd)(hnow:now.length≤1000000)(hbx:H l bx=some (prB mp (.ptr ls bs 0) now td))(hmp:Below n mp∧Below n td)(s:Sto)(hs:Z7 H ls bs s)(hok:Ok s)(x:Lt)(hx:∀c∈now,BA c x.at_):
  Zh prog n 92 [.iptr [.ptr l bx 0],.iptr x.cs] H fun r H'=>r=eInt (Go.Abs.Xk (atS s.A x.at_) now).2∧H'=H.upd l bx (prB mp (.ptr ls bs 0) (Go.Abs.Xk (atS s.A x.at_) now).1 td):=by
 have hne:l≠n:=om;refine aF func92 fun B=>?_
 refine gc ?_;refine YV (caps:=[]) (avs:=[.ptr l bx 0,x.at_.enc]) rfl (Zf func93 rfl rfl) (j93 (n+1) _ (hT.full hn) om l bx ls bs om om mp td now hnow (by rw[Zi hl];exact hbx) ⟨hmp.1.mono om,hmp.2.mono om⟩ s (fun k x hk=>by rw[Zi om];exact hs k x hk) hok x.at_ hx) sS ?_;rintro r H1 ⟨rfl,rfl⟩;refine⟨[],H.upd l bx (prB mp (.ptr ls bs 0) (Go.Abs.Xk (atS s.A x.at_) now).1 td),(Yk n _ H l bx _ hne).symm,.upd (Ze.Zz ⟨hmp.1,.ptr _ _ _ (show ls<n by omega),ZA _,hmp.2,trivial⟩),?_⟩;refine gw ?_;exact Zk (.refl _) (.int _ _) ⟨rfl,rfl⟩
def k94(n:Nat)(H:Za)(hT:Tabs H)(hn:0<n)(l bx mk:Nat)(hl:l<n)(sp nw td:AV)(hbx:H l bx=some (.box [.map l mk,sp,nw,td]))(S:List Str)(hm:H l mk=some (.map (encS S)))(x:Lt)(hx:Sm x):
  PC prog n 94 [x.enc,.iptr [.ptr l bx 0]] H (.bool (!XW S x)):=by
 have hne:¬l=n:=om;have hvl:=hx.tv.2.2;refine aF func94 fun B=>?_
 refine nR ?_;have hb:XW S x=(!(x.kind==2)&&WX S (ZE x)):=rfl;cases hk:(x.kind==2)with
 |true=>
  rw[hb,hk];refine XJ tok mixed drawO rfl rfl rfl ?_;simp -implicitDefEqProofs (maxSteps:=1000000) only[go_sem,simprocAttr,hne,hbx,hk];exact pB
 |false=>
  rw[hb,hk];refine XJ tok mixed drawO rfl rfl rfl ?_;simp -implicitDefEqProofs (maxSteps:=1000000) only[go_sem,simprocAttr,hne,hbx,hk];refine cT (j41 x hx) ?_;refine ZhD (Zf func48 rfl rfl) (j48 (n+1) _ l mk om S (ZE x) om (by rw[Zi hl];exact hm)) (by simp only[go_sem,simprocAttr];rfl) ?_;refine aS ?_;exact pB
def Zch(A:List Am):List Stp→List Bnd→Nat→List Bnd
 |_,now,0=>now
 |[],now,_+1=>now
 |s::r,now,i+1=>Zch A r (Go.Abs.Xk (stepS A s) now).1 i
def ZdY(A:List Am):∀(p:List Stp) (now:List Bnd) (i:Nat) (h:i<p.length),Zch A p now (i+1)=(Go.Abs.Xk (stepS A p[i]) (Zch A p now i)).1
 |s::r,now,0,_=>by
  cases r<;>rfl
 |s::r,now,i+1,h=>by
  have:=ZdY A r (Go.Abs.Xk (stepS A s) now).1 i (by simpa using h);exact this
structure Zjf (A:List Am) (p:List Stp) (S0:List Str) (now:List Bnd) (i:Nat):Prop where
 eq:WT A p now=WT A (p.drop i) (Zch A p now i)
 ok:∀b∈Zch A p now i,ZO b∧ ∀n,n∈Zo b↔n∈S0++(p.take i).flatMap varS
 rdy:Rdy (S0++(p.take i).flatMap varS) (p.drop i)
 len:(Zch A p now i).length≤20001
def Zmw(f:Bnd→List Bnd×Int)(now:List Bnd):(Go.Abs.Xk f now).1.length≤20001:=by
 have:∀(q:List Bnd) (p:List Bnd×Int),p.1.length≤20001→(q.foldl (fun p b=>Wn p (f b)) p).1.length≤20001:=by
  intro q;induction q with
  |nil=>intro p h;exact h
  |cons x q ih=>
   intro p _;refine ih _ ?_;simp only[Wn,Zgs];split
   ·rw[QK];omega
   ·omega
 exact this now ([],0) sm
section
variable {i:Nat} {S0:List Str} {p:List Stp} {A:List Am}
def Zjf.step(hA:∀a∈A,Yn a=true){now:List Bnd}(h:Zjf A p S0 now i)(hi:i<p.length)(h0:(Go.Abs.Xk (stepS A p[i]) (Zch A p now i)).2=0):Zjf A p S0 now (i+1):=by
 have hd:p.drop i=p[i]::p.drop (i+1):=Qz hi;have hs:=ZdY A p now i hi;have hr:=h.rdy;rw[hd]at hr;have ht:S0++(p.take (i+1)).flatMap varS=(S0++(p.take i).flatMap varS)++varS p[i]:=by
  rw[Qn hi,Uc,Ua];simp
 refine⟨?_,fun b hb=>?_,by rw[ht];exact hr.2,by rw[hs];exact Zmw _ _⟩
 ·rw[h.eq,hd,WT,if_pos h0,hs]
 ·rw[hs]at hb;obtain⟨hz,heq⟩:=ZmW h0;rw[heq,Qw]at hb;obtain⟨c,hc,hb⟩:=hb;obtain⟨hg,hdm⟩:=h.ok c hc;obtain⟨g,_,hd2,_⟩:=(Zf5 hA hg (JR (fun n=>(hdm n).symm) hr.1) (hz c hc) b).1 hb;exact⟨g,fun n=>by rw[hd2,hdm,ht];exact Qg.symm⟩
def plG_made:∀(f:Nat) (S:List Str) (l:List Lt),(∀x∈l,okX x)→ ∀q∈(plG f S l).1,q.2∈l∧Vu q.1 q.2
 |0,_,_,_,_,h=>by cases h
 |f+1,S,l,ho,q,h=>by
  unfold plG at h;split at h
  ·cases h
  ·rename_i s x r hn;obtain⟨h1,_,h3⟩:=ZhF ho hn;rcases Qk.1 h with rfl|h
   ·exact⟨h3.mem_iff.2 sm,h1⟩
   ·have:=plG_made f _ r (fun y hy=>ho y (h3.mem_iff.2 (by simp[hy]))) q h;exact⟨h3.mem_iff.2 (by simp[this.1]),this.2⟩
def fnF:Stp×Lt→Nat
 |(.test _,_)=>88
 |(.bind _ _,_)=>90
 |(.atom _,_)=>92
def fnC(l bx:Nat):Stp×Lt→List AV
 |(.test x,_)=>[.iptr [.ptr l bx 0],.iptr x.cs]
 |(.bind s t,_)=>[.iptr [.ptr l bx 0],.iptr [.str s],.iptr t.cs]
 |(.atom _,x)=>[.iptr [.ptr l bx 0],.iptr x.cs]
def Zq1(q:Stp×Lt):∃fn c,Fun prog (fnF q) fn c:=by
 obtain⟨s,x⟩:=q;cases s with
 |test y=>exact⟨_,_,Zf func88 rfl rfl⟩
 |bind s t=>exact⟨_,_,Zf func90 rfl rfl⟩
 |atom a=>exact⟨_,_,Zf func92 rfl rfl⟩
def ZtQ(hE:ExpOK)(n:Nat)(H:Za)(hT:Tabs H)(hn:0<n)(l bx ls bs:Nat)(hl:l<n)(hls:ls<l)(mp td:AV)(now:List Bnd)(hnow:now.length≤1000000)(hbx:H l bx=some (prB mp (.ptr ls bs 0) now td))(hmp:Below n mp∧Below n td)(s:Sto)(hs:Z7 H ls bs s)(hok:Ok s)
  (q:Stp×Lt) (hm:Vu q.1 q.2) (hx:Sm q.2) (hop:0≤q.2.op∧q.2.op≤255) (hok2:∀c∈now,ZO c∧c.length≤100000∧Ready (Zo c) q.1):
  Zh prog n (fnF q) (fnC l bx q) H fun r H'=>r=eInt (Go.Abs.Xk (stepS s.A q.1) now).2∧H'=H.upd l bx (prB mp (.ptr ls bs 0) (Go.Abs.Xk (stepS s.A q.1) now).1 td):=by
 obtain⟨st,x⟩:=q;cases st with
 |test y=>
  obtain⟨rfl,hk⟩:=hm;refine k88 hE n H hT hn l bx hl mp (.ptr ls bs 0) td now hnow hbx ⟨hmp.1,.ptr _ _ _ om,hmp.2⟩ y hop fun c hc=>?_
  obtain⟨g,hl,hr⟩:=hok2 c hc;exact⟨⟨g,hl,hx.good.L,hx.L,fun n hn=>hr n (Qx _ hn)⟩,⟨g,hl,hx.good.R,hx.R,fun n hn=>hr n (QB _ hn)⟩⟩
 |bind nm t=>
  obtain⟨hk,ho1,hc⟩:=hm;dsimp only at hc hx;refine k90 hE n H hT hn l bx hl mp (.ptr ls bs 0) td now hnow hbx ⟨hmp.1,.ptr _ _ _ om,hmp.2⟩ nm t fun c hc2=>?_
  obtain⟨g,hl,hr⟩:=hok2 c hc2;rcases hc with⟨_,_,rfl⟩|⟨_,_,rfl⟩
  ·exact⟨g,hl,hx.good.R,hx.R,hr.2⟩
  ·exact⟨g,hl,hx.good.L,hx.L,hr.2⟩
 |atom a=>
  obtain⟨hk,hng,e⟩:=hm;dsimp only at e hx;subst e;refine k92 n H hT hn l bx ls bs hl hls mp td now hnow hbx hmp s hs hok x fun c hc2=>?_
  obtain⟨g,hl,hr⟩:=hok2 c hc2;exact⟨g,hl,hx.good.at_,hx.at_⟩
structure Zee (l:List Lt) (b:Bnd) (F:List Lt):Prop where
 sm:∀y∈F,Sm y
 op:∀y∈F,0≤y.op∧y.op≤255
 ok:∀y∈F,okX y
 len:F.length≤9160
 vars:(F.flatMap ZE).length≤15250
variable {b:Bnd} {l:List Lt}
def Zgg(hl:l.length≤10)(hs:∀x∈l,Sm x)(hb:b.length≤1000):(ZN l b).length≤7100:=by
 have h2:(l.flatMap ZE).length≤l.length*610:=by
  clear hl;induction l with
  |nil=>simp
  |cons x r ih=>
   have:=(hs x sm).tv.2.2;have:=ih fun y hy=>hs y (by simp[hy])
   rw[QM,Qd,Qo];omega
 unfold ZN;rw[Qd];have h3:(Zo b).length=b.length:=by simp[Zo]
 omega
def ZqV(hl:l.length≤10)(hs:∀x∈l,Sm x)(hop:∀x∈l,0≤x.op∧x.op≤255)(hb:b.length≤1000)(hv:l.all Y5=true):Zee l b (XR l (ZN l b)):=by
 have h1:=Zgg hl hs hb;have h2:(l.flatMap fun x=>(Yw x).flatMap Z8).length≤l.length*915:=by
  clear h1 hl hop hv;induction l with
  |nil=>simp
  |cons x r ih=>
   have:=ZgF (hs x sm);have:=ih fun y hy=>hs y (by simp[hy])
   rw[QM,Qd,Qo];omega
 have hsm:=ZpB (S:=ZN l b++l.flatMap fun x=>(Yw x).flatMap Z8) (by rw[Qd];omega) l 0 hs (by
  have h3:l.length*(305*((ZN l b++l.flatMap fun x=>(Yw x).flatMap Z8).length+2))≤10*(305*20002):=Qaw hl (GV _ (by rw[Qd];omega));omega)
 have hvl:=ZjH (S:=ZN l b++l.flatMap fun x=>(Yw x).flatMap Z8) l 0 hs;refine⟨fun y hy=>(hsm y hy).1,fun y hy=>?_,Zf7 0 fun x hx=>(Zb5 (QA.1 hv x hx)).1,by have:=hvl.2;unfold XR;omega,by have:=hvl.1;unfold XR;omega⟩;rcases(hsm y hy).2 with h|⟨x,hx,e⟩
 ·exact h
 ·rw[e];exact hop x hx
variable {S1:List Str}
def ZhA(hv:l.all Y5=true)(hvb:validB b=true)(hS0:∀x,x∈S0↔x∈Zo b){D:List (Stp×Lt)}{R:List Lt}
  (hP:plG (XR l (ZN l b)).length S0 (XR l (ZN l b))=(D,S1,R)):
  ZQ A l b=if R.all (XW S1)then(if(WT A (D.map Prod.fst) [b]).2=0 then(XI YJ ((WT A (D.map Prod.fst) [b]).1.map (Vj (ZN l b))),0)else([],(WT A (D.map Prod.fst) [b]).2))else([],120):=by
 obtain⟨h1,h2,h3⟩:=plG_planF (XR l (ZN l b)).length S0 (Zo b) (XR l (ZN l b)) hS0;rw[hP]at h1 h2 h3;dsimp only at h1 h2 h3;have hj:ZQ A l b=match VH (Zo b) (XR l (ZN l b))with
   |none=>([],eUnsafe)
   |some p=>if(WT A p [b]).2=0 then(XI YJ ((WT A p [b]).1.map (Vj (ZN l b))),0)else([],(WT A p [b]).2):=by
  unfold ZQ;rw[hv,hvb];rfl
 rw[hj];unfold VH;simp only;rw[←h1,←h3,Zc6 fun n=>(h2 n).symm];cases R.all (XW S1)<;>rfl
variable {F:List Lt}
def ZnU(hF:Zee l b F)(hvb:validB b=true)(hS0:∀x,x∈S0↔x∈Zo b){D:List (Stp×Lt)}{X:List Str×List Lt}(hP:plG F.length S0 F=(D,X)):
  Zjf A (D.map Prod.fst) (Zo b) [b] 0∧(∀q∈D,q.2∈F∧Vu q.1 q.2)∧D.length≤F.length∧ ∀n∈(D.map Prod.fst).flatMap varS,n∈F.flatMap ZE:=by
 obtain⟨h1,_,_⟩:=plG_planF F.length S0 (Zo b) F hS0;obtain⟨T,a1,a2,a3,_,_⟩:=plan_spec F.length (Zo b) F hF.ok;rw[←h1,hP]at a2 a3;have hm:=plG_made F.length S0 F hF.ok;rw[hP]at hm;have hTF:∀y∈T,y∈F:=fun y hy=>a1.mem_iff.2 (Qx _ hy)
 refine⟨⟨by simp[Zch],fun c hc=>?_,by simpa using a3,by simp[Zch]⟩,hm,?_,fun n hn=>?_⟩
 ·simp only[Zch,Ql]at hc;subst hc;exact⟨validB_good hvb,fun n=>by simp⟩
 ·have e1:=a2.len;have e2:=a1.length_eq;rw[Qv]at e1;rw[Qd]at e2;dsimp only at e1;omega
 ·obtain⟨y,hy,hn⟩:=Qw.1 ((fa_vars a2 (fun y hy=>hF.ok y (hTF y hy)) n).1 hn);exact Qw.2 ⟨y,hTF y hy,hn⟩
def Znt(hS0:∀x,x∈S0↔x∈Zo b){D:List (Stp×Lt)}{R:List Lt}(hP:plG F.length S0 F=(D,S1,R))(hb:R.all (XW S1)=true):VH (Zo b) F=some (D.map Prod.fst):=by
 obtain⟨h1,h2,h3⟩:=plG_planF F.length S0 (Zo b) F hS0;rw[hP]at h1 h2 h3;dsimp only at h1 h2 h3;unfold VH;simp only;rw[←h1,←h3,Zc6 fun n=>(h2 n).symm,hb];rfl
def ZoK(ho:∀x∈l,okX x)(hp:VH (Zo b) (XR l (ZN l b))=some p){c:Bnd}(g:ZO c)(hd:∀n,n∈Zo c↔n∈Zo b++p.flatMap varS):XO (ZN l b) (Vj (ZN l b) c):=by
 let S:=ZN l b++l.flatMap fun x=>(Yw x).flatMap Z8
 have hoF:∀y∈flL S l 0,okX y:=Zf7 0 ho;have hp':VH (Zo b) (flL S l 0)=some p:=hp;obtain⟨m1,m2,m3⟩:=Zed hoF hp';refine⟨g.filter _,fun n=>?_⟩;rw[Zbg];refine⟨fun h=>h.1,fun h=>⟨h,(hd n).2 ?_⟩⟩;rw[Qg,m2,Zbo S l 0 n];rcases Qg.1 h with h|h
 ·exact .inr (.inl h)
 ·exact .inl h
def ZlF{S T:List Str}(h:∀n,n∈S↔n∈T)(c:Bnd):Vj S c=Vj T c:=by
 unfold Vj;congr 1
 funext q;exact decide_eq_decide.2 (h q.1)
def ZmY(hF:Zee l b F)(hb:b.length≤1000)(hp:∀n∈p.flatMap varS,n∈F.flatMap ZE)(h:Zjf A p (Zo b) [b] i):∀c∈Zch A p [b] i,c.length≤100000:=fun c hc=>by
 obtain⟨g,hd⟩:=h.ok c hc;have hnd:(Zo c).Nodup:=(ZbG g.asc).imp fun h e=>by rw[e,cmpBytes_self]at h;omega
 have:=YL hnd (q:=Zo b++F.flatMap ZE) fun n hn=>by
  rcases Qg.1 ((hd n).1 hn)with h|h
  ·exact Qx _ h
  ·obtain⟨s,hs,h⟩:=Qw.1 h;exact QB _ (hp n (Qw.2 ⟨s,UQ hs,h⟩))
 rw[Qd]at this;have h2:=hF.vars;have h3:(Zo b).length=b.length:=by simp[Zo]
 have h4:(Zo c).length=c.length:=by simp[Zo]
 omega
def Zjf.use(hF:Zee l b F)(hb:b.length≤1000)(hp:∀n∈p.flatMap varS,n∈F.flatMap ZE)(h:Zjf A p (Zo b) [b] i)(hi:i<p.length):∀c∈Zch A p [b] i,ZO c∧c.length≤100000∧Ready (Zo c) p[i]:=fun c hc=>by
 obtain⟨g,hd⟩:=h.ok c hc;have hr:=h.rdy;rw[Qz hi]at hr;exact⟨g,ZmY hF hb hp h c hc,JR (fun n=>(hd n).symm) hr.1⟩
end
end Go.Proofs.YtmdeagmbfhbbnaaGreatDoorR

namespace Go.Abs
section
variable {P:Program} {b:Frame} {a:Act} {k:List Item} {cs:List Frame} {w:World}
def X9{c:Code}:step P (lone (b.atR a (.code (.scope c)::k)) cs w)= .next (lone (b.atR a (.code c:: .inScope c::k)) cs w):=
 step_lone_go (by simp[stepG,stepG.exec,Frame.atR])
def Zco{c:Code}:step P (lone (b.atR a (.inScope c::k)) cs w)= .next (lone (b.atR a k) cs w):=
 step_lone_go (by simp[stepG,stepG.exec,Frame.atR])
end
def Zea{F:Fence}{n:Nat}{P:Program}{Q:Exit→Act→World→Prop}{a:Act}{w:World}{c rest:Code}(l:Nat)(J:Act→World→Prop)(μ:Act→World→Nat)(hf:findLabel c l=some rest)
  (first:c.wpIn F n P (Exit.jump l J Q) a w)
  (pass:∀a w,J a w→rest.wpIn F n P (Exit.jump l (fun a' w'=>J a' w'∧μ a' w'<μ a w) Q) a w):(Code.scope c).wpIn F n P Q a w:=by
 intro b k cs hro hb hr;have hg:gotoIn l (.inScope c::k)=some (.code rest:: .inScope c::k):=by simp[gotoIn,hf]
 have h0:∀{a:Act} {w:World},(lone (b.atR a (.code (.scope c)::k)) cs w).fenced P F:=fenced_calm hb hr rfl;have h1:∀{a:Act} {w:World},(lone (b.atR a (.inScope c::k)) cs w).fenced P F:=fenced_calm hb hr rfl;have hxt:∀{id:Nat},exitTo id (.inScope c::k)=exitTo id k:=by simp[exitTo]
 have key:∀m a w,μ a w=m→J a w→ ∃e a' w',Q e a' w'∧ArrivesIn (Machine.fenced P F) P (lone (b.atR a (.code rest:: .inScope c::k)) cs w) b k cs e a' w':=by
  intro m;induction m using Nat.strongRecOn with
  |_ m ih=>
   intro a w hn hJ;obtain⟨e,a₁,w₁,hq,harr⟩:=pass a w hJ b (.inScope c::k) cs hro hb hr;cases e with
   |normal=>exact⟨.normal,a₁,w₁,hq,StepsIn.trans harr (.one h1 Zco)⟩
   |exit id=>exact⟨_,a₁,w₁,hq,fun k' hk=>harr.1 k' (by rw[hxt];exact hk),fun hr' hk=>harr.2 hr' (by rw[hxt];exact hk)⟩
   |goto l'=>
    obtain⟨rfl,hJ',hlt⟩:=hq;obtain⟨e₂,a₂,w₂,hq₂,harr₂⟩:=ih _ om a₁ w₁ rfl hJ';exact⟨e₂,a₂,w₂,hq₂,.of_steps (harr.1 _ hg) harr₂⟩
   |ret=>exact⟨_,a₁,w₁,hq,harr⟩
   |panic ch=>exact⟨_,a₁,w₁,hq,harr⟩
   |outgrown=>exact⟨_,a₁,w₁,hq,harr⟩
 obtain⟨e,a₁,w₁,hq,harr⟩:=first b (.inScope c::k) cs hro hb hr
 cases e with
 |normal=>exact⟨.normal,a₁,w₁,hq,.head h0 X9 (StepsIn.trans harr (.one h1 Zco))⟩
 |exit id=>exact⟨_,a₁,w₁,hq,fun k' hk=>.head h0 X9 (harr.1 k' (by rw[hxt];exact hk)),fun hr' hk=>let⟨k₁,h2,h3⟩:=harr.2 hr' (by rw[hxt];exact hk);⟨k₁,h2,.head h0 X9 h3⟩⟩
 |goto l'=>
  obtain⟨rfl,hJ'⟩:=hq;obtain⟨e₂,a₂,w₂,hq₂,harr₂⟩:=key _ a₁ w₁ rfl hJ';exact⟨e₂,a₂,w₂,hq₂,.of_steps (.head h0 X9 (harr.1 _ hg)) harr₂⟩
 |ret=>exact⟨_,a₁,w₁,hq,.of_steps (.one h0 X9) harr⟩
 |panic ch=>exact⟨_,a₁,w₁,hq,.of_steps (.one h0 X9) harr⟩
 |outgrown=>exact⟨_,a₁,w₁,hq,.of_steps (.one h0 X9) harr⟩
def JQ(l:Nat)(J:Zb→Prop)(Q:Exit→Zb→Prop):Exit→Zb→Prop:=fun e s=>match e with
 | .goto l'=>l'=l∧J s
 |e=>Q e s
def Zpa{P:Program}{φ:Fm}{n N:Nat}{c rest:Code}{k:List Itm}{Q:Exit→Zb→Prop}{s:Zb}(l:Nat)(I:Nat→Zb→Prop)(hf:findLabel c l=some rest)
  (first:AK P φ n N [.code c] (JQ l (fun s'=>∃m s'',AWk n N s' s''∧I m s'') (AX P φ n N Q k)) s)
  (pass:∀m s,I m s→AK P φ n N [.code rest] (JQ l (fun s'=>∃m' s'',m'<m∧AWk n N s' s''∧I m' s'') (AX P φ n N Q k)) s):
  AK P φ n N (.code (.scope c)::k) Q s:=fun E w a hs=>by
 classical
 let M (a:Act) (w':World) (m:Nat):Prop:=∃s' E',I m s'∧Yp φ.B n N s' E' a w'∧Ext n E w E' w'
 let μ (a:Act) (w':World):Nat:=if h:∃m,M a w' m then Classical.choose (least h)else 0
 refine Zea l (fun a w'=>∃m,M a w' m) μ hf ?_ ?_
 ·refine wpIn_mono (first E w a hs) ?_;rintro e a2 w2 ⟨s2,E2,hQ,hs2,hx2⟩;cases e with
  |goto l'=>
   obtain⟨rfl,m,s3,hwk,hI⟩:=hQ;obtain⟨E3,hs3,hx3⟩:=hwk _ E2 w2 a2 hs2;exact⟨rfl,m,s3,E3,hI,hs3,hx2.trans hx3⟩
  |_=>exact⟨s2,E2,hQ,hs2,hx2⟩
 ·intro a' w' hM;have hμ:μ a' w'=Classical.choose (least hM):=dif_pos hM;obtain⟨s',E',hI,hs',hx'⟩:=(Qad (least hM)).1;refine wpIn_mono (pass _ s' hI E' w' a' hs') ?_;rintro e a2 w2 ⟨s2,E2,hQ,hs2,hx2⟩;cases e with
  |goto l'=>
   obtain⟨rfl,m',s3,hm',hwk,hI3⟩:=hQ;obtain⟨E3,hs3,hx3⟩:=hwk _ E2 w2 a2 hs2;have hM2:M a2 w2 m':=⟨s3,E3,hI3,hs3,hx'.trans (hx2.trans hx3)⟩
   have hex:∃m,M a2 w2 m:=⟨m',hM2⟩
   refine⟨rfl,hex,?_⟩;have:μ a2 w2=Classical.choose (least hex):=dif_pos hex;rw[this,hμ];exact Nat.lt_of_le_of_lt ((Qad (least hex)).2 _ hM2) hm'
  |_=>exact⟨s2,E2,hQ,hs2,hx'.trans hx2⟩
section
variable {cx:Cx} {c:Code} {k:List Itm} {Q:Exit→Zb→Prop} {s:Zb}
def Zru{l:Nat}(hc:c= .label l)(h:AKc cx k Q s):AKc cx (.code c::k) Q s:=by
 rw[hc];exact fun E w a hs=>wpIn_label ⟨s,E,h,hs,.refl cx.n E w⟩
def ZdH{P:Program}{φ:Fm}{n N:Nat}{l:Nat}(h:Q (.goto l) s):∀k,AX P φ n N Q k (.goto l) s
 |[]=>h
 | .code _::k=>ZdH h k
 | .blk _::k=>ZdH h k
def ZoW{l:Nat}(hc:c= .goto l)(h:Q (.goto l) s):AKc cx (.code c::k) Q s:=by
 rw[hc];exact fun E w a hs=>wpIn_goto ⟨s,E,ZdH h k,hs,.refl cx.n E w⟩
def ZqT(l:Nat)(I:Nat→Zb→Prop){rest:Code}(hc:c= .scope c.fst)(hf:findLabel c.fst l=some rest)
  (first:AKc cx [.code c.fst] (JQ l (fun s'=>∃m s'',AWk cx.n cx.N s' s''∧I m s'') (AX cx.P cx.φ cx.n cx.N Q k)) s)
  (pass:∀m s,I m s→AKc cx [.code rest] (JQ l (fun s'=>∃m' s'',m'<m∧AWk cx.n cx.N s' s''∧I m' s'') (AX cx.P cx.φ cx.n cx.N Q k)) s):
  AKc cx (.code c::k) Q s:=by rw[hc];exact Zpa l I hf first pass
def Zk2(l:Nat)(I:Nat→Zb→Prop)(m0:Nat)(s0:Zb){rest rest0:Code}(hc:c= .scope c.fst)(hf:findLabel c.fst l=some rest)(hr:∀Q' s,AKc cx [.code rest0] Q' s→AKc cx [.code rest] Q' s)(pre:∀Q',AKc cx [.code rest0] Q' s0→AKc cx [.code c.fst] Q' s)(h0:I m0 s0)
  (pass:∀m s,I m s→AKc cx [.code rest0] (JQ l (fun s'=>∃m' s'',m'<m∧AWk cx.n cx.N s' s''∧I m' s'') (AX cx.P cx.φ cx.n cx.N Q k)) s):
  AKc cx (.code c::k) Q s:=by
 refine ZqT l I hc hf (pre _ ?_) fun m s h=>hr _ _ (pass m s h)
 refine J8 ?_ (pass m0 s0 h0);intro e s' h;cases e with
 |goto l'=>
  obtain⟨e,m',s'',_,h1,h2⟩:=h;exact⟨e,m',s'',h1,h2⟩
 |_=>exact h
end
end Go.Abs

namespace Go.Proofs.YtmdeagmbfhbbnaaGreatDoorR
open Go.Abs
def fnV(l bx:Nat):Stp×Lt→AV
 |(.test x,_)=>.fn (.func 88) [.iptr [.ptr l bx 0],.iptr x.cs]
 |(.bind s t,_)=>.fn (.func 90) [.iptr [.ptr l bx 0],.iptr [.str s],.iptr t.cs]
 |(.atom _,x)=>.fn (.func 92) [.iptr [.ptr l bx 0],.iptr x.cs]
def ZbR(l bx:Nat)(s:Stp×Lt):(fnV l bx s).cells=[fnV l bx s]:=by
 obtain⟨s,x⟩:=s;cases s<;>rfl
def ZmX(l bx:Nat)(s:Stp×Lt):(fnV l bx s).one=true:=by
 obtain⟨s,x⟩:=s;cases s<;>rfl
section
variable {n:Nat}
def Zce(l bx:Nat)(h:l<n)(s:Stp×Lt):Below n (fnV l bx s):=by
 have hp:Below n (.iptr [.ptr l bx 0]):=Zl ⟨.ptr _ _ _ h,trivial⟩;obtain⟨s,x⟩:=s;have key:∀f cs,Yg (fun c=>Below n c) cs→Below n (.fn f cs):=fun f cs h=>Below.fn _ _ fun i hi=>h.mem _ (Qa hi)
 cases s with
 |test y=>exact key _ _ ⟨hp,Zl y.bcs,trivial⟩
 |bind s t=>exact key _ _ ⟨hp,Zl ⟨.str _,trivial⟩,Zl t.bcs,trivial⟩
 |atom a=>exact key _ _ ⟨hp,Zl x.bcs,trivial⟩
variable {l bx:Nat}
def ZhO{m:Nat}(h:l<n)(done:List (Stp×Lt)):Ze.Below n (.Zg 84 1 (done.map (fnV l bx)) m):=⟨fun c hc=>by
 simp only[Ze.avs,Qi]at hc;obtain⟨s,_,rfl⟩:=hc;exact Zce l bx h s,by simp[Ze.at_]⟩
def plH(H:Za)(l bx mk q:Nat)(sp nw:AV)(done:List (Stp×Lt))(S:List Str):Za:=
 ((H.upd l mk (.map (encS S))).upd l q (.Zg 84 1 (done.map (fnV l bx)) done.length)).upd l bx (.box [.map l mk,sp,nw,.msl 1 l q done.length])
def Zle(n l bx mk q:Nat)(sp nw:AV)(H:Za)(S:List Str)(ls:List Lt)(done:List (Stp×Lt)):Zb:=
 ⟨[(5,.fn (.func 84) [.iptr [.ptr l bx 0],.ptr n 3 0]),(2,.iptr [.ptr l bx 0]),(3,.ptr n 3 0)],[(3,.box [.sl 13 (ls.map Lt.enc) .any])],plH H l bx mk q sp nw done S⟩
def I42(n l bx mk q:Nat)(sp nw:AV)(H:Za)(D:List (Stp×Lt))(E:List Str×List Lt)(m:Nat)(s:Zb):Prop:=
 ∃S ls done,m=ls.length∧s=Zle n l bx mk q sp nw H S ls done∧(∀x∈ls,Sm x)∧done++(plG ls.length S ls).1=D∧(plG ls.length S ls).2=E∧ls.length+done.length≤1000000
variable {p:Nat→Prop}
def Za4(hl:l<n)(h:p 3):Inside n p (.fn (.func 84) [.iptr [.ptr l bx 0],.ptr n 3 0]):=
 .fn _ _ fun i hi=>Yg.mem (l:=[.iptr [.ptr l bx 0],.ptr n 3 0]) (p:=fun c=>Inside n p c) ⟨(Zl (cs:=[.ptr l bx 0]) ⟨.ptr _ _ _ hl,trivial⟩).inside,.ptr _ _ _ (.inr ⟨rfl,h⟩),trivial⟩ _ (Qa hi)
def Ze8(hl:l<n):Inside n p (.iptr [.ptr l bx 0]):=(Zl (cs:=[.ptr l bx 0]) ⟨.ptr _ _ _ hl,trivial⟩).inside
def ZqA(H:Za)(l bx mk q:Nat)(hd:mk≠q∧mk≠bx∧q≠bx)(sp nw:AV)(done:List (Stp×Lt))(S S':List Str):(plH H l bx mk q sp nw done S).upd l mk (.map (encS S'))=plH H l bx mk q sp nw done S':=by
 funext a b;unfold plH Za.upd;by_cases h:a=l
 ·subst h;by_cases h1:b=mk
  ·subst h1;simp[hd.1,hd.2.1]
  ·simp[h1]
 ·simp[h]
def Zng(H:Za)(l bx mk q:Nat)(hd:mk≠q∧mk≠bx∧q≠bx)(sp nw:AV)(done:List (Stp×Lt))(s:Stp×Lt)(S:List Str):
  ((plH H l bx mk q sp nw done S).upd l q (.Zg 84 1 (done.map (fnV l bx)++[fnV l bx s]) (done.length+1))).upd l bx (.box [.map l mk,sp,nw,.msl 1 l q (done.length+1)])=plH H l bx mk q sp nw (done++[s]) S:=by
 funext a b;unfold plH Za.upd;by_cases h:a=l
 ·subst h;by_cases h1:b=bx
  ·simp[h1]
  ·by_cases h2:b=q
   ·simp[h1,h2]
   ·simp[h1,h2]
 ·simp[h]
def Zpb(p q:List Lt):∀x∈Zal p q,x.cells.length=13:=fun x hx=>by
 rcases Qg.1 hx with h|h
 ·obtain⟨y,_,rfl⟩:=Qi.1 h;rfl
 ·rw[Ql]at h;subst h;rfl
variable {tm:List (Nat×AV)} {S:List Str}
def ZtE{N mk q:Nat}(hl:l<n)(hd:mk≠q∧mk≠bx∧q≠bx){sp nw:AV}{H:Za}{p r:List Lt}{x:Lt}{done:List (Stp×Lt)}(hN:83<N)
  (h5:lkv tm 5= .fn (.func 84) [.iptr [.ptr l bx 0],.ptr n 3 0]) (h2:lkv tm 2= .iptr [.ptr l bx 0]) (h3:lkv tm 3= .ptr n 3 0):
  AWk n N ⟨tm,[(3,.box [.sub 13 n 200 (p++x::r).length 0 (p++r).length]),(200,.Zg 54 13 (flat (Zal p r)) (p++x::r).length)],plH H l bx mk q sp nw done S⟩ (Zle n l bx mk q sp nw H S (p++r) done):=by
 have:=YU (n:=n) (N:=N) (tm:=tm) (tm':=(Zle n l bx mk q sp nw H S (p++r) done).tmps) (L:=[(3,.box [.sub 13 n 200 (p++x::r).length 0 (p++r).length]),(200,.Zg 54 13 (flat (Zal p r)) (p++x::r).length)]) (H:=plH H l bx mk q sp nw done S)
  (j0:=3) (j:=200) (i:=0) (e:=54) (sz:=13) (k:=(p++x::r).length) (av':=.sl 13 ((p++r).map Lt.enc) .any) (cs0:=[.sub 13 n 200 (p++x::r).length 0 (p++r).length]) 83 hN (Zal p r) dc rfl rfl (.inr ⟨0,(p++r).length,rfl,?_⟩) rfl rfl ?_ (Zpb p r) ?_ ?_ ?_
 ·exact this
 ·rw[GZ,Zal,Gf sm]
 ·simp[Zal]
 ·intro c hc;exact((Ze.Zhu (n:=n) (m:=0) p r).1 c hc).inside
 ·intro t ht;simp only[Zle,Qk,QD,or_false]at ht;rcases ht with rfl|rfl|rfl
  ·exact⟨show 5≠83 by decide,by rw[h5];exact .refl _,by rw[h5];exact Za4 hl dc⟩
  ·exact⟨show 2≠83 by decide,by rw[h2];exact .refl _,by rw[h2];exact Ze8 hl⟩
  ·exact⟨show 3≠83 by decide,by rw[h3];exact .refl _,by rw[h3];exact .ptr _ _ _ (.inr ⟨rfl,dc⟩)⟩
 ·intro t ht;simp only[setb,delb,if_true,Qk,QD,or_false]at ht;simp at ht;subst ht;exact Ze.Zx ⟨.dead,trivial⟩
def ZpX{mk q:Nat}{φ:Fm}{N:Nat}(hl:l<n)(h0:0<l)(hd:mk≠q∧mk≠bx∧q≠bx){sp nw:AV}{H:Za}(hT:Tabs H){p r:List Lt}{x:Lt}(hx:Sm x){done:List (Stp×Lt)}(hlen:(p++x::r).length≤1000000)
  {o:Oper} {g:Operand} {args:List Operand} {ts:List TypeId} {F:Zb→Prop} (hg:evT tm g= .fn (.func 84) [.iptr [.ptr l bx 0],.ptr n 3 0]) (ha:Yo tt (evT tm) args ts=[.int .i64 p.length])
  (h:F ⟨Yl tm o.dst (.tup []),[(3,.box [.sub 13 n 200 (p++x::r).length 0 (p++r).length]),(200,.Zg 54 13 (flat (Zal p r)) (p++x::r).length)],plH H l bx mk q sp nw done (ZM S (ZE x))⟩):
  Vd ⟨prog,tt,φ,n,N⟩ false o g args ts ⟨tm,[(3,.box [.sl 13 ((p++x::r).map Lt.enc) .any])],plH H l bx mk q sp nw done S⟩ F:=by
 have hne:¬l=n:=om;have hT2:Tabs (full n [(3,.box [.sl 13 ((p++x::r).map Lt.enc) .any])] (plH H l bx mk q sp nw done S)):=hT.up fun k=>by
  rw[Zi om];unfold plH Za.upd;simp only[show¬(0:Nat)=l by omega,false_and,if_false]
 have hc:=k84 (n+1) _ hT2 l bx mk n 3 200 hl om h0 dc sp nw (.msl 1 l q done.length) (by rw[Zi hl];simp[plH,Za.upd]) S (by rw[Zi hl];simp[plH,Za.upd,hd.1,hd.2.1]) p r x hx hlen (by simp[full,lkb]) (by simp[full,lkb]);refine YV (caps:=[.iptr [.ptr l bx 0],.ptr n 3 0]) (avs:=[.int .i64 p.length]) hg (Zf func84 rfl rfl) hc ha ?_;rintro _ H1 ⟨rfl,rfl⟩;refine⟨[(3,.box [.sub 13 n 200 (p++x::r).length 0 (p++r).length]),(200,.Zg 54 13 (flat (Zal p r)) (p++x::r).length)],(plH H l bx mk q sp nw done S).upd l mk (.map (encS (ZM S (ZE x)))),?_,.upd (WE _),?_⟩
 ·rw[←Yk n _ _ _ _ _ hne,←Zn,←Zn];rfl
 ·show F ⟨_,_,(plH H l bx mk q sp nw done S).upd l mk _⟩;rw[ZqA H l bx mk q hd];exact h
def plO:Opt:=⟨true,true,fun d=>if d=37∨d=38∨d=66∨d=67 then .pure else if d=44∨d=73 then .heap else .auto,[]⟩
theorem k42(n:Nat)(H:Za)(hT:Tabs H)(l bx mk q:Nat)(h0:0<l)(hl:l<n)(hd:mk≠q∧mk≠bx∧q≠bx)(sp nw:AV)(S:List Str)(ls:List Lt)(hs:∀x∈ls,Sm x)(hlen:ls.length≤1000000)(hsp:Below n sp∧Below n nw)
  (hbx:H l bx=some (.box [.map l mk,sp,nw,.msl 1 l q 0])) (hq:H l q=some (.Zg 84 1 [] 0)) (hm:H l mk=some (.map (encS S))):
  Zh prog n 42 [.ptr l bx 0,.sl 13 (ls.map Lt.enc) .any] H fun r H'=>r= .bool ((plG ls.length S ls).2.2.all (XW (plG ls.length S ls).2.1))∧H'=plH H l bx mk q sp nw (plG ls.length S ls).1 (plG ls.length S ls).2.1:=by
 have hne:¬l=n:=om;have hn:0<n:=om;obtain⟨D,hD⟩:∃D,D=(plG ls.length S ls).1:=⟨_,rfl⟩
 obtain⟨E,hE⟩:∃E,E=(plG ls.length S ls).2:=⟨_,rfl⟩
 have hH0:plH H l bx mk q sp nw [] S=H:=by
  unfold plH;rw[Yb hm];exact(congrArg (fun G:Za=>G.upd l bx _) (Yb hq)).trans (Yb hbx)
 rw[←hD,←hE];refine aF func42 fun B=>?_
 refine gh ?_;refine Z5 2 [.ptr l bx 0] [(2,.iptr [.ptr l bx 0]),(3,.ptr n 3 0)] rfl ⟨.ptr _ _ _ (.inl hl),trivial⟩ ?_ ⟨Ze.Zx ⟨(Yi ls).inside,trivial⟩,trivial⟩ ?_
 ·exact⟨.inr ⟨0,rfl,rfl⟩,.inl ⟨.refl _,.ptr _ _ _ (.inr ⟨rfl,dc⟩)⟩,trivial⟩
 refine aS ?_;refine Zk2 (rest0:=(ZR Tryz.f42).snd.fst.snd.snd) 0 (I42 n l bx mk q sp nw H D E) ls.length (Zle n l bx mk q sp nw H S ls []) rfl rfl (fun _ _ h=>ZbF rfl (Zes rfl h)) ?_ ⟨S,ls,[],rfl,rfl,hs,hD.symm,hE.symm,by simpa using hlen⟩ ?_
 ·intro Q' h;rw[Zle,hH0]at h;refine gh ?_;refine Zru rfl ?_;refine ZK ?_ h;exact KK
 rintro m _ ⟨S,ls,done,rfl,rfl,hs,hD,hE,hlen⟩;unfold Zle;obtain⟨G,hG⟩:∃G,G=plH H l bx mk q sp nw done S:=⟨_,rfl⟩
 have hGb:G l bx=some (.box [.map l mk,sp,nw,.msl 1 l q done.length]):=by rw[hG];simp[plH,Za.upd]
 have hGq:G l q=some (.Zg 84 1 (done.map (fnV l bx)) done.length):=by rw[hG];simp[plH,Za.upd,hd.2.2]
 rw[←hG];refine gh ?_;refine ZX (fun i=>⟨[(17,.int .i64 i),(16,.int .i64 ls.length),(15,.sl 13 (ls.map Lt.enc) .any),(5,.fn (.func 84) [.iptr [.ptr l bx 0],.ptr n 3 0]),(2,.iptr [.ptr l bx 0]),(3,.ptr n 3 0)],[(3,.box [.sl 13 (ls.map Lt.enc) .any])],G⟩)
  (fun i=>∀j (h:j<ls.length),j<i→YZ S ls[j]=none) ls.length rfl ?_ (fun j _ h=>absurd h (Qm _)) ?_
 ·exact KK
 intro i hi hr;refine Yc rfl ?_;rcases Qj i ls.length with h|h
 ·obtain⟨x,hx⟩:∃x,x=ls[i]:=⟨_,rfl⟩
  have hxs:=hs _ (Qa h);rw[←hx]at hxs;refine nq h ?_;refine gH ?_;simp only[go_sem,simprocAttr,Lt.Zp _ _ h,h,←hx];refine nR ?_;by_cases k2:x.kind=2
  ·refine nFq k2 ?_;refine nR ?_;refine cQ (j87 (n+1) _ l bx l mk om om sp nw (.msl 1 l q done.length) ?_ S ?_ x hxs) ?_
   ·rw[Zi hl,hG];simp[plH,Za.upd]
   ·rw[Zi hl,hG];simp[plH,Za.upd,hd.1,hd.2.1]
   have hrd:=Zox S x k2;generalize ZaD S x=rd at hrd⊢;obtain⟨sn,tn,b⟩:=rd;refine aS ?_;cases b with
   |false=>
    have hno:YZ S x=none:=by rw[hrd];rfl
    refine nR ?_;refine gm ?_;refine⟨fun j hj hji=>?_,?_⟩
    ·rcases Qj j i with h'|h'
     ·exact hr j hj h'
     ·have:j=i:=om;subst this;rw[←hx];exact hno
    ·apply kZ;repeat' first|apply q0|exact xx|apply aI
     ·refine aS ?_;rw[iw];exact .refl _
     all_goals first|exact Ze8 hl|exact(Yi ls).inside|exact Za4 hl rfl
   |true=>
    refine nR ?_;refine nT ?_;have hrs:YZ S x=some (if sn=[]then .test x else .bind sn tn):=by rw[hrd];rfl
    refine Z5 7 x.cs [(7,.iptr x.cs),(8,.ptr n 8 0),(9,.ptr n 9 0),(6,.int .i64 i),(5,.fn (.func 84) [.iptr [.ptr l bx 0],.ptr n 3 0]),(2,.iptr [.ptr l bx 0]),(3,.ptr n 3 0)] rfl (ZY fun c hc=>(x.bcs.mem c hc).inside) ?_ ?_ ?_
    ·exact⟨.inr ⟨0,rfl,rfl⟩,.inl ⟨.refl _,.ptr _ _ _ (.inr ⟨rfl,dc⟩)⟩,.inl ⟨.refl _,.ptr _ _ _ (.inr ⟨rfl,dc⟩)⟩,.inl ⟨.refl _,.int _ _⟩,.inl ⟨.refl _,Za4 hl dc⟩,.inl ⟨.refl _,Ze8 hl⟩,.inl ⟨.refl _,.ptr _ _ _ (.inr ⟨rfl,dc⟩)⟩,trivial⟩
    ·exact⟨Ze.Zx ⟨(Yi ls).inside,trivial⟩,Ze.Zx ⟨.str _,trivial⟩,Ze.Zx (ZY fun c hc=>(tn.bcs.mem c hc).inside),trivial⟩
    refine aS ?_;refine Z5 8 [.str sn] [(8,.iptr [.str sn]),(7,.iptr x.cs),(9,.ptr n 9 0),(6,.int .i64 i),(5,.fn (.func 84) [.iptr [.ptr l bx 0],.ptr n 3 0]),(2,.iptr [.ptr l bx 0]),(3,.ptr n 3 0)] rfl ⟨.str _,trivial⟩ ?_ ?_ ?_
    ·exact⟨.inr ⟨0,rfl,rfl⟩,.inl ⟨.refl _,(Zl x.bcs).inside⟩,.inl ⟨.refl _,.ptr _ _ _ (.inr ⟨rfl,dc⟩)⟩,.inl ⟨.refl _,.int _ _⟩,.inl ⟨.refl _,Za4 hl dc⟩,.inl ⟨.refl _,Ze8 hl⟩,.inl ⟨.refl _,.ptr _ _ _ (.inr ⟨rfl,dc⟩)⟩,trivial⟩
    ·exact⟨Ze.Zx ⟨(Yi ls).inside,trivial⟩,Ze.Zx (ZY fun c hc=>(tn.bcs.mem c hc).inside),trivial⟩
    refine aS ?_;refine Z5 9 tn.cs [(9,.iptr tn.cs),(8,.iptr [.str sn]),(7,.iptr x.cs),(6,.int .i64 i),(5,.fn (.func 84) [.iptr [.ptr l bx 0],.ptr n 3 0]),(2,.iptr [.ptr l bx 0]),(3,.ptr n 3 0)] rfl (ZY fun c hc=>(tn.bcs.mem c hc).inside) ?_ ?_ ?_
    ·exact⟨.inr ⟨0,rfl,rfl⟩,.inl ⟨.refl _,(Zl (cs:=[.str sn]) ⟨.str _,trivial⟩).inside⟩,.inl ⟨.refl _,(Zl x.bcs).inside⟩,.inl ⟨.refl _,.int _ _⟩,.inl ⟨.refl _,Za4 hl dc⟩,.inl ⟨.refl _,Ze8 hl⟩,.inl ⟨.refl _,.ptr _ _ _ (.inr ⟨rfl,dc⟩)⟩,trivial⟩
    ·exact⟨Ze.Zx ⟨(Yi ls).inside,trivial⟩,trivial⟩
    refine gc ?_;refine V5 ⟨[(11,fnV l bx (if sn=[]then .test x else .bind sn tn,x)),(6,.int .i64 i),(5,.fn (.func 84) [.iptr [.ptr l bx 0],.ptr n 3 0]),(2,.iptr [.ptr l bx 0]),(3,.ptr n 3 0)],[(3,.box [.sl 13 (ls.map Lt.enc) .any])],G⟩ ?_ ?_
    ·by_cases hsn:sn=[]
     ·rw[if_pos hsn];have hsb:(!sn==[])=false:=by simp[hsn]
      refine nFq hsb ?_;refine nN ?_;refine⟨rfl,?_⟩;apply kZ;repeat' first|apply q0|exact xx|apply aI
      all_goals first|exact Ze8 hl|exact(Yi ls).inside|exact Za4 hl rfl|exact(Zce l bx hl (Stp.test x,x)).inside|exact(Zce l bx hl (Stp.bind sn tn,x)).inside
     ·rw[if_neg hsn];have hsb:(!sn==[])=true:=by simp[hsn]
      refine nTq hsb ?_;refine gd ?_;refine⟨rfl,?_⟩;apply kZ;repeat' first|apply q0|exact xx|apply aI
      all_goals first|exact Ze8 hl|exact(Yi ls).inside|exact Za4 hl rfl|exact(Zce l bx hl (Stp.test x,x)).inside|exact(Zce l bx hl (Stp.bind sn tn,x)).inside
    generalize (if sn=[]then Stp.test x else .bind sn tn)=s at hrs⊢;have hpl:=ZnS i h hr (hx▸hrs);refine nD plO ?_;obtain⟨G1,hG1⟩:∃G1,G1=G.upd l q (.Zg 84 1 (done.map (fnV l bx)++[fnV l bx (s,x)]) (done.length+1)):=⟨_,rfl⟩
    have hGb1:G1 l bx=some (.box [.map l mk,sp,nw,.msl 1 l q done.length]):=by rw[hG1];simp only[Za.upd,hd.2.2.symm,and_false,if_false];exact hGb
    have hfl:flat [fnV l bx (s,x)]=[fnV l bx (s,x)]:=by simp[flat,ZbR]
    have hdl:done.length+1≤1000000:=om;simp only[go_sem,simprocAttr,plO,hne,hGb,hGq,ZbR,ZmX,hfl,←hG1,hGb1];have e2:done.map (fnV l bx)++[fnV l bx (s,x)]=(done++[(s,x)]).map (fnV l bx):=sm;refine⟨rfl,⟨Zm om,om⟩,.inr (e2▸ZhO hl _),.inr (Ze.Zz ⟨.map _ _ hl,hsp.1,hsp.2,.msl _ _ _ _ hl,trivial⟩),?_⟩;rw[hG1,hG,Zng H l bx mk q hd];obtain⟨p,r,hls,hpi⟩:∃p r,ls=p++x::r∧p.length=i:=⟨ls.take i,ls.drop (i+1),by rw[hx];simp,by simp;omega⟩
    have hpr:ls.take i++ls.drop (i+1)=p++r:=by rw[hls,←hpi];simp
    rw[←hx,hpr]at hpl;subst hls hpi;refine nR ?_;refine ZpX hl h0 hd hT hxs om rfl sS ?_;refine gM ?_;have hst:=ZjZ hpl (f:=(p++r).length) (by simp;omega);refine ZoW rfl (ZdH ⟨rfl,_,_,?_,ZtE hl hd dc sS sS sS,⟨_,_,_,rfl,rfl,?_,?_,?_,?_⟩⟩ _)
    ·simp
    ·exact fun y hy=>hs y (by rcases Qg.1 hy with h|h;all_goals simp[h])
    ·rw[←hD,hst];simp
    ·rw[←hE,hst]
    ·simp at hlen⊢;omega
  ·have k2':(x.kind !=2)=true:=by simp[k2]
   have hno:YZ S x=none:=by unfold YZ;rw[if_neg k2]
   refine nTq k2' ?_;refine Zlm rfl rfl rfl ?_;refine gd ?_;refine⟨fun j hj hji=>?_,?_⟩
   ·rcases Qj j i with h'|h'
    ·exact hr j hj h'
    ·have:j=i:=om;subst this;rw[←hx];exact hno
   ·apply kZ;repeat' first|apply q0|exact xx|apply aI
    ·refine aS ?_;rw[iw];exact .refl _
    all_goals first|exact Ze8 hl|exact(Yi ls).inside|exact Za4 hl rfl
 ·have hi':i=ls.length:=om;subst hi';have hr0:∀j (h:j<ls.length),YZ S ls[j]=none:=fun j h=>hr j h h
  refine nq (QI.2 h) ?_;refine gg ?_;refine gh ?_;refine ZX (fun i=>⟨[(53,.int .i64 i),(52,.int .i64 ls.length),(51,.sl 13 (ls.map Lt.enc) .any),(5,.fn (.func 84) [.iptr [.ptr l bx 0],.ptr n 3 0]),(2,.iptr [.ptr l bx 0]),(3,.ptr n 3 0)],[(3,.box [.sl 13 (ls.map Lt.enc) .any])],G⟩)
   (fun i=>∀j (h:j<ls.length),j<i→JE ls[j]=none) ls.length rfl ?_ (fun j _ h=>absurd h (Qm _)) ?_
  ·exact KK
  intro i hi ha;refine Yc rfl ?_;rcases Qj i ls.length with h|h
  ·obtain⟨x,hx⟩:∃x,x=ls[i]:=⟨_,rfl⟩
   have hxs:=hs _ (Qa h);rw[←hx]at hxs;refine nq h ?_;refine gH ?_;simp only[go_sem,simprocAttr,Lt.Zp _ _ h,h,←hx];by_cases k1:x.kind=1∧x.neg=false
   ·have e1:(x.kind==1)=true:=by simp[k1.1]
    have has:JE x=some (.atom x.at_):=by unfold JE;rw[if_pos k1]
    have e2:(!x.neg)=true:=by simp[k1.2]
    refine nq2 e1 e2 ?_;refine nT ?_;refine Z5 13 x.cs [(13,.iptr x.cs),(12,.int .i64 i),(5,.fn (.func 84) [.iptr [.ptr l bx 0],.ptr n 3 0]),(2,.iptr [.ptr l bx 0]),(3,.ptr n 3 0)] rfl (ZY fun c hc=>(x.bcs.mem c hc).inside) ?_ ?_ ?_
    ·exact⟨.inr ⟨0,rfl,rfl⟩,.inl ⟨.refl _,.int _ _⟩,.inl ⟨.refl _,Za4 hl dc⟩,.inl ⟨.refl _,Ze8 hl⟩,.inl ⟨.refl _,.ptr _ _ _ (.inr ⟨rfl,dc⟩)⟩,trivial⟩
    ·exact⟨Ze.Zx ⟨(Yi ls).inside,trivial⟩,trivial⟩
    refine aS ?_;obtain⟨G1,hG1⟩:∃G1,G1=G.upd l q (.Zg 84 1 (done.map (fnV l bx)++[fnV l bx (.atom x.at_,x)]) (done.length+1)):=⟨_,rfl⟩
    have hGb1:G1 l bx=some (.box [.map l mk,sp,nw,.msl 1 l q done.length]):=by rw[hG1];simp only[Za.upd,hd.2.2.symm,and_false,if_false];exact hGb
    have hfv:AV.fn (.func 92) [.iptr [.ptr l bx 0],.iptr x.cs]=fnV l bx (.atom x.at_,x):=rfl;simp only[Lt.cs]at hfv;have hfl:flat [fnV l bx (.atom x.at_,x)]=[fnV l bx (.atom x.at_,x)]:=by simp[flat,ZbR]
    have hdl:done.length+1≤1000000:=om;have hpl:=Zl3 i h hr0 ha (hx▸has);refine nD plO ?_;simp only[go_sem,simprocAttr,plO,hne,hGb,hGq,hfv,ZbR,ZmX,hfl,←hG1,hGb1];have e2:done.map (fnV l bx)++[fnV l bx (.atom x.at_,x)]=(done++[(Stp.atom x.at_,x)]).map (fnV l bx):=sm;refine⟨rfl,⟨Zm om,om⟩,.inr (e2▸ZhO hl _),.inr (Ze.Zz ⟨.map _ _ hl,hsp.1,hsp.2,.msl _ _ _ _ hl,trivial⟩),?_⟩;rw[hG1,hG,Zng H l bx mk q hd];obtain⟨p,r,hls,hpi⟩:∃p r,ls=p++x::r∧p.length=i:=⟨ls.take i,ls.drop (i+1),by rw[hx];simp,by simp;omega⟩
    have hpr:ls.take i++ls.drop (i+1)=p++r:=by rw[hls,←hpi];simp
    rw[←hx,hpr]at hpl;subst hls hpi;refine nR ?_;refine ZpX hl h0 hd hT hxs om rfl sS ?_;refine gM ?_;have hst:=ZjZ hpl (f:=(p++r).length) (by simp;omega);refine ZoW rfl (ZdH ⟨rfl,_,_,?_,ZtE hl hd dc sS sS sS,⟨_,_,_,rfl,rfl,?_,?_,?_,?_⟩⟩ _)
    ·simp
    ·exact fun y hy=>hs y (by rcases Qg.1 hy with h|h;all_goals simp[h])
    ·rw[←hD,hst];simp
    ·rw[←hE,hst]
    ·simp at hlen⊢;omega
   ·have hno:JE x=none:=by unfold JE;rw[if_neg k1]
    have e1:((x.kind==1)&& !x.neg)=false:=by
     cases h1:(x.kind==1)with
     |false=>rfl
     |true=>
      cases h2:x.neg with
      |false=>exact absurd ⟨by simpa using h1,h2⟩ k1
      |true=>rfl
    cases h1:(x.kind==1)with
    |false=>
     refine nq h1 ?_;refine gm ?_;refine⟨fun j hj hji=>?_,?_⟩
     ·rcases Qj j i with h'|h'
      ·exact ha j hj h'
      ·have:j=i:=om;subst this;rw[←hx];exact hno
     ·apply kZ;repeat' first|apply q0|exact xx|apply aI
      ·refine aS ?_;rw[iw];exact .refl _
      all_goals first|exact Ze8 hl|exact(Yi ls).inside|exact Za4 hl rfl
    |true=>
     rw[h1,UZ]at e1;refine nq2 h1 e1 ?_;refine gm ?_;refine⟨fun j hj hji=>?_,?_⟩
     ·rcases Qj j i with h'|h'
      ·exact ha j hj h'
      ·have:j=i:=om;subst this;rw[←hx];exact hno
     ·apply kZ;repeat' first|apply q0|exact xx|apply aI
      ·refine aS ?_;rw[iw];exact .refl _
      all_goals first|exact Ze8 hl|exact(Yi ls).inside|exact Za4 hl rfl
  ·have hi':i=ls.length:=om;subst hi';have ha0:∀j (h:j<ls.length),JE ls[j]=none:=fun j h=>ha j h h
   have hpl:=Zq2 (ZoQ hr0 ha0);refine nq (QI.2 h) ?_;refine gG ?_;refine YV (caps:=[]) (avs:=[.sl 13 (ls.map Lt.enc) .any,.fn (.func 94) [.iptr [.ptr l bx 0]]]) rfl (Zf func78 rfl rfl) (h78 ls om 94 [.iptr [.ptr l bx 0]] (fun x=>!XW S x) (n+1) _ ⟨⟨_,_,Zf func94 rfl rfl⟩,fun x hx m G2 hm hG2=>?_,fun m hm=>⟨Zl (cs:=[.ptr l bx 0]) ⟨.ptr _ _ _ om,trivial⟩,trivial⟩⟩) sS ?_
   ·exact k94 m G2 (hT.up fun k=>by
     rw[hG2 0 k om,Zi hn,hG];unfold plH Za.upd;simp only[show¬(0:Nat)=l by omega,false_and,if_false]) om l bx mk om sp nw (.msl 1 l q done.length) (by rw[hG2 _ _ om,Zi hl];exact hGb) S (by rw[hG2 _ _ om,Zi hl,hG];simp[plH,Za.upd,hd.1,hd.2.1]) x (hs x hx)
   rintro r H1 ⟨rfl,rfl⟩;refine⟨_,_,rfl,.refl _ _,?_⟩;refine gw ?_;rw[hpl,Qs]at hD;rw[hpl]at hE;subst hD hE;have hany:(!ls.any fun x=>!XW S x)=ls.all (XW S):=by
    rw[UW];simp
   show PostF prog tt n [.tmp 4] (fun r H'=>r=AV.bool (ls.all (XW S))∧H'=plH H l bx mk q sp nw done S) .ret _;refine Zk (v:=.bool (ls.all (XW S))) ?_ (.bool _) ?_
   ·refine aq hany ?_;exact .refl _
   ·exact⟨rfl,hG⟩
end
def okB(pr:Option Str)(p:Str×Tm):Bool:=(match pr with
 |none=>true
 |some s=>decide (Lib.compareBytes s p.1<0))&&Zr p.2
def vB:Option Str→Bnd→Bool
 |_,[]=>true
 |pr,p::r=>okB pr p&&vB (some p.1) r
def Zmr(s:Str)(v:Tm):∀r:Bnd,(Zr v&&vB (some s) r)=validB ((s,v)::r)
 |[]=>by simp[vB,validB]
 |p::r=>by
  have:=Zmr p.1 p.2 r;simp only[vB,okB,validB]at this⊢;rw[←this];cases Zr v<;>cases Zr p.2<;>simp
theorem vB_none:∀b:Bnd,vB none b=validB b
 |[]=>rfl
 |p::r=>by
  have:=Zmr p.1 p.2 r;rw[←this];simp[vB,okB]
def ZrS(x y:Str):(Op.bytesLess x y||x==y)= !decide (Lib.compareBytes y x<0):=by
 have h1:=Zno x y;have h2:Lib.compareBytes y x= -Lib.compareBytes x y:=by rw[ZgK,ZgK,lexI_anti]
 rw[h2,←h1];cases Op.bytesLess x y with
 |true=>simp
 |false=>
  cases hxy:x==y with
  |true=>simp
  |false=>simp
def Zl4(b:Bnd)(i:Nat):Option Str:=if i=0 then none else(b[i - 1]?).map Prod.fst
def Zva(b:Bnd)(H:Za)(i:Nat):Zb:=⟨[(7,.int .i64 i),(6,.int .i64 b.length),(5,.sl 5 (b.map eBd) .any),(0,.sl 5 (b.map eBd) .any)],[],H⟩
def k39(b:Bnd)(hb:b.length≤1000000)(gb:∀x∈b,x.2.Good):Z4 prog 39 [.sl 5 (b.map eBd) .any] (.bool (validB b)):=by
 intro n H hn hT;refine aF func39 fun B=>?_
 refine gk ?_;refine ZX (Zva b H) (fun i=>validB b=vB (Zl4 b i) (b.drop i)) b.length rfl ?_ (vB_none b).symm ?_
 ·exact KK
 intro i hi hc;refine Yc rfl ?_;rcases Qj i b.length with h|h
 ·rw[Qz h,vB]at hc;refine nq h ?_;refine nT ?_;refine nq2 (getD_map eBd _ _ h) h ?_;have hv:=a37 b[i].2 (gb _ (Qa h));have hps:∀i (h:i<b.length),Zl4 b (i+1)=some b[i].1:=fun i h=>by simp[Zl4,Qb h]
  cases i with
  |zero=>
   have hk:okB (Zl4 b 0) b[0]=Zr b[0].2:=by simp[okB,Zl4]
   rw[hk]at hc;have h00:decide (0<(0:Int))=false:=rfl;refine XJ tok mixed drawO rfl rfl rfl ?_;simp -implicitDefEqProofs (maxSteps:=1000000) only[go_sem,simprocAttr,h00,Int.natCast_zero];refine cT (hv) ?_;refine kK ?_;cases hvv:Zr b[0].2 with
   |false=>
    refine nTq hvv ?_;refine nR ?_;refine nW ?_;refine Zc ?_ (.bool _) rfl;rw[hc,hvv];exact .refl _
   |true=>
    refine nFq hvv ?_;refine gd ?_;refine⟨by rw[hc,hvv,hps 0 h,UZ],?_⟩;exact KK
  |succ i=>
   have h':i<b.length:=om;have hk:okB (Zl4 b (i+1)) b[i+1]=(decide (Lib.compareBytes b[i].1 b[i+1].1<0)&&Zr b[i+1].2):=by simp[okB,Zl4,Qb h']
   rw[hk]at hc;have hgt:decide (0<((i+1:Nat):Int))=true:=sm;have hw:IntKind.i64.wrap (((i+1:Nat):Int) - 1)=(i:Int):=by rw[show((i+1:Nat):Int) - 1=(i:Int) by omega];exact iw
   cases hlt:decide (Lib.compareBytes b[i].1 b[i+1].1<0)with
   |false=>
    rw[hlt,G6,G6]at hc;refine XJ tok mixed drawO rfl rfl rfl ?_;simp -implicitDefEqProofs (maxSteps:=1000000) only[go_sem,simprocAttr,hgt,hw,getD_map eBd _ _ h',h',ZrS,hlt];refine kK ?_;refine nTq hlt ?_;refine nR ?_;refine nW ?_;refine Zc ?_ (.bool _) rfl;rw[hc];exact .refl _
   |true=>
    rw[hlt,UZ]at hc;refine XJ tok mixed drawO rfl rfl rfl ?_;simp -implicitDefEqProofs (maxSteps:=1000000) only[go_sem,simprocAttr,hgt,hw,getD_map eBd _ _ h',h',ZrS,hlt];refine cT (hv) ?_;refine kK ?_;cases hvv:Zr b[i+1].2 with
    |false=>
     refine nTq hvv ?_;refine nR ?_;refine nW ?_;refine Zc ?_ (.bool _) rfl;rw[hc,hvv];exact .refl _
    |true=>
     refine nFq hvv ?_;refine gd ?_;refine⟨by rw[hc,hvv,hps (i+1) h,UZ],?_⟩;exact KK
 ·refine nq (QI.2 h) ?_;refine gt ?_;refine Zc ?_ (.bool _) rfl;rw[hc,Us h];exact .refl _
theorem Zmm{α:Type}(p:α→Bool)(l:List α):(l.any fun t=>!p t)= !l.all p:=by
 induction l with
 |nil=>rfl
 |cons x r ih=>simp only[QbB,Qbd,ih,Bool.not_and]
def j79(x:Lt)(hx:x.Good):Z4 prog 79 [x.enc,.iptr [.fn (.func 76) []]] (.bool (!Y5 x)):=by
 intro n H hn hT;have hs:=hx.at_.pred;have hbad:ZeU 76 [] Tm.enc x.at_.args (fun t=>!Zae t):=⟨⟨_,_,Zf func76 rfl rfl⟩,fun t ht=>j76 t (hx.at_.arg ht),fun _=>trivial⟩
 refine aF func79 fun B=>?_
 refine gk ?_;by_cases k1:x.kind=1
 ·have e1:(x.kind==1)=true:=by simp[k1]
  refine nq e1 ?_;refine gi ?_;refine cP (a45 x.at_.pred om) ?_;cases h1:sym x.at_.pred with
  |false=>
   refine aS ?_;refine YB rfl rfl ?_;refine Zc ?_ (.bool _) rfl;try simp only[go_sem,simprocAttr,Y5,k1,h1]
   exact .refl _
  |true=>
   cases h2:decide ((8:Int)<(x.at_.args.length:Int))with
   |true=>
    have e2:decide (x.at_.args.length≤8)=false:=by simp at h2⊢;omega
    refine aq h2 ?_;refine YB rfl rfl ?_;refine Zc ?_ (.bool _) rfl;try simp only[go_sem,simprocAttr,Y5,k1,h1,e2]
    exact .refl _
   |false=>
    have e2:decide (x.at_.args.length≤8)=true:=by simp at h2⊢;omega
    refine aq h2 ?_;refine cT (a46 x.at_.args hx.at_.len _ [] _ hbad) ?_;refine nV ?_;refine Zc ?_ (.bool _) rfl;simp only[go_sem,simprocAttr,Y5,k1,h1,e2,Zmm];exact .refl _
 ·have e1:(x.kind==1)=false:=by simp[k1]
  refine nq e1 ?_;refine nF ?_;by_cases k2:x.kind=2
  ·have e2:(x.kind==2)=true:=by simp[k2]
   refine nq e2 ?_;refine gi ?_;cases h1:x.neg with
   |true=>
    refine aq h1 ?_;refine YB rfl rfl ?_;refine Zc ?_ (.bool _) rfl;try simp only[go_sem,simprocAttr,Y5,k1,k2,h1]
    exact .refl _
   |false=>
    cases h2:decide (x.op<1)with
    |true=>
     have e3:decide (1≤x.op)=false:=by simp at h2⊢;omega
     refine aq2 h1 h2 ?_;refine YB rfl rfl ?_;refine Zc ?_ (.bool _) rfl;try simp only[go_sem,simprocAttr,Y5,k1,k2,h1,e3]
     exact .refl _
    |false=>
     have e3:decide (1≤x.op)=true:=by simp at h2⊢;omega
     cases h3:decide (6<x.op)with
     |true=>
      have e4:decide (x.op≤6)=false:=by simp at h3⊢;omega
      simp only[go_sem,simprocAttr,h1,h2,h3];refine YB rfl rfl ?_;refine Zc ?_ (.bool _) rfl;try simp only[go_sem,simprocAttr,Y5,k1,k2,h1,e3,e4]
      exact .refl _
     |false=>
      have e4:decide (x.op≤6)=true:=by simp at h3⊢;omega
      simp only[go_sem,simprocAttr,h1,h2,h3];refine YG (avs:=[x.L.enc]) rfl (Zf func76 rfl rfl) (j76 x.L hx.L _ _ (QT _) (hT.full hn)) rfl ?_;cases h4:Zae x.L with
      |false=>
       refine aS ?_;refine YB rfl rfl ?_;refine Zc ?_ (.bool _) rfl;try simp only[go_sem,simprocAttr,Y5,k1,k2,h1,e3,e4,h4]
       exact .refl _
      |true=>
       refine aS ?_;refine YG (avs:=[x.R.enc]) rfl (Zf func76 rfl rfl) (j76 x.R hx.R _ _ (QT _) (hT.full hn)) rfl ?_;refine aS ?_;refine YB rfl rfl ?_;refine Zc ?_ (.bool _) rfl;try simp only[go_sem,simprocAttr,Y5,k1,k2,h1,e3,e4,h4]
       exact .refl _
  ·have e2:(x.kind==2)=false:=by simp[k2]
   refine nq e2 ?_;refine gv ?_;refine YB rfl rfl ?_;refine Zc ?_ (.bool _) rfl;try simp only[go_sem,simprocAttr,Y5,k1,k2]
   exact .refl _
def j38(l:List Lt)(hl:l.length≤1000000)(hg:∀x∈l,x.Good):Z4 prog 38 [.sl 13 (l.map Lt.enc) .any] (.bool (l.all Y5)):=by
 intro n H hn hT;refine aF func38 fun B=>?_
 refine gk ?_;refine Z5 3 [.fn (.func 76) []] [(2,.bool false),(3,.iptr [.fn (.func 76) []]),(0,.sl 13 (l.map Lt.enc) .any)] rfl ?_ ?_ trivial ?_
 ·exact⟨(ZaJ (caps:=[]) trivial).inside,trivial⟩
 ·exact⟨.inl ⟨.refl _,.bool _⟩,.inr ⟨0,rfl,rfl⟩,.inl ⟨.refl _,(Yi l).inside⟩,trivial⟩
 refine nR ?_;refine cT (j78 l hl 79 [.iptr [.fn (.func 76) []]] (fun x=>!Y5 x) ⟨⟨_,_,Zf func79 rfl rfl⟩,fun x hx=>j79 x (hg x hx),fun n=>⟨Zl ⟨ZaJ (caps:=[]) trivial,trivial⟩,trivial⟩⟩) ?_;refine nV ?_;refine Zc ?_ (.bool _) rfl;simp only[go_sem,simprocAttr,Zmm,Bool.not_not];exact .refl _
structure Zt6 (n:Nat) (H:Za) (f:Nat) (caps:List AV) (l:List Bnd) (g:Bnd→Bnd):Prop where
 fn:∃fn c,Fun prog f fn c
 on:∀x∈l,∀m G,n≤m→(∀l' k,l'<n→G l' k=H l' k)→PC prog m f (Zj x::caps) G (Zj (g x))
 below:∀m,n≤m→Yg (fun c=>Below m c) caps
def Ztl(l:List Bnd)(f:Nat)(caps:List AV)(g:Bnd→Bnd)(n:Nat)(H:Za)(i:Nat):Zb:=
 ⟨[(10,.int .i64 i),(9,.int .i64 l.length),(8,.sl 1 (l.map Zj) .any),(5,.msl 1 n 200 i),(1,.fn (.func f) caps)],[(200,.Zg 34 1 (((l.take i).map g).map Zj) i)],H⟩
def Zp9(v:AV)(h:v.cells=[v]):flat [v]=[v]:=by simp[flat,h]
def k43(n:Nat)(H:Za)(l:List Bnd)(hl:l.length≤1000000)(f:Nat)(caps:List AV)(g:Bnd→Bnd)(hp:Zt6 n H f caps l g)(l2 k2:Nat)(hl2:l2<n)(hfr:H l2 k2=none):
  Zh prog n 43 [.sl 1 (l.map Zj) .any,.fn (.func f) caps] H fun r H'=>r= .msl 1 l2 k2 l.length∧H'=H.upd l2 k2 (.Zg 34 1 ((l.map g).map Zj) l.length):=by
 obtain⟨⟨fn,c,hf⟩,hp,hbl⟩:=hp;have hfi:∀q,Inside n q (.fn (.func f) caps):=fun q=>(Below.fn _ _ fun i hi=>(hbl n (Qe n)).mem _ (Qa hi)).inside
 have hbi:∀q,Inside n q (.sl 1 (l.map Zj) .any):=fun q=>(ZA l).inside
 have hmb:∀(q:Nat→Prop) (r:List Bnd) m,Ze.Inside n q (.Zg 34 1 (r.map Zj) m):=fun q r m=>⟨fun c hc=>by obtain⟨u,_,rfl⟩:=Qi.1 hc;exact(ZC n u).inside,by simp[Ze.at_]⟩
 have hmi:∀(q:Nat→Prop) (r:List Bnd),Yg (fun c=>Inside n q c) (r.map Zj):=fun q r=>ZY fun c hc=>by obtain⟨u,_,rfl⟩:=Qi.1 hc;exact(ZC n u).inside
 have hbb:∀(r:List Bnd) m,Ze.Below n (.Zg 34 1 (r.map Zj) m):=fun r m=>⟨fun c hc=>by obtain⟨u,_,rfl⟩:=Qi.1 hc;exact ZC n u,by simp[Ze.at_]⟩
 refine aF func43 fun B=>?_
 refine gz ?_;refine ZbX 5 200 34 1 rfl rfl ?_;refine Zt (Ztl l f caps g n H) l.length rfl ?_ ?_
 ·exact KK
 intro i hi;refine Yc rfl ?_;rcases Qj i l.length with h|h
 ·refine nq h ?_;refine nT ?_;refine nq2 (getD_map Zj _ _ h) h ?_;refine nR ?_;refine YG (avs:=[Zj l[i]]) rfl hf (hp l[i] (Qa h) (n+1) _ om fun l' k h=>Zi h _ _ _) rfl ?_;have hfl:flat [Zj (g l[i])]=[Zj (g l[i])]:=Zp9 _ rfl;have hta:((l.take i).map g).map Zj++[Zj (g l[i])]=((l.take (i+1)).map g).map Zj:=by rw[Qn h,QL,QL];rfl
  refine aq2 hfl hta ?_;refine⟨rfl,⟨Zm om,om⟩,?_⟩;refine gd ?_;apply kZ;repeat' first|apply q0|exact xx|apply aI
  ·refine aS ?_;rw[iw];exact .refl _
  all_goals first|exact hfi _|exact hbi _|exact hmb _ _ _|exact .msl _ _ _ _ (.inr ⟨rfl,rfl⟩)|exact hmi _ _
 ·refine nq (QI.2 h) ?_;refine gg ?_;have hi':i=l.length:=om;subst hi';refine nt0 ?_;refine Zby 200 l2 k2 _ [(4,.msl 1 l2 k2 l.length)] hl2 hfr rfl (hbb _ _) ⟨⟨.inr (.inr (.inr ⟨1,_,rfl⟩)),by simp[lkv,ren];exact .refl _⟩,trivial⟩ trivial ?_;refine nV ?_;exact Zk (.refl _) (.msl _ _ _ _ hl2) ⟨rfl,rfl⟩
section
variable {L:List (Nat×Ze)} {tm:List (Nat×AV)} {n:Nat}
def Zkl{N:Nat}{H:Za}{j0 i:Nat}{av av':AV}{cs:List AV}(hj0:lkb L j0=some (.box cs))(hi:cs[i]? =some av)(hw:Wk av av'):AWk n N ⟨tm,L,H⟩ ⟨tm,setb L j0 (.box (cs.set i av')),H⟩:=fun B E w a hs=>by
 have h:=hs.heap;obtain⟨b0,hm0,c,t,hc,hv⟩:=h.box n j0 cs (Qq n) (by simp only[full,if_true];exact hj0);obtain⟨hil,hie⟩:=Ub.1 hi;obtain⟨hh2,hx2⟩:=h.turn (w':=w) (.inl hm0) (.box (cs.set i av')) (fun hg=>absurd (h.m_g hm0) hg) rfl rfl rfl (fun _=>Qe _) rfl (fun _ _=>rfl) (fun o=>h.mF _ _ _ o hm0)
  ⟨b0,hm0,c,t,hc,by rw[Me];exact hv.1,fun i' g1 g2=>by
   rw[Gj];split
   ·rename_i e;subst e;have:=hv.2 i hil g2;rw[hie]at this;exact hw.vr this
   ·exact hv.2 i' (by simpa using g1) g2⟩
 rw[←Zn]at hh2;exact⟨E,⟨hs.size,hs.defs,hs.tmps,hh2,hs.out⟩,.refl _ _ _⟩
def Zpx{cx:Cx}(hP:cx.P=prog){o:Oper}{args:List Operand}{ts:List TypeId}{H:Za}{k:Nat}{S:List Str}{x:Str}{K:Zb→Prop}(hk:lkb L k=some (.map (encS S)))
  (ha:Yo cx.T (evT tm) args ts=[.map cx.n k,.sl 1 [.str x] .full]) (h:K ⟨Yl tm o.dst (.tup []),setb L k (.map (encS (ZM S [x]))),H⟩):Zex cx o (.func 40) args ts ⟨tm,L,H⟩ K:=by
 obtain⟨P,T,φ,n,N⟩:=cx;dsimp only at hP ha h;subst hP;refine⟨40,_,_,[],.tup [],setb L k (.map (encS (ZM S [x]))),H,rfl,Zf func40 rfl rfl,?_,.refl _ _,h⟩;rw[Qs,ha,Zn];exact Zh.args (j40 (n+1) _ n k (Qq n) S [x] sm (by simp only[full,if_true];exact hk)) ⟨.refl _,.any _ _ _,trivial⟩
def o10a:Opt:=⟨true,true,fun d=>if d=48 then .heap else if d=49∨d=70 then .call else .auto,[]⟩
variable {p:Nat→Prop}
def ZrH{j:Nat}(h:p j):Inside n p (.iptr [.map n j]):=.iptr _ fun i hi=>Yg.mem (l:=[.map n j]) (p:=fun c=>Inside n p c) ⟨.map _ _ (.inr ⟨rfl,h⟩),trivial⟩ _ (Qa hi)
def Ze3(n ls bs:Nat)(now:List Bnd)(m:Nat):Ze:=.box [.map n 51,.ptr ls bs 0,.sl 1 (now.map Zj) .any,.msl 1 n 200 m]
def Zm1(n ls bs:Nat)(l:List Lt)(b:Bnd)(K1:List Str)(H:Za):Zb:=
 ⟨[(13,.ptr n 56 0),(10,.iptr [.map n 39]),(0,.sl 13 (l.map Lt.enc) .any),(2,.sl 5 (b.map eBd) .any)],[(39,.map (encS K1)),(51,.map []),(200,.Zg 84 1 [] 0),(56,Ze3 n ls bs [b] 0)],H⟩
def Zuh(n ls bs:Nat)(l:List Lt)(b:Bnd)(K1:List Str)(H:Za)(i:Nat):Zb:=
 ⟨[(59,.int .i64 i),(58,.int .i64 b.length),(57,.sl 5 (b.map eBd) .any),(13,.ptr n 56 0),(10,.iptr [.map n 39]),(0,.sl 13 (l.map Lt.enc) .any)],
  [(39,.map (encS (ZM K1 (Zo (b.take i))))),(51,.map (encS (ZM [] (Zo (b.take i))))),(200,.Zg 84 1 [] 0),(56,Ze3 n ls bs [b] 0)],H⟩
def Zp7{j:Nat}(h:p j):Inside n p (.ptr n j 0):=.ptr _ _ _ (.inr ⟨rfl,h⟩)
def Zs3{ls bs:Nat}(hls:ls<n)(h:p 51)(h2:p 200)(now:List Bnd)(m:Nat):Yg (fun c=>Inside n p c) [.map n 51,.ptr ls bs 0,.sl 1 (now.map Zj) .any,.msl 1 n 200 m]:=
 ⟨Zeb h,.ptr _ _ _ (.inl hls),(ZA now).inside,.msl _ _ _ _ (.inr ⟨rfl,h2⟩),trivial⟩
def Q10(n:Nat)(s:Sto)(l:List Lt)(b:Bnd)(H:Za):AV→Za→Prop:=fun r' H'=>r'= .tup [.sl 1 ((ZQ s.A l b).1.map Zj) .any,eInt (ZQ s.A l b).2]∧H'=H
def Znh(n ls bs:Nat)(l:List Lt)(b:Bnd)(K2 S0:List Str)(H:Za):Zb:=
 ⟨[(16,.sl 1 [] .full),(13,.ptr n 56 0),(10,.iptr [.map n 39]),(0,.sl 13 (l.map Lt.enc) .any)],[(39,.map (encS K2)),(51,.map (encS S0)),(200,.Zg 84 1 [] 0),(56,Ze3 n ls bs [b] 0)],H⟩
def Zn8(A:List Am)(p:List Stp)(now:List Bnd):Zch A p now 0=now:=by cases p<;>rfl
def Zmk(n ls bs:Nat)(K2 S1:List Str)(D:List (Stp×Lt))(now:List Bnd)(H:Za):Zb:=
 ⟨[(13,.ptr n 56 0),(10,.iptr [.map n 39])],[(39,.map (encS K2)),(51,.map (encS S1)),(200,.Zg 84 1 (D.map (fnV n 56)) D.length),(56,Ze3 n ls bs now D.length)],H⟩
def Zsu(l bx:Nat)(q:Stp×Lt):fnV l bx q= .fn (.func (fnF q)) (fnC l bx q):=by
 obtain⟨s,x⟩:=q;cases s<;>rfl
def ZsV(h:p 56)(q:Stp×Lt):Inside n p (fnV n 56 q):=by
 have hp:Inside n p (.iptr [.ptr n 56 0]):=.iptr _ fun i hi=>Yg.mem (l:=[.ptr n 56 0]) (p:=fun c=>Inside n p c) ⟨Zp7 h,trivial⟩ _ (Qa hi)
 have key:∀f cs,Yg (fun c=>Inside n p c) cs→Inside n p (.fn f cs):=fun f cs h=>Inside.fn _ _ fun i hi=>h.mem _ (Qa hi)
 obtain⟨s,x⟩:=q;cases s with
 |test y=>exact key _ _ ⟨hp,(Zl y.bcs).inside,trivial⟩
 |bind s t=>exact key _ _ ⟨hp,(Zl (cs:=[.str s]) ⟨.str _,trivial⟩).inside,(Zl t.bcs).inside,trivial⟩
 |atom a=>exact key _ _ ⟨hp,(Zl x.bcs).inside,trivial⟩
def Zmg(h:p 56)(D:List (Stp×Lt)):Yg (fun c=>Inside n p c) (D.map (fnV n 56)):=ZY fun c hc=>by
 obtain⟨q,_,rfl⟩:=Qi.1 hc;exact ZsV h q
def ZtG(n ls bs:Nat)(K2 S1:List Str)(D:List (Stp×Lt))(now:List Bnd)(H:Za)(i:Nat):Zb:=
 ⟨[(98,.int .i64 i),(97,.int .i64 D.length),(96,.msl 1 n 200 D.length),(13,.ptr n 56 0),(10,.iptr [.map n 39])],[(39,.map (encS K2)),(51,.map (encS S1)),(200,.Zg 84 1 (D.map (fnV n 56)) D.length),(56,Ze3 n ls bs now D.length)],H⟩
def Zvo(hE:ExpOK)(n:Nat)(H:Za)(hT:Tabs H)(hn:0<n)(ls bs:Nat)(hls:ls<n)(s:Sto)(hs:Z7 H ls bs s)(hok:Ok s)(l:List Lt)(b:Bnd)(hb:b.length≤1000)(F:List Lt)(hF:Zee l b F)(hvb:validB b=true)
  (K2 S1 S0:List Str) (hK2:∀x,x∈K2↔x∈ZN l b) (hS0:∀x,x∈S0↔x∈Zo b) (D:List (Stp×Lt)) (X:List Str×List Lt) (hP:plG F.length S0 F=(D,X)) (ho:∀x∈l,okX x) (hpl:VH (Zo b) (XR l (ZN l b))=some (D.map Prod.fst))
  (hj:ZQ s.A l b=if(WT s.A (D.map Prod.fst) [b]).2=0 then(XI YJ ((WT s.A (D.map Prod.fst) [b]).1.map (Vj (ZN l b))),0)else([],(WT s.A (D.map Prod.fst) [b]).2)) (B:Base):
  AKc ⟨prog,tt,⟨none,B⟩,n,Tryz.f10.ntmps⟩ [.code (ZR Tryz.f10).snd.snd.snd.snd.snd.snd.snd.snd.snd.snd] (PostF prog tt n Tryz.f10.results.toList (Q10 n s l b H)) (Zmk n ls bs K2 S1 D [b] H):=by
 obtain⟨r0,hD,hDl,hDv⟩:=ZnU (A:=s.A) hF hvb hS0 hP;have hFl:=hF.len;unfold Zmk;refine nr ?_;simp only[go_sem,simprocAttr,Ze3];repeat refine kn rfl ?_
 refine ZX (fun i=>ZtG n ls bs K2 S1 D (Zch s.A (D.map Prod.fst) [b] i) H i) (fun i=>Zjf s.A (D.map Prod.fst) (Zo b) [b] i) D.length rfl ?_ r0 ?_
 ·rw[Zn8];exact KK
 intro i hi hr;refine Yc rfl ?_;rcases Qj i D.length with h|h
 ·have hil:i<(D.map Prod.fst).length:=by simpa using h
  have huse:=hr.use hF hb hDv hil;have hnl:=hr.len;have hns:=ZdY s.A (D.map Prod.fst) [b] i hil;have hstep:=hr.step (fun a ha=>hok.v a ha) hil;rw[QV]at huse hns hstep;obtain⟨q,hq⟩:∃q,q=D[i]:=⟨_,rfl⟩
  rw[←hq]at huse hns hstep;obtain⟨hqF,hqM⟩:=hD q (hq▸Qa h);have h1:((D.map (fnV n 56)).drop (i*1)).getD 0 .dead=fnV n 56 q:=by rw[Qag,hq];simp[h]
  have h2:i*1+1≤(D.map (fnV n 56)).length:=by simp;omega
  have hre:=hr.eq;rw[Qz hil,QV,←hq,WT]at hre;generalize hN:Zch s.A (D.map Prod.fst) [b] i=now at*;refine nq h ?_;refine nT ?_;refine nq2 h h1 ?_;refine⟨⟨om,om,om⟩,?_⟩;refine nR ?_;obtain⟨fn,cd,hfun⟩:=Zq1 q;refine YV (caps:=fnC n 56 q) (avs:=[]) (Zsu n 56 q) hfun (ZtQ hE (n+1) _ (hT.full hn) om n 56 ls bs (Qq n) hls (.map n 51) (.msl 1 n 200 D.length) now om (by simp[full,lkb,Ze3,prB]) ⟨.map _ _ om,.msl _ _ _ _ om⟩ s (hs.full hls _) hok q hqM (hF.sm _ hqF) (hF.op _ hqF) huse) rfl ?_;rintro r H1 ⟨rfl,rfl⟩;refine⟨_,H,(Zn n _ H 56 _).symm,.refl _ _,?_⟩;refine aS ?_;cases he:((Go.Abs.Xk (stepS s.A q.1) now).2 !=0)with
  |true=>
   have he':¬(Go.Abs.Xk (stepS s.A q.1) now).2=0:=by simpa using he
   rw[if_neg he']at hre;refine nq he ?_;refine gn ?_;unfold Q10;rw[hj,hre,if_neg he'];exact ZF (.any _ _ _) (.refl _) (ZA []) (.int _ _) rfl
  |false=>
   have he':(Go.Abs.Xk (stepS s.A q.1) now).2=0:=by simpa using he
   refine nq he ?_;refine gm ?_;refine⟨hstep he',?_⟩;rw[hns];exact KK
 ·have hi':i=D.length:=om;subst hi';have hre:=hr.eq;rw[Us sm,WT]at hre;have hok2:=hr.ok;have hnl:=hr.len;have hln:=ZmY hF hb hDv hr;generalize Zch s.A (D.map Prod.fst) [b] D.length=out at*;rw[hre,if_pos rfl]at hj;have hsame:∀c∈out,XO (ZN l b) (Vj (ZN l b) c):=fun c hc=>ZoK ho hpl (hok2 c hc).1 fun n=>by
   have:=(hok2 c hc).2 n
   rwa [Q7 sm]at this
  have hSD:∀c∈out.map (Vj (ZN l b)),SD (ZN l b) c:=fun c hc=>by
   obtain⟨x,hx,rfl⟩:=Qi.1 hc;exact⟨hsame x hx,Ux (UL _ _) (by have:=hln x hx;omega)⟩
  refine nr ?_;simp only[go_sem,simprocAttr,QI.2 h];refine gg ?_;refine nr ?_;simp only[go_sem,simprocAttr,Ze3];refine YV (caps:=[]) (avs:=[.sl 1 (out.map Zj) .any,.fn (.func 44) [.iptr [.map n 39]]]) rfl (Zf func43 rfl rfl) (k43 (n+1) _ out om 44 [.iptr [.map n 39]] (Vj (ZN l b)) ⟨⟨_,_,Zf func44 rfl rfl⟩,fun x hx m G hm hG=>?_,fun m hm=>⟨Zl (cs:=[.map n 39]) ⟨.map _ _ om,trivial⟩,trivial⟩⟩ n 202 (Qq n) (by simp[full,lkb])) sS ?_
  ·rw[←ZlF hK2];exact k44 m G (hT.up fun k=>by rw[hG 0 k om,Zi hn]) om n 39 om K2 (by rw[hG _ _ om];simp[full,lkb]) x (by have:=hln x hx;omega) fun q hq=>Xx ((hok2 x hx).1.val q hq)
  rintro r H1 ⟨rfl,rfl⟩;refine⟨_,H,(Zn n _ H 202 _).symm,.refl _ _,?_⟩;obtain⟨rs,hrs⟩:∃rs,rs=out.map (Vj (ZN l b)):=⟨_,rfl⟩
  have hrl:out.length=rs.length:=by rw[hrs,Qv]
  rw[←hrs,hrl];rw[←hrs]at hSD hj;refine gP ?_;refine YV (caps:=[]) (avs:=[.msl 1 n 202 rs.length,.fn (.func 51) []]) rfl (Zf func50 rfl rfl) (k50 (n+1) _ n 202 (ZN l b) rs hSD om (by simp[full,lkb,flat_bnds])) sS ?_;rintro r H1 ⟨rfl,ys,hp,ha,rfl⟩;refine⟨_,H,(Zn n _ H 202 _).symm,.refl _ _,?_⟩;have hyl:rs.length=ys.length:=hp.length_eq.symm;have hyg:∀c∈ys,SD (ZN l b) c:=fun c hc=>hSD c (hp.mem_iff.1 hc)
  have hkp:kpt YJ ys ys.length=XI YJ rs:=ZmJ (ZtY _) hSD hp ha;refine aq hyl ?_;refine nR ?_;refine YV (caps:=[]) (avs:=[.msl 1 n 202 ys.length,.fn (.func 53) []]) rfl (Zf func52 rfl rfl) (k52 (n+1) _ n 202 (Qq n) ys om (fun c hc=>⟨(hyg c hc).2,fun q hq=>Xx ((hyg c hc).1.1.val q hq)⟩) (by simp[full,lkb])) sS ?_;rintro r H1 hq;unfold ZtV at hq;rw[hkp]at hq;have hin:∀q:List Bnd,∀c∈flat (q.map Zj),Inside n (fun k=>k≠202) c:=fun q c hc=>((Zhd (n:=n) (m:=0) q).1 c hc).inside
  have hLi:∀p∈[(39,Ze.map (encS K2)),(51,.map (encS S1)),(200,.Zg 84 1 (D.map (fnV n 56)) D.length),(56,.box [.map n 51,.ptr ls bs 0,.sl 1 (out.map Zj) .any,.msl 1 n 200 D.length])],p.2.Inside n (fun k=>k≠202):=fun p hp=>by
   simp only[Qk,QD,or_false]at hp;rcases hp with rfl|rfl|rfl|rfl
   ·exact⟨fun c hc=>((WE (n:=n) K2).1 c hc).inside,by simp[Ze.at_]⟩
   ·exact⟨fun c hc=>((WE (n:=n) S1).1 c hc).inside,by simp[Ze.at_]⟩
   ·exact⟨fun c hc=>(Zmg (p:=fun k=>k≠202) dc D).mem c hc,by simp[Ze.at_]⟩
   ·exact Ze.Zx (Zs3 hls dc dc out D.length)
  rcases hq with⟨rfl,rfl,e⟩|⟨rfl,hpos,hle,rfl⟩
  ·rw[e]at hkp;refine⟨_,H,rfl,.refl _ _,?_⟩;refine aS ?_;refine ZK (Xm (tm':=[(6,.sl 1 (ys.map Zj) .any),(7,.int .i64 0)]) (j:=202) (ys.map Zj) rfl rfl sm (ZmB ys) (hin ys) (fun p hp=>?_) hLi) ?_
   ·simp only[Qk,QD,or_false]at hp;rcases hp with rfl|rfl
    ·exact .inr ⟨1,rfl,rfl⟩
    ·exact .inl ⟨.refl _,.int _ _⟩
   refine nV ?_;unfold Q10;rw[hj,e];exact ZF (.refl _) (.refl _) (ZA _) (.int _ _) rfl
  ·refine⟨_,H,(Zn n _ H 202 _).symm,.refl _ _,?_⟩;refine aS ?_;generalize XI YJ rs=U at*;refine ZK (JJ (tm':=[(6,.sl 1 (U.map Zj) .any),(7,.int .i64 0)]) (j:=202) (U.map Zj++List.replicate (ys.length - U.length) zBn) rfl rfl (by simp;omega) (fun x hx=>?_) (fun c hc=>?_) (fun p hp=>?_) hLi) ?_
   ·rcases Qg.1 hx with hx|hx
    ·exact ZmB U x hx
    ·rw[(Uh.1 hx).2];rfl
   ·obtain⟨z,hz,hc⟩:=Qw.1 hc;rcases Qg.1 hz with hz|hz
    ·obtain⟨y,_,rfl⟩:=Qi.1 hz;exact(Below.cells (ZC n y) c hc).inside
    ·rw[(Uh.1 hz).2]at hc;simp only[zBn,AV.cells,Ql]at hc;subst hc;exact inZ
   ·simp only[Qk,QD,or_false]at hp;rcases hp with rfl|rfl
    ·exact .inr (.inr ⟨0,U.length,rfl,by rw[GZ,Gf sm]⟩)
    ·exact .inl ⟨.refl _,.int _ _⟩
   refine nV ?_;unfold Q10;rw[hj];exact ZF (.refl _) (.refl _) (ZA _) (.int _ _) rfl
def Zkd(K:List Str)(i:Nat):Str:=K.getD i []
def Zk4(K:List Str):(List.range K.length).map (Zkd K)=K:=by
 apply Gl
 ·simp
 ·intro i h1 h2;simp[Zkd,h2]
def Zp5(n ls bs:Nat)(l:List Lt)(b:Bnd)(K2 S0:List Str)(H:Za)(seen:List Nat):Zb:=
 ⟨[(78,.ptr n 78 0),(16,.sl 1 ((seen.map (Zkd K2)).map .str) (.buf n 201)),(13,.ptr n 56 0),(10,.iptr [.map n 39]),(0,.sl 13 (l.map Lt.enc) .any)],
  [(78,.iter n 39 K2.length seen),(201,.buf 9 1 seen.length),(39,.map (encS K2)),(51,.map (encS S0)),(200,.Zg 84 1 [] 0),(56,Ze3 n ls bs [b] 0)],H⟩
def Zvx(hE:ExpOK)(n:Nat)(H:Za)(hT:Tabs H)(hn:0<n)(ls bs:Nat)(hls:ls<n)(s:Sto)(hs:Z7 H ls bs s)(hok:Ok s)(l:List Lt)(hl:l.length≤10)(hsm:∀x∈l,Sm x)(hop:∀x∈l,0≤x.op∧x.op≤255)(b:Bnd)(hb:b.length≤1000)(hv:l.all Y5=true)(hvb:validB b=true)
  (K2 S0:List Str) (hK:K2.Nodup) (hK2:∀x,x∈K2↔x∈ZN l b) (hS0:∀x,x∈S0↔x∈Zo b) (B:Base):
  AKc ⟨prog,tt,⟨none,B⟩,n,Tryz.f10.ntmps⟩ [.code (ZR Tryz.f10).snd.snd.snd.snd.snd.snd.snd.snd] (PostF prog tt n Tryz.f10.results.toList (Q10 n s l b H)) (Znh n ls bs l b K2 S0 H):=by
 unfold Znh;have hKl:K2.length≤7100:=Ux (YL hK fun x hx=>(hK2 x).1 hx) (Zgg hl hsm hb);have hel:(encS K2).length=K2.length:=by simp[encS,Zax]
 have hgd:∀j (h:j<K2.length),(encS K2).getD j (.dead,.dead)=(.str K2[j],.agg []):=fun j h=>by
  rw[Qp];simp[encS,Zax,h]
 have hso:∀(q:Nat→Prop) (r:List Str),q 201→Inside n q (.sl 1 (r.map .str) (.buf n 201)):=fun q r h=>Abs.Yz (mB fun u=>.str _) h
 have hit:∀(q:Nat→Prop) (m:Nat) (z:List Nat),q 39→Ze.Inside n q (.iter n 39 m z):=fun q m z h=>⟨by simp[Ze.avs],fun q' hq=>by simp only[Ze.at_,Ql]at hq;subst hq;exact .inr ⟨rfl,h⟩⟩
 refine gh ?_;refine XL 16 201 9 1 rfl rfl ?_;refine Zaf (fun m st=>∃seen:List Nat,seen.Nodup∧(∀i∈seen,i<K2.length)∧m=K2.length - seen.length∧st=Zp5 n ls bs l b K2 S0 H seen) (m0:=K2.length) (s0:=Zp5 n ls bs l b K2 S0 H []) rfl ?_ ⟨[],sm,sm,sm,rfl⟩ ?_
 ·rw[hel];exact KK
 rintro m st ⟨seen,hnd,hlt,rfl,rfl⟩;refine Yc rfl ?_;have hlen:seen.length≤K2.length:=by
  have:=YL hnd (q:=List.range K2.length) (fun i hi=>by simpa using hlt i hi);simpa using this
 refine nR ?_;refine⟨78,n,39,encS K2,seen,rfl,by simp only[go_sem,simprocAttr,hel],sS,fun hall=>?_,fun i hi hni=>?_⟩
 ·refine aS ?_;refine gg ?_;have hp:(seen.map (Zkd K2)).Perm K2:=by
   conv=>rhs;rw[←Zk4 K2]
   refine List.Perm.map _ ((QaY hnd QaC).2 fun i=>?_);rw[MK];exact⟨hlt i,fun h=>hall i om⟩
  have hll:seen.length=(seen.map (Zkd K2)).length:=sm;rw[hll];generalize seen.map (Zkd K2)=ks at*;have hks:∀k,k∈ks↔k∈ZN l b:=fun k=>by rw[hp.mem_iff,hK2]
  have hkl:ks.length≤7100:=by rw[hp.length_eq];exact hKl
  have hfl:XR l ks=XR l (ZN l b):=Zet (fun x=>by rw[Qg,Qg,hks]) l 0;have hj26:=j26 l hl hsm ks om;rw[hfl]at hj26;obtain⟨F,hF⟩:∃F,F=XR l (ZN l b):=⟨_,rfl⟩
  rw[←hF]at hj26;refine nR ?_;refine cQ (Zh.args (hj26 (n+1) _ om (hT.full hn)) (args':=[.sl 13 (l.map Lt.enc) .any,.sl 1 (ks.map .str) (.buf n 201)]) ⟨.refl _,.any _ _ _,trivial⟩) ?_;refine aS ?_;have hFO:Zee l b F:=hF▸ZqV hl hsm hop hb hv;have hFl:=hFO.len;refine YV (caps:=[]) (avs:=[.ptr n 56 0,.sl 13 (F.map Lt.enc) .any]) rfl (Zf func42 rfl rfl) (k42 (n+1) _ (hT.full hn) n 56 51 200 hn (Qq n) dc (.ptr ls bs 0) (.sl 1 ([b].map Zj) .any) S0 F hFO.sm om ⟨.ptr _ _ _ om,ZA _⟩ (by simp[full,lkb,Ze3]) (by simp[full,lkb]) (by simp[full,lkb])) sS ?_;rintro r H1 ⟨rfl,rfl⟩;generalize hP:plG F.length S0 F=P;obtain⟨D,S1,R⟩:=P;refine⟨[(78,.iter n 39 K2.length seen),(201,.buf 9 1 ks.length),(39,.map (encS K2)),(51,.map (encS S1)),(200,.Zg 84 1 (D.map (fnV n 56)) D.length),(56,Ze3 n ls bs [b] D.length)],H,?_,.refl _ _,?_⟩
  ·unfold plH;rw[←Zn,←Zn,←Zn];rfl
  refine aS ?_;cases hbd:R.all (XW S1)with
  |false=>
   refine aS ?_;refine gj ?_;have hj:ZQ s.A l b=([],120):=by rw[ZhA hv hvb hS0 (hF▸hP),hbd];rfl
   unfold Q10;rw[hj];exact ZF (.any _ _ _) (.refl _) (ZA []) (.int _ _) rfl
  |true=>
   refine aS ?_;refine nF ?_;refine Zes rfl ?_;have hj:=ZhA (A:=s.A) hv hvb hS0 (hF▸hP);rw[hbd,if_pos rfl]at hj;have hD:∀c∈D.map (fnV n 56),Below (n+1) c:=fun c hc=>by obtain⟨q,_,rfl⟩:=Qi.1 hc;exact Zce n 56 (Qq n) q
   refine ZK (s':=Zmk n ls bs K2 S1 D [b] H) ?_ ?_
   ·unfold Zmk;exact KK
   exact Zvo hE n H hT hn ls bs hls s hs hok l b hb F hFO hvb K2 S1 S0 hK2 hS0 D (S1,R) hP (fun x hx=>(Zb5 (QA.1 hv x hx)).1) (Znt hS0 (hF▸hP) hbd) hj B
 ·have hi':i<K2.length:=om;have hgi:=hgd i hi';refine aq hgi ?_;refine nT ?_;obtain⟨h0,t0,het⟩:∃h0 t0,seen++[i]=h0::t0:=by
   cases seen with
   |nil=>exact⟨i,[],rfl⟩
   |cons x y=>exact⟨x,y++[i],rfl⟩
  have hgl:∀p,(h0::t0).getLast p=i:=fun p=>by
   have:∀(l:List Nat) (q:l≠[]),l=seen++[i]→l.getLast q=i:=fun l q e=>by subst e;simp
   exact this _ p het.symm
  rw[het];refine nq3 hel hgl hgi ?_;refine⟨hi',?_⟩;refine nR ?_;refine⟨by first|exact⟨rfl,dc⟩|exact rfl,⟨Zm (by have:=hKl;omega),by have:=hKl;omega⟩,?_⟩;rw[←het];refine nN ?_;have hnd':(seen++[i]).Nodup:=Gn.2 ⟨hnd,sm,fun x hx y hy e=>by
   simp only[Ql]at hy;subst hy;subst e;exact hni hx⟩
  have hlt':∀x∈seen++[i],x<K2.length:=fun x hx=>by
   rcases Qg.1 hx with hx|hx
   ·exact hlt x hx
   ·simp only[Ql]at hx;subst hx;exact hi'
  have hl1:(seen++[i]).length=seen.length+1:=sm;have hle':=YL hnd' (q:=List.range K2.length) (fun x hx=>by simpa using hlt' x hx);simp only[Qd,Qo,QC,MV,QG]at hle';have hka:Zkd K2 i=K2[i]:=by simp[Zkd,hi']
  refine⟨K2.length - (seen++[i]).length,Zp5 n ls bs l b K2 S0 H (seen++[i]),by simp only[Qd,Qo,QC];omega,?_,seen++[i],hnd',hlt',rfl,rfl⟩;apply kZ;repeat' first|apply q0|exact xx|apply aI
  all_goals first|exact(Yi l).inside|exact(ZC n _).inside|exact ZrH rfl|exact Zp7 rfl|exact ZkD _|exact Zeb rfl|exact Inside.ptr _ _ _ (.inl hls)|exact(ZA _).inside|exact .msl _ _ _ _ (.inr ⟨rfl,rfl⟩)|exact hso _ (List.map _ _) rfl|(intro a ha;simp[Ze.avs]at ha;done)|(intro q hq;simp only[Ze.at_,Ql]at hq;subst hq;exact .inr ⟨rfl,rfl⟩)|(simp only[go_sem,simprocAttr,QL,hka];exact .refl _)|(simp only[go_sem,simprocAttr,hl1];done)
def ZuM(hE:ExpOK)(n:Nat)(H:Za)(hT:Tabs H)(hn:0<n)(ls bs:Nat)(hls:ls<n)(s:Sto)(hs:Z7 H ls bs s)(hok:Ok s)(l:List Lt)(hl:l.length≤10)(hsm:∀x∈l,Sm x)(hop:∀x∈l,0≤x.op∧x.op≤255)(b:Bnd)(hb:b.length≤1000)(hv:l.all Y5=true)(hvb:validB b=true)(K1:List Str)(hK1:K1=ZM [] (l.flatMap ZE))(B:Base):
  AKc ⟨prog,tt,⟨none,B⟩,n,Tryz.f10.ntmps⟩ [.code (ZR Tryz.f10).snd.snd.snd.snd.snd.snd] (PostF prog tt n Tryz.f10.results.toList (Q10 n s l b H)) (Zm1 n ls bs l b K1 H):=by
 unfold Zm1;refine gh ?_;refine Zt (Zuh n ls bs l b K1 H) b.length rfl ?_ ?_
 ·exact KK
 intro i hi;refine Yc rfl ?_;rcases Qj i b.length with h|h
 ·have hstep:∀S,ZM (ZM S (Zo (b.take i))) [b[i].1]=ZM S (Zo (b.take (i+1))):=fun S=>by
   rw[Qn h];unfold Zo;rw[QL,Jc];rfl
  refine nr ?_;refine aq h ?_;refine nT ?_;refine nq2 (getD_map eBd _ _ h) h ?_;refine nD o10a ?_;simp only[go_sem,simprocAttr,o10a,Ze3];refine⟨rfl,?_⟩;refine Zpx rfl (k:=51) (x:=b[i].1) (S:=ZM [] (Zo (b.take i))) rfl sS ?_;rw[hstep];simp only[go_sem,simprocAttr];refine nR ?_;refine⟨rfl,?_⟩;refine YV (caps:=[]) (avs:=[.map n 39,.sl 1 [.str b[i].1] .full]) rfl (Zf func40 rfl rfl) (Zh.args (j40 (n+1) _ n 39 (Qq n) (ZM K1 (Zo (b.take i))) [b[i].1] sm (by simp only[full,if_true];rfl)) ⟨.refl _,.any _ _ _,trivial⟩) sS ?_;rintro r H1 ⟨rfl,rfl⟩;have hs39:=hstep K1;refine⟨_,H,(Zn n _ H 39 _).symm,.refl _ _,?_⟩;rw[hs39];simp only[go_sem,simprocAttr];refine gd ?_;exact KK
 ·have hi':i=b.length:=om;subst hi';rw[QN];refine nq (QI.2 h) ?_;refine gG ?_;refine ZK (s':=Znh n ls bs l b (ZM K1 (Zo b)) (ZM [] (Zo b)) H) ?_ ?_
  ·unfold Znh;exact KK
  exact Zvx hE n H hT hn ls bs hls s hs hok l hl hsm hop b hb hv hvb (ZM K1 (Zo b)) (ZM [] (Zo b)) (addsN_nodup (hK1▸addsN_nodup .nil)) (fun x=>by rw[Vo,hK1,Vo];simp[ZN]) (fun x=>by rw[Vo];simp) B
end
end Go.Proofs.YtmdeagmbfhbbnaaGreatDoorR
