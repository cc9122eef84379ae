/- Flat. -/
import Derived.Test.YtmdeagmbfhbbnaaGreatDoorRK11
import Derived.Test.YtmdeagmbfhbbnaaGreatDoorRK07
import Derived.Test.YtmdeagmbfhbbnaaGreatDoorRK10
import Derived.Test.YtmdeagmbfhbbnaaGreatDoorRK09
import Derived.Test.YtmdeagmbfhbbnaaGreatDoorRK08
import Derived.Test.YtmdeagmbfhbbnaaGreatDoorRK05
import Derived.Test.YtmdeagmbfhbbnaaGreatDoorRK04
import Derived.ScopeJumps
import Derived.Test.YtmdeagmbfhbbnaaGreatDoorRK06
set_option linter.all false
set_option maxRecDepth 100000
open Go.Proofs.Tryz
namespace Go.Proofs.YtmdeagmbfhbbnaaGreatDoorR
open Go.Abs
def V8(S p q:List Str):ZM S (p++q)=ZM (ZM S p) q:=by unfold ZM;rw[U8]
section
variable {S:List Str}
def Zmv{cx:Cx}(hP:cx.P=prog){o:Oper}{args:List Operand}{ts:List TypeId}{tm:List (Nat×AV)}{L:List (Nat×Ze)}{H:Za}{k:Nat}{xs:List Str}{K:Zb→Prop}(hlen:xs.length≤1000000)(hk:lkb L k=some (.map (encS S)))
  (ha:Yn cx.T (evT tm) args ts=[.map cx.n k,.sl 1 (YO xs) .any]) (h:K ⟨Yk tm o.dst (.tup []),setb L k (.map (encS (ZM S xs))),H⟩):ZdS cx o (.func 40) args ts ⟨tm,L,H⟩ K:=by
 obtain⟨P,T,φ,n,N⟩:=cx;dsimp only at hP ha h;subst hP;refine⟨40,_,_,[],.tup [],setb L k (.map (encS (ZM S xs))),H,rfl,Zf func40 rfl rfl,?_,.refl _ _,h⟩;rw[Qs,ha,Zl];exact j40 (n+1) _ n k (Qp n) S xs hlen (by simp only[full,if_true];exact hk)
def flAO:Opt:=⟨true,true,fun d=>if d=48 then .call else .auto,[]⟩
def gAt(l:List Lt)(used:List Str)(i:Nat):List Str:=ZM (ZM [] used) ((l.take i).flatMap fun x=>(Yz x).flatMap Z7)
def Zqa(l:List Lt)(used:List Str)(i:Nat)(h:i<l.length):gAt l used (i+1)=ZM (gAt l used i) ((Yz l[i]).flatMap Z7):=by
 unfold gAt;rw[Qn h,Us,V8];simp
def Ztq(n:Nat)(l:List Lt)(used:List Str)(H:Za)(i:Nat):Zb:=
 ⟨[(24,.int .i64 i),(23,.int .i64 l.length),(22,.sl 13 (l.map Lt.enc) .any),(5,.ptr n 15 0),(0,.sl 13 (l.map Lt.enc) .any)],[(13,.map (encS (gAt l used i))),(15,.box [.map n 13,.int .i64 0,.sl 13 [] .full])],H⟩
def ZtF(n:Nat)(l:List Lt)(q:List Tm)(S:List Str)(i:Nat)(H:Za)(j:Nat):Zb:=
 ⟨[(38,.int .i64 j),(37,.int .i64 q.length),(36,.sl 4 (q.map Tm.enc) .any),(24,.int .i64 i),(23,.int .i64 l.length),(22,.sl 13 (l.map Lt.enc) .any),(5,.ptr n 15 0),(0,.sl 13 (l.map Lt.enc) .any)],[(13,.map (encS (ZM S ((q.take j).flatMap Z7)))),(15,.box [.map n 13,.int .i64 0,.sl 13 [] .full])],H⟩
variable {x:Lt}
def Sm.tx(h:Sm x):(∀t∈Yz x,t.Good∧t.sz≤305)∧(Yz x).length≤307:=by
 have h3:=h.len;have h4:=h.at_;refine⟨fun t ht=>?_,by simp[Yz];omega⟩;simp only[Yz,Qk]at ht;rcases ht with rfl|rfl|ht
 ·exact⟨h.good.L,h.L⟩
 ·exact⟨h.good.R,h.R⟩
 ·exact⟨h.good.at_.arg ht,by have:=Tm.ZcF ht;omega⟩
def flY(S:List Str)(x:Lt)(c:Nat):Lt:=⟨x.kind,x.neg,⟨x.at_.pred,if x.kind=1 then(flT.flTs S x.at_.args c).1 else x.at_.args⟩,x.op,x.L,x.R⟩
def flD(S:List Str)(x:Lt)(c:Nat):List (Nat×Tm):=if x.kind=1 then(flT.flTs S x.at_.args c).2.2 else []
def flN(S:List Str)(x:Lt)(c:Nat):Nat:=if x.kind=1 then(flT.flTs S x.at_.args c).2.1 else c
def Zir(S:List Str)(x:Lt)(c:Nat):flX S x c=(flY S x c::(flD S x c).map Vj,flN S x c):=by
 unfold flX flY flD flN;split
 ·rfl
 ·rfl
def Zrp(S:List Str)(x:Lt)(c:Nat):List AV:=(flY S x c).enc::(flD S x c).map Jb
def WT(S:List Str):List Lt→Nat→List AV
 |[],_=>[]
 |x::r,c=>Zrp S x c++WT S r (flN S x c)
theorem ZeN(S:List Str):∀(p q:List Lt) (c:Nat),WT S (p++q) c=WT S p c++WT S q (Zaa S p c)
 |[],q,c=>rfl
 |x::p,q,c=>by
  have:=ZeN S p q (flN S x c);have e:(flX S x c).2=flN S x c:=by rw[Zir]
  simp only[Ua,WT,Zaa,e,this,Q9]
def ZnI(S:List Str)(l:List Lt)(c i:Nat)(h:i<l.length):WT S (l.take (i+1)) c=WT S (l.take i) c++Zrp S l[i] (Zaa S (l.take i) c):=by
 rw[Qn h,ZeN];simp[WT]
variable {n:Nat}
def Zpp{c:Nat}:∀v∈Zrp S x c,Below n v∧ones v=true∧v.cells.length=13:=fun v hv=>by
 rcases Qk.1 hv with rfl|hv
 ·exact⟨Lt.blw n _,rfl,rfl⟩
 ·obtain⟨d,_,rfl⟩:=Qh.1 hv;exact⟨Zf6 n d,rfl,rfl⟩
def Zjq{n:Nat}{S:List Str}:∀{l:List Lt} {c:Nat},∀v∈WT S l c,Below n v∧ones v=true∧v.cells.length=13
 |[],_,v,hv=>by cases hv
 |x::r,c,v,hv=>by
  rcases Qj.1 hv with hv|hv
  ·exact Zpp v hv
  ·exact Zjq v hv
def wkss_append:∀{p q r s:List AV},Zds p q→Zds r s→Zds (p++r) (q++s)
 |[],[],_,_,_,h=>h
 |_::_,_::_,_,_,h1,h2=>⟨h1.1,wkss_append h1.2 h2⟩
 |[],_::_,_,_,h,_=>h.elim
 |_::_,[],_,_,h,_=>h.elim
def Zq8(S:List Str)(x:Lt)(c:Nat):Zds (Zrp S x c) ((flX S x c).1.map Lt.enc):=by
 rw[Zir];refine⟨.refl _,?_⟩;generalize flD S x c=ds;induction ds with
 |nil=>trivial
 |cons d ds ih=>exact⟨.Ze4 ⟨.refl _,.refl _,.refl _,.nil _ _ _,.refl _,.refl _,.refl _,.refl _,.nil _ _ _,.refl _,.refl _,.refl _,.refl _,trivial⟩,ih⟩
def Zih(S:List Str):∀(l:List Lt) (c:Nat),Zds (WT S l c) ((flL S l c).map Lt.enc)
 |[],_=>trivial
 |x::r,c=>by
  have e:(flX S x c).2=flN S x c:=by rw[Zir]
  rw[WT,flL,QI,e];exact wkss_append (Zq8 S x c) (Zih S r _)
def ZpF(S:List Str)(l:List Lt)(c:Nat):(WT S l c).length=(flL S l c).length:=by
 have:=(Zih S l c).len;simpa using this.symm
def Zif(S:List Str)(l:List Lt)(i:Nat):AV:=if i=0 then .sl 13 [] .full else match l[i - 1]? with
 |some x=>.sl 13 ((flD S x (Zaa S (l.take (i - 1)) 0)).map Jb) .any
 |none=>.sl 13 [] .any
def Zkv(S:List Str)(l:List Lt)(i:Nat)(h:i<l.length):Zif S l (i+1)= .sl 13 ((flD S l[i] (Zaa S (l.take i) 0)).map Jb) .any:=by
 unfold Zif;rw[if_neg om,show i+1 - 1=i by omega,Qb h]
def Zof(ds:List (Nat×Tm)):Below n (.sl 13 (ds.map Jb) .any):=Zz fun x hx=>by obtain⟨d,_,rfl⟩:=Qh.1 hx;exact Zf6 n d
def Zrx(n:Nat)(l:List Lt)(S:List Str)(H:Za)(i:Nat):Zb:=
 ⟨[(53,.int .i64 i),(52,.int .i64 l.length),(51,.sl 13 (l.map Lt.enc) .any),(10,.sl 13 (WT S (l.take i) 0) (.buf n 201)),(5,.ptr n 15 0)],
  [(13,.map (encS S)),(15,.box [.map n 13,.int .i64 (Zaa S (l.take i) 0),Zif S l i]),(201,.buf 54 13 (WT S (l.take i) 0).length)],H⟩
variable {p:Nat→Prop}
def ZiI{l:List Lt}{c:Nat}(h:p 201):Inside n p (.sl 13 (WT S l c) (.buf n 201)):=Abs.Yx (fun x hx=>(Zjq x hx).1) h
def Zm6(ds:List (Nat×Tm)):Yf (fun c=>Inside n p c) (flat (ds.map Jb)):=Z4 fun c hc=>((Zeq (n:=n) (e:=54) (k:=0) ds).1 c hc).inside
def outO:Opt:=⟨true,true,fun d=>if d=88∨d=93 then .own 201 else .auto,[201]⟩
def Zj3(S:List Str):Yf (fun c=>Inside n p c) (List.map (fun x=>x.1) (encS S)++List.map (fun x=>x.2) (encS S)):=Z4 fun c hc=>((WH (n:=n) S).1 c hc).inside
def Zen{k:Nat}(h:p k):Inside n p (.map n k):=.map _ _ (.inr ⟨rfl,h⟩)
theorem Zl4(x:Lt):[x.L.enc,x.R.enc]++x.at_.args.map Tm.enc=(Yz x).map Tm.enc:=rfl
def ZoL{G:Za}{l b m q:Nat}{s:FZs}(h1:G l b=some (.box [.map l m,.int .i64 s.n,.msl 13 l q s.ds.length]))(h2:G l q=some (.Zg 54 13 (flat (s.ds.map Jb)) s.ds.length)):fsH G l b m q s=G:=by
 unfold fsH;rw[Z9 h2,Z9 h1]
def ZfD(h:Sm x):((Yz x).flatMap Z7).length≤915:=by
 have h1:=flatMap_vars_len (Yz x);have h2:=h.L;have h3:=h.R;have h4:=h.at_;simp only[Yz,Tm.sz.szs]at h1⊢;omega
def ZkX{l:List Lt}(hl:l.length≤10)(hs:∀x∈l,Sm x){used:List Str}(hu:used.length≤10000):(J4 l used).length≤20000:=by
 have h1:=addsN_len (S:=ZM [] used) (l:=l.flatMap fun x=>(Yz x).flatMap Z7);have h2:=addsN_len (S:=[]) (l:=used);have h3:∀q:List Lt,(∀x∈q,Sm x)→(q.flatMap fun x=>(Yz x).flatMap Z7).length≤q.length*915:=by
  intro q;induction q with
  |nil=>intro _;simp
  |cons x q ih=>
   intro h;have a1:=ZfD (h x sm);have a2:=ih fun y hy=>h y (by simp[hy])
   rw[QV,Qg,Qr];omega
 have h4:=h3 l hs;have h5:l.length*915≤10*915:=QE _ hl;simp only[QB]at h2;unfold J4;omega
def j26(l:List Lt)(hl:l.length≤10)(hs:∀x∈l,Sm x)(used:List Str)(hu:used.length≤10000):Z5 prog 26 [.sl 13 (l.map Lt.enc) .any,eSs used] (.sl 13 ((XO l used).map Lt.enc) .any):=by
 intro n H hn hT;refine aF func26 fun B=>?_
 refine gc ?_;refine nR ?_;have hm0:encS (ZM [] [])=[]:=rfl;refine YW (caps:=[]) (avs:=[.map n 13,.sl 1 (YO used) .any]) rfl (Zf func40 rfl rfl) (j40 (n+1) _ n 13 (Qp n) [] used om (by simp only[full,if_true];rfl)) (by simp only[go_sem,simprocAttr];rfl) ?_;rintro r H1 ⟨rfl,rfl⟩;refine⟨[(13,.map (encS (ZM [] used))),(15,.box [.map n 13,.int .i64 0,.sl 13 [] .full])],H,(Zl n _ H 13 _).symm,.refl _ _,?_⟩;refine aS ?_;refine gh ?_;refine Zr (Ztq n l used H) l.length rfl ?_ ?_
 ·exact KK
 intro i hi;refine Yb rfl ?_;rcases Qe i l.length with h|h
 ·obtain⟨x,hx⟩:∃x,x=l[i]:=⟨_,rfl⟩
  have hxs:=hs _ (Qa h);have hg:=Zqa l used i h;rw[←hx]at hxs hg;refine nq h ?_;refine gH ?_;simp only[go_sem,simprocAttr,Lt.Zp _ _ h,h,←hx];refine nq Zl4 ?_;obtain⟨hx1,hx2⟩:=hxs.tx;refine⟨rfl,⟨Zm (by have:=hxs.len;omega),by have:=hxs.len;omega⟩,?_⟩;generalize hq:Yz x=q at hx1 hx2 hg;refine kK ?_;refine Zr (ZtF n l q (gAt l used i) i H) q.length rfl ?_ ?_
  ·exact KK
  intro j hj;refine Yb rfl ?_;rcases Qe j q.length with h'|h'
  ·have ht:=hx1 _ (Qa h');have hv:=Zea q[j];have hv2:=nm_len.1 q[j];have hstep:ZM (ZM (gAt l used i) ((q.take j).flatMap Z7)) (Z7 q[j])=ZM (gAt l used i) ((q.take (j+1)).flatMap Z7):=by
    rw[Qn h',Us,V8];simp
   refine nr ?_;refine aq h' ?_;refine nT ?_;refine nq2 (Tm.Zp _ _ h') h' ?_;refine nD flAO ?_;simp only[go_sem,simprocAttr,flAO];refine ZfW (Zf func56 rfl rfl) (j56 q[j] ht.1 om) sS ?_;simp only[go_sem,simprocAttr,flAO];refine Zmv rfl (k:=13) (xs:=Z7 q[j]) (S:=ZM (gAt l used i) ((q.take j).flatMap Z7)) om rfl sS ?_;rw[hstep];simp only[go_sem,simprocAttr];refine gd ?_;exact KK
  ·have hj':j=q.length:=om;subst hj';rw[QN,←hg];refine nq (QG.2 h') ?_;refine gg ?_;refine gd ?_;exact KK
 ·have hi':i=l.length:=om;subst hi';have hS:gAt l used l.length=J4 l used:=by unfold gAt J4;rw[QN]
  rw[hS];refine nq (QG.2 h) ?_;refine gg ?_;refine gk ?_;refine Xz 10 201 54 13 rfl rfl ?_;refine Zr (Zrx n l (J4 l used) H) l.length rfl ?_ ?_
  ·exact KK
  intro i hi;refine Yb rfl ?_;rcases Qe i l.length with h|h
  ·obtain⟨x,hx⟩:∃x,x=l[i]:=⟨_,rfl⟩
   have hxs:=hs _ (Qa h);rw[←hx]at hxs;refine nq h ?_;refine gH ?_;simp only[go_sem,simprocAttr,Lt.Zp _ _ h,h,←hx];refine gh ?_;refine ZaU 15 200 2 54 13 rfl rfl rfl ?_;simp only[go_sem,simprocAttr,Mc,UU];refine XK tok mixed drawO rfl rfl rfl ?_;refine aS ?_;refine cT (j49 x.L hxs.good.L) ?_;refine cT (j49 x.R hxs.good.R) ?_;obtain⟨S,hSe⟩:∃S,S=J4 l used:=⟨_,rfl⟩
   obtain⟨c,hc⟩:∃c,c=Zaa S (l.take i) 0:=⟨_,rfl⟩
   have hSl:S.length≤20000:=by rw[hSe];exact ZkX hl hs hu
   have hx3:=hxs.at_;have hcl:c≤61006100:=by
    have h1:=(Zh1 (S:=S) (l:=l.take i) (fun y hy=>hs y (UR hy)) 0).1;have h2:(l.take i).length*(305*(S.length+2))≤10*(305*20002):=QaR (by rw[QJ];omega) (Qan _ om);omega
   rw[←hSe,←hc];refine gh ?_;refine V5 ⟨[(53,.int .i64 i),(52,.int .i64 l.length),(51,.sl 13 (l.map Lt.enc) .any),(10,.sl 13 (WT S (l.take i) 0) (.buf n 201)),(5,.ptr n 15 0),(12,.ptr n 12 0)],
    [(13,.map (encS S)),(201,.buf 54 13 (WT S (l.take i) 0).length),(12,.box (flY S x c).cs),(200,.Zg 54 13 (flat ((flD S x c).map Jb)) (flD S x c).length),(15,.box [.map n 13,.int .i64 (flN S x c),.msl 13 n 200 (flD S x c).length])],H⟩ ?_ ?_
   ·by_cases k1:x.kind=1
    ·have e1:(x.kind==1)=true:=by simp[k1]
     have eY:flY S x c=⟨x.kind,x.neg,⟨x.at_.pred,(flT.flTs S x.at_.args c).1⟩,x.op,x.L,x.R⟩:=by unfold flY;rw[if_pos k1]
     have eD:flD S x c=(flT.flTs S x.at_.args c).2.2:=by unfold flD;rw[if_pos k1]
     have eN:flN S x c=(flT.flTs S x.at_.args c).2.1:=by unfold flN;rw[if_pos k1]
     rw[eY,eD,eN];refine nTq e1 ?_;refine nR ?_;obtain⟨L,hL⟩:∃L:List (Nat×Ze),L=[(13,.map (encS S)),(15,.box [.map n 13,.int .i64 c,.msl 13 n 200 0]),(201,.buf 54 13 (WT S (l.take i) 0).length),(12,.box x.cs),(200,.Zg 54 13 [] 0)]:=⟨_,rfl⟩
     simp only[Lt.cs]at hL;rw[←hL];have hself:fsH (full n L H) n 15 13 200 ⟨c,[]⟩=full n L H:=ZoL (by rw[hL];simp[full,lkb]) (by rw[hL];simp[full,lkb,flat]);have hmp:full n L H n 13=some (.map (encS S)):=by rw[hL];simp[full,lkb]
     have hargs:=x.at_.args;refine YW (caps:=[]) (avs:=[.sl 4 (x.at_.args.map Tm.enc) .any,.bfn (.func 71) [.ptr n 15 0]]) (Qc:=fun r H1=>r= .sl 4 ((flT.flTs S x.at_.args c).1.map Tm.enc) .any∧H1=fsH (full n L H) n 15 13 200 (JL S x.at_.args ⟨c,[]⟩ x.at_.args.length)) rfl (Zf func70 rfl rfl) (by
      rw[Qs];have he:=ZsV (n+1) x.at_.args (by have:=hxs.len;omega) 71 [.ptr n 15 0] _ _ (Zf func71 rfl rfl) (flT.flTs S x.at_.args c).1 (Zac S _ c) (fun i=>fsH (full n L H) n 15 13 200 (JL S x.at_.args ⟨c,[]⟩ i)) ?_ ?_ ?_
      ·simp only[Zhn,hself]at he;exact he
      ·exact .bfn _ _ fun i hi=>by
        simp only[Qr,QB]at hi;have:i=0:=om;subst this;exact .ptr _ _ _ om
      ·intro i h L';have h1:=j71 S n 15 13 200 hn dc dc dc x.at_.args[i] (hxs.good.at_.arg (Qa h)) (n+1+1) (full (n+1) L' (full n L H)) (JL S x.at_.args ⟨c,[]⟩ i) om (by rw[Zi om];exact hmp) ((hT.full hn).full om) ?_
       ·simp only[ZdL (show n≠n+1 by omega),Zhy S x.at_.args _ i h];rw[Zm4 S x.at_.args c i h (by rw[Zac];exact h)];exact h1
       ·have h1:=Zho S x.at_.args c i;have h2:=Zfx x.at_.args i h;have h3:=Zbi x.at_.args (i+1);have h5:(Tm.sz.szs (x.at_.args.take i)+x.at_.args[i].sz)*(S.length+2)≤305*(S.length+2):=QE _ om;rw[Ud]at h5;have h6:305*(S.length+2)≤305*20002:=Qan _ om;exact⟨om,by simp only[JL];omega,by simp only[JL,Q5];omega⟩
      ·intro i h;exact ZiN om dc) sS ?_
     rintro r H1 ⟨rfl,rfl⟩;have hend:JL S x.at_.args ⟨c,[]⟩ x.at_.args.length=⟨(flT.flTs S x.at_.args c).2.1,(flT.flTs S x.at_.args c).2.2⟩:=by unfold JL;rw[QN];rfl
     refine⟨setb (setb L 200 (.Zg 54 13 (flat ((flT.flTs S x.at_.args c).2.2.map Jb)) (flT.flTs S x.at_.args c).2.2.length)) 15 (.box [.map n 13,.int .i64 (flT.flTs S x.at_.args c).2.1,.msl 13 n 200 (flT.flTs S x.at_.args c).2.2.length]),H,by rw[hend];unfold fsH;rw[Zl,Zl],.refl _ _,?_⟩;rw[hL];refine gO ?_;refine⟨rfl,?_⟩;exact KK
    ·have e1:(x.kind==1)=false:=by simp[k1]
     have eY:flY S x c=x:=by unfold flY;rw[if_neg k1]
     have eD:flD S x c=[]:=by unfold flD;rw[if_neg k1]
     have eN:flN S x c=c:=by unfold flN;rw[if_neg k1]
     rw[eY,eD,eN];refine nFq e1 ?_;refine nR ?_;refine cT (j70 x.at_.args (by have:=hxs.len;omega) 49 [] id ⟨⟨_,_,Zf func49 rfl rfl⟩,fun u hu=>j49 u (hxs.good.at_.arg hu),fun _=>trivial⟩) ?_;refine nN ?_;refine⟨rfl,?_⟩;rw[Qbz];exact KK
   have hT200:∀p∈([(53,.int .i64 i),(52,.int .i64 l.length),(51,.sl 13 (l.map Lt.enc) .any),(10,.sl 13 (WT S (l.take i) 0) (.buf n 201)),(5,.ptr n 15 0),(12,.ptr n 12 0)]:List (Nat×AV)),p.1≠60∧Wk p.2 p.2∧Inside n (fun k=>k≠200) p.2:=by
    intro p hp;simp only[Qk,QA,or_false]at hp;rcases hp with rfl|rfl|rfl|rfl|rfl|rfl
    ·exact⟨sm,.refl _,.int _ _⟩
    ·exact⟨sm,.refl _,.int _ _⟩
    ·exact⟨sm,.refl _,(Ye l).inside⟩
    ·exact⟨sm,.refl _,ZiI dc⟩
    ·exact⟨sm,.refl _,.ptr _ _ _ (.inr ⟨rfl,dc⟩)⟩
    ·exact⟨sm,.refl _,.ptr _ _ _ (.inr ⟨rfl,dc⟩)⟩
   refine ZL (YV (tm':=[(53,.int .i64 i),(52,.int .i64 l.length),(51,.sl 13 (l.map Lt.enc) .any),(10,.sl 13 (WT S (l.take i) 0) (.buf n 201)),(5,.ptr n 15 0),(12,.ptr n 12 0)]) (av':=.sl 13 ((flD S x c).map Jb) .any) (j0:=15) (i:=2) (j:=200) 60 (show 60<Tryz.f26.ntmps by decide) ((flD S x c).map Jb) dc rfl rfl (.inl ⟨13,rfl,rfl⟩) rfl rfl (by rw[Qv]) (fun y hy=>by obtain⟨d,_,rfl⟩:=Qh.1 hy;rfl) (Zm6 _).mem ?_ ?_) ?_
   ·intro p hp;have h1:=hT200 p hp;simp only[Qk,QA,or_false]at hp;rcases hp with rfl|rfl|rfl|rfl|rfl|rfl<;>exact h1
   ·exact(show Yf (fun p:Nat×Ze=>p.2.Inside n (fun k=>k≠200)) [(13,.map (encS S)),(201,.buf 54 13 (WT S (l.take i) 0).length),(12,.box (flY S x c).cs),(15,.box [.map n 13,.int .i64 (flN S x c),.dead])] from
     ⟨(WH S).inside,⟨fun a ha=>(by cases ha),fun p hp=>(by cases hp)⟩,Ze.Zx (Z4 fun a ha=>((flY S x c).bcs.mem a ha).inside),Ze.Zx ⟨.map _ _ (.inr ⟨rfl,dc⟩),.int _ _,.dead,trivial⟩,trivial⟩).mem
   simp only[go_sem,simprocAttr,setb,delb,Mc,UU];have hyc:(flY S x c).cs.length=13:=rfl;refine kK ?_;refine nD outO ?_;simp only[go_sem,simprocAttr,outO,Uz,Nat.reduceBEq,UZ,U1,Nat.reduceEqDiff];have hrt:WT S (l.take (i+1)) 0=WT S (l.take i) 0++[(flY S x c).enc]++(flD S x c).map Jb:=by
    rw[ZnI S l 0 i h,←hx,←hc,Q9];rfl
   have hnt:Zaa S (l.take (i+1)) 0=flN S x c:=by
    rw[(ZpG S l 0 i h).2,←hx,←hc,Zir]
   have hma:Zif S l (i+1)= .sl 13 ((flD S x c).map Jb) .any:=by rw[Zkv S l i h,←hx,←hc]
   have hl1:(WT S (l.take i) 0).length≤3060:=by
    rw[ZpF];have h1:=(Zh1 (S:=S) (l:=l.take i) (fun y hy=>hs y (UR hy)) 0).2;have h2:(l.take i).length≤10:=by rw[QJ];omega
    omega
   have hl2:(flD S x c).length≤305:=by
    unfold flD;split
    ·have:=((ZcI S).2 x.at_.args c).2;omega
    ·simp
   have hl3:(WT S (l.take i) 0++[(flY S x c).enc]).length=(WT S (l.take i) 0).length+1:=sm;have hl4:(WT S (l.take i) 0++[(flY S x c).enc]++(flD S x c).map Jb).length=(WT S (l.take i) 0++[(flY S x c).enc]).length+(flD S x c).length:=by simp only[Qg,Qv]
   refine⟨rfl,⟨Zm om,om⟩,⟨hl3.symm,fun y hy=>by obtain⟨d,_,rfl⟩:=Qh.1 hy;rfl,Zm om,om⟩,?_⟩;refine gd ?_;unfold Zrx;rw[hnt,hma,hrt,hl4];have hob:∀p:Nat→Prop,p 201→Inside n p (.sl 13 (WT S (l.take i) 0++[(flY S x c).enc]++(flD S x c).map Jb) (.buf n 201)):=fun p h=>by rw[←hrt];exact ZiI h
   exact KK
  ·have hi':i=l.length:=om;subst hi';refine nq (QG.2 h) ?_;refine gg ?_;refine gE ?_;refine Zc ?_ (Ye _) rfl;rw[←Zkq];refine aS ?_;exact .deep (WkS.slL (Zih _ l 0))
end
structure BA (b:Bnd) (a:Am):Prop where
 gb:ZO b
 len:b.length≤100000
 good:a.Good
 sz:Tm.sz.szs a.args≤305
def BA.arg{b:Bnd}{a:Am}(h:BA b a){t:Tm}(ht:t∈a.args):t.Good∧(ZW b t).Good:=
 ⟨h.good.arg ht,Zjb h.gb (h.good.nm t ht) (by have:=Tm.ZcF ht;have:=h.sz;omega)⟩
def ZhD{b:Bnd}:∀{l:List Tm} {c:Int} {i:Nat} (h:i<l.length),(∀j (hj:j<l.length),j<i→Zt (ZW b l[j])=false)→Zt (ZW b l[i])=true→JE b l c=some (c+i,ZW b l[i])
 |t::r,c,0,_,_,hv=>by
  have hv:Zt (ZW b t)=true:=hv;rw[JE,if_pos hv];simp
 |t::r,c,i+1,h,h1,hv=>by
  have h0:=h1 0 sm om;simp only[Uc]at h0;rw[JE,if_neg (by simp[h0]),ZhD (l:=r) (i:=i) (by simpa using h) (fun j hj hji=>h1 (j+1) (by simpa using hj) om) hv];simp only[U2,Int.natCast_add];congr 2;omega
theorem ZeO{b:Bnd}:∀{l:List Tm} {c:Int},(∀t∈l,Zt (ZW b t)=false)→JE b l c=none
 |[],_,_=>rfl
 |t::r,c,h=>by
  rw[JE,if_neg (by simp[h t sm])];exact ZeO fun u hu=>h u (by simp[hu])
def Zs4(l bx:Nat)(n:Nat)(a:Am)(b:Bnd)(H:Za)(i:Nat):Zb:=
 ⟨[(13,.int .i64 i),(12,.int .i64 a.args.length),(11,.sl 4 (a.args.map Tm.enc) .any),(4,.ptr n 4 0),(0,.ptr l bx 0),(2,Zj b)],[(4,.box a.cs)],H⟩
def Zvr(n:Nat)(H:Za)(l bx ls bs:Nat)(hl:l<n)(hls:ls<n)(mp td:AV)(now:List Bnd)(hbx:H l bx=some (prB mp (.ptr ls bs 0) now td))(s:Sto)(hs:ZV H ls bs s)(hok:Ok s)(hn:0<n)(hT:Tabs H)(a:Am)(b:Bnd)(h:BA b a):
  PC prog n 140 [.ptr l bx 0,a.enc,Zj b] H (.sl 2 ((Vf s.A a b).map Am.enc) .any):=by
 have hne:¬l=n:=om;have hal:=h.good.len;refine aF func140 fun B=>?_
 refine gk ?_;refine Ya (Zs4 l bx n a b H) (fun i=>∀j (hj:j<a.args.length),j<i→Zt (ZW b a.args[j])=false) a.args.length rfl ?_ (fun j _ hj=>absurd hj (Ql _)) ?_
 ·exact KK
 intro i hi hq;refine Yb rfl ?_;rcases Qe i a.args.length with hlt|hge
 ·have hg:=h.arg (Qa hlt);refine nq hlt ?_;refine nT ?_;refine nq2 (Tm.Zp _ _ hlt) hlt ?_;refine nR ?_;refine cT (Zst b h.gb.asc (by have:=h.len;omega) a.args[i] hg.1) ?_;refine nR ?_;refine cT (a37 (ZW b a.args[i]) hg.2) ?_;cases hv:Zt (ZW b a.args[i])with
  |true=>
   have hf:=ZhD (c:=0) hlt hq hv;have hc:Vf s.A a b=Zmj s.A a.sg (i:Int) (ZW b a.args[i]):=by rw[Vf,hf];simp
   refine nT ?_;refine nD drawO ?_;simp only[go_sem,simprocAttr,hne,hbx,prB];refine cP (a56 a) ?_;have hix:=hok.ixR (⟨a.sg,(i:Int),txt (ZW b a.args[i])⟩:Ak);refine cQ (a32 (n+1) _ ls bs s a.sg (i:Int) (ZW b a.args[i]) hg.2 om (hs.full hls _) hok.g om (hT.full hn) hix.1 hix.2) ?_;simp only[go_sem,simprocAttr];refine nW ?_;rw[hc,←hok.find _ _ hv];simp only[hv,if_true];exact Zc (.refl _) (YX _) rfl
  |false=>
   refine gm ?_;refine⟨fun j hj hji=>?_,?_⟩
   ·rcases Qe j i with h'|h'
    ·exact hq j hj h'
    ·have:j=i:=om;subst this;exact hv
   ·exact KK
 ·have hf:JE b a.args 0=none:=ZeO fun t ht=>by
   obtain⟨j,hj,rfl⟩:=QK ht;exact hq j hj om
  have hc:Vf s.A a b=Zso s.A a.sg:=by rw[Vf,hf]
  refine nr ?_;refine aq (QG.2 hge) ?_;refine gg ?_;refine nD drawO ?_;simp only[go_sem,simprocAttr,hne,hbx,prB];refine cP (a56 a) ?_;have hix:=hok.ixS a.sg;refine cQ (a30 (n+1) _ ls bs s a.sg om (hs.full hls _) hok.g om (hT.full hn) hix.1 hix.2) ?_;simp only[go_sem,simprocAttr];refine nV ?_;rw[hc,←hok.all];exact Zc (.refl _) (YX _) rfl
def Zqc{A:List Am}{a:Am}{b:Bnd}:∀x∈Vf A a b,x∈A∧x.sg=a.sg:=fun x hx=>by
 unfold Vf at hx;split at hx
 ·obtain⟨h1,h2⟩:=MB.1 hx;simp only[ZjM,Qi,beq_iff_eq]at h2;exact⟨h1,h2.1.1.1⟩
 ·obtain⟨h1,h2⟩:=MB.1 hx;exact⟨h1,by simpa using h2⟩
def Zi1(A:List Am)(a:Am)(b:Bnd):(Vf A a b).length≤A.length:=by
 unfold Vf;split
 ·exact UN _ _
 ·exact UN _ _
def atS(A:List Am)(a:Am)(b:Bnd):List Bnd×Int:=((Vf A a b).filterMap fun x=>matT.matL a.args x.args b,0)
def Zox(a:Am)(b:Bnd)(l bx:Nat)(cs:List Am)(n:Nat)(H:Za)(i:Nat):Zb:=
 ⟨[(16,.int .i64 i),(15,.int .i64 cs.length),(14,.sl 2 (cs.map Am.enc) .any),(6,.sl 1 (((cs.take i).filterMap fun x=>matT.matL a.args x.args b).map Zj) (.buf n 200)),(0,Zj b),(2,.iptr a.cs)],
  [(200,.buf 34 1 ((cs.take i).filterMap fun x=>matT.matL a.args x.args b).length)],H⟩
def Zvp(n:Nat)(H:Za)(l bx ls bs:Nat)(hl:l<n)(hls:ls<n)(mp td:AV)(now:List Bnd)(hbx:H l bx=some (prB mp (.ptr ls bs 0) now td))(s:Sto)(hs:ZV H ls bs s)(hok:Ok s)(hn:0<n)(hT:Tabs H)(a:Am)(b:Bnd)(h:BA b a):
  PC prog n 139 [Zj b,.iptr [.ptr l bx 0],.iptr a.cs] H (.tup [.sl 1 ((atS s.A a b).1.map Zj) .any,eInt (atS s.A a b).2]):=by
 have hai:∀p,Inside n p (.iptr a.cs):=fun p=>(Zk a.bcs).inside
 have hcm:=Zqc (A:=s.A) (a:=a) (b:=b);have hcl:=Uy (Zi1 s.A a b) hok.A;have hbs:∀(q:List Bnd) (p:Nat→Prop),p 200→Inside n p (.sl 1 (q.map Zj) (.buf n 200)):=fun q p h=>Abs.Yx (mB fun u=>ZC n u) h
 have hat:atS s.A a b=((Vf s.A a b).filterMap fun x=>matT.matL a.args x.args b,0):=rfl;rw[hat];refine aF func139 fun B=>?_
 refine gc ?_;refine nR ?_;refine cQ (Zvr (n+1) _ l bx ls bs om om mp td now (by rw[Zi hl];exact hbx) s (hs.full hls _) hok om (hT.full hn) a b h) ?_;generalize Vf s.A a b=cs at hcm hcl⊢;refine gM ?_;refine Xz 6 200 34 1 rfl rfl ?_;refine Zr (Zox a b l bx cs n H) cs.length rfl ?_ ?_
 ·exact KK
 intro i hi;refine Yb rfl ?_;rcases Qe i cs.length with hlt|hge
 ·have hx:=hcm _ (Qa hlt);have hxl:a.args.length=cs[i].args.length:=by
   have:=congrArg Sg.n hx.2;simp only[Am.sg]at this;omega
  have hxg:=hok.g _ hx.1;have hm:=ZtZ a.args cs[i].args b hxl (fun t ht=>(h.arg ht).1) (fun u hu=>hxg.arg hu) h.gb.gb (by have:=h.len;have:=h.sz;omega);have hfl:=Qbd (fun x=>matT.matL a.args x.args b) (cs.take i);have hfl2:(cs.take i).length≤2000:=by rw[QJ];omega
  have hstep:(cs.take (i+1)).filterMap (fun x=>matT.matL a.args x.args b)=(cs.take i).filterMap (fun x=>matT.matL a.args x.args b)++(matT.matL a.args cs[i].args b).toList:=by
   rw[Qn hlt,List.filterMap_append];congr 1
  refine nq hlt ?_;refine nT ?_;refine nq2 (Am.Zp _ _ hlt) hlt ?_;refine nR ?_;refine cP (hm) ?_;obtain e|⟨d,e⟩:matT.matL a.args cs[i].args b=none∨ ∃d,matT.matL a.args cs[i].args b=some d:=by cases matT.matL a.args cs[i].args b<;>simp
  ·rw[e,Option.toList_none,Qs]at hstep;simp only[go_sem,simprocAttr,Zlf,e,Qaa,Qbg];refine nR ?_;refine gm ?_;unfold Zox;rw[hstep];exact KK
  ·rw[e,Option.toList_some]at hstep;simp only[go_sem,simprocAttr,Zlf,e,Qab,Uj];refine nR ?_;refine gi ?_;refine⟨rfl,⟨Zm om,om⟩,?_⟩;refine gd ?_;unfold Zox;rw[hstep,QI,Qg];apply kZ;repeat' first|apply q0|exact xx|apply aI
   all_goals first|exact(ZC n b).inside|exact hai _|exact(YX _).inside|(rw[←QI];exact hbs _ _ rfl)|exact hbs (_++[d]) _ rfl|exact xI
 ·have hi':i=cs.length:=om;subst hi';refine nq (QG.2 hge) ?_;refine gg ?_;refine gE ?_;exact ZE (.any _ _ _) (.refl _) (Zw _) (.int _ _) rfl
def j93(n:Nat)(H:Za)(hT:Tabs H)(hn:0<n)(l bx ls bs:Nat)(hl:l<n)(hls:ls<n)(mp td:AV)(now:List Bnd)(hnow:now.length≤1000000)(hbx:H l bx=some (prB mp (.ptr ls bs 0) now td))(hmp:Below n mp∧Below n td)(s:Sto)(hs:ZV H ls bs s)(hok:Ok s)(a:Am)(hx:∀c∈now,BA c a):
  Zh prog n 93 [.ptr l bx 0,a.enc] H fun r H'=>r=eInt (Go.Abs.Xk (atS s.A a) now).2∧H'=H.upd l bx (prB mp (.ptr ls bs 0) (Go.Abs.Xk (atS s.A a) now).1 td):=by
 have hne:l≠n:=om;refine aF func93 fun B=>?_
 refine gh ?_;refine ZY 2 [.ptr l bx 0] [(0,.ptr l bx 0),(2,.iptr [.ptr l bx 0]),(3,.ptr n 3 0)] rfl ⟨.ptr _ _ _ (.inl hl),trivial⟩ ?_ ⟨Ze.Zx (Z4 fun c hc=>(a.bcs.mem c hc).inside),trivial⟩ ?_
 ·exact⟨.inl ⟨.refl _,.ptr _ _ _ (.inl hl)⟩,.inr ⟨0,rfl,rfl⟩,.inl ⟨.refl _,.ptr _ _ _ (.inr ⟨rfl,dc⟩)⟩,trivial⟩
 refine aS ?_;refine ZY 3 a.cs [(0,.ptr l bx 0),(2,.iptr [.ptr l bx 0]),(3,.iptr a.cs)] rfl ?_ ?_ trivial ?_
 ·exact Z4 fun c hc=>(a.bcs.mem c hc).inside
 ·exact⟨.inl ⟨.refl _,.ptr _ _ _ (.inl hl)⟩,.inl ⟨.refl _,(Zk (cs:=[.ptr l bx 0]) ⟨.ptr _ _ _ hl,trivial⟩).inside⟩,.inr ⟨0,rfl,rfl⟩,trivial⟩
 refine nR ?_;refine YW (caps:=[]) (avs:=[.ptr l bx 0,.fn (.func 139) [.iptr [.ptr l bx 0],.iptr a.cs]]) rfl (Zf func130 rfl rfl) (j130 (n+1) _ l bx om mp (.ptr ls bs 0) td now hnow (by rw[Zi hl];exact hbx) ⟨hmp.1.mono om,.ptr _ _ _ om,hmp.2.mono om⟩ 139 [.iptr [.ptr l bx 0],.iptr a.cs] (atS s.A a)
  ⟨⟨_,_,Zf func139 rfl rfl⟩,fun c hc m H1 hm hH1=>?_,fun m hm=>⟨Zk (cs:=[.ptr l bx 0]) ⟨.ptr _ _ _ om,trivial⟩,Zk a.bcs,trivial⟩⟩ (fun c hc=>by
   have h1:=Zi1 s.A a c;have h2:=hok.A;have h3:=Qbd (fun x=>matT.matL a.args x.args c) (Vf s.A a c);simp only[atS];omega)) sS ?_
 ·exact Zvp m H1 l bx ls bs om om mp td now (by rw[hH1 _ _ om,Zi hl];exact hbx) s (fun k x hk=>by rw[hH1 _ _ om,Zi hls];exact hs k x hk) hok om (hT.up fun k=>by rw[hH1 _ _ om];exact Zi hn _ _ _) a c (hx c hc)
 rintro r H1 ⟨rfl,rfl⟩;refine⟨[],H.upd l bx (prB mp (.ptr ls bs 0) (Go.Abs.Xk (atS s.A a) now).1 td),(Yi n _ H l bx _ hne).symm,.upd (Ze.Zy ⟨hmp.1,.ptr _ _ _ hls,Zw _,hmp.2,trivial⟩),?_⟩;refine gw ?_;exact Zn (.refl _) (.int _ _) ⟨rfl,rfl⟩
def ZjV(m:Nat)(h:m≤100000000):(newV m).length≤140737488355328:=by
 have:=Lib.itoa_length_le (m:Int) om om;unfold newV;rw[Qr];omega
def totD(ds:List (Nat×Tm)):Nat:=(ds.map fun d=>d.2.sz+1).sum
def ZkE(p q:List (Nat×Tm)):totD (p++q)=totD p+totD q:=by simp[totD]
def ZrU(S:List Str):(∀t c,(flT S t c).1.sz+totD (flT S t c).2.2≤3*t.sz)∧ ∀l c,Tm.sz.szs (flT.flTs S l c).1+totD (flT.flTs S l c).2.2≤3*Tm.sz.szs l:=by
 refine Wl (fun k n s l ih c=>?_) (fun c=>by simp[flT.flTs,Tm.sz.szs,totD]) fun t r h1 h2 c=>?_
 ·by_cases hk:k=5∨k=6
  ·rw[WO hk];simp only[totD,Qu,UA,QaC,List.sum_nil,Tm.sz,Tm.sz.szs];omega
  ·rw[WU hk];have:=ih c;simp only[Tm.sz];omega
 ·have a1:=h1 c;have a2:=h2 (flT S t c).2.1;simp only[flT.flTs,Tm.sz.szs,ZkE];omega
def Zty(S:List Str)(B:Nat)(hB:B≤100000000):(∀t c,t.Nm→c+t.sz*(S.length+2)≤B→(flT S t c).1.Nm∧(flT S t c).1.sz≤t.sz∧ ∀d∈(flT S t c).2.2,d.1≤B∧d.2.Nm∧d.2.sz≤t.sz)∧
  ∀l c,(∀t∈l,t.Nm)→c+Tm.sz.szs l*(S.length+2)≤B→(∀t∈(flT.flTs S l c).1,t.Nm)∧Tm.sz.szs (flT.flTs S l c).1≤Tm.sz.szs l∧(flT.flTs S l c).1.length=l.length∧ ∀d∈(flT.flTs S l c).2.2,d.1≤B∧d.2.Nm∧d.2.sz≤Tm.sz.szs l:=by
 refine Wl (fun k n s l ih c h hc=>?_) (fun c _ _=>by simp[flT.flTs,Tm.sz.szs]) fun t r h1 h2 c h hc=>?_
 ·by_cases hk:k=5∨k=6
  ·have hm:=((ZcI S).1 (.mk k n s l) c).1;rw[WO hk]at hm⊢;have hm:XC S c≤c+(Tm.mk k n s l).sz*(S.length+2):=hm;have hz:=(Tm.mk k n s l).ZcE;refine⟨.mk _ _ _ _ (ZjV _ om) dc dc sm (fun u hu=>by cases hu),by simp only[Tm.sz,Tm.sz.szs];omega,fun d hd=>?_⟩;simp only[Qm]at hd;subst hd;exact⟨om,h,Qd _⟩
  ·rw[WU hk];cases h with|mk _ _ _ _ a1 a2 a3 a4 a5=>
   have hsz:Tm.sz.szs l*(S.length+2)≤(Tm.mk k n s l).sz*(S.length+2):=QE _ (by simp only[Tm.sz];omega);obtain⟨b1,b2,b3,b4⟩:=ih c a5 om;refine⟨.mk _ _ _ _ a1 a2 a3 (by rw[b3];exact a4) b1,by simp only[Tm.sz];omega,fun d hd=>?_⟩;obtain⟨c1,c2,c3⟩:=b4 d hd;exact⟨c1,c2,by simp only[Tm.sz];omega⟩
 ·simp only[Tm.sz.szs,Ud]at hc;obtain⟨a1,a2,a3⟩:=h1 c (h t sm) om;have hm:=((ZcI S).1 t c).1;obtain⟨b1,b2,b3,b4⟩:=h2 (flT S t c).2.1 (fun u hu=>h u (by simp[hu])) om;simp only[flT.flTs,Tm.sz.szs,Qr];refine⟨fun u hu=>?_,om,om,fun d hd=>?_⟩
  ·rcases Qk.1 hu with rfl|hu
   ·exact a1
   ·exact b1 u hu
  ·rcases Qj.1 hd with hd|hd
   ·obtain⟨c1,c2,c3⟩:=a3 d hd;exact⟨c1,c2,om⟩
   ·obtain⟨c1,c2,c3⟩:=b4 d hd;exact⟨c1,c2,om⟩
def Zrq{d:Nat×Tm}(h1:d.1≤100000000)(h2:d.2.Nm)(h3:d.2.sz≤305):Sm (Vj d):=
 ⟨⟨⟨by simp[Vj],by simp[Vj,Am.sz,Tm.sz.szs],fun t ht=>by cases ht⟩,⟨by simp[Vj,Tm.sz,Tm.sz.szs],.mk _ _ _ _ (ZjV _ h1) dc dc sm (fun u hu=>by cases hu)⟩,⟨by show d.2.sz≤_;omega,h2⟩⟩,
  by simp[Vj,Tm.sz,Tm.sz.szs],h3,by simp[Vj,Tm.sz.szs]⟩
def ZpC{S:List Str}(hS:S.length≤20000):∀(l:List Lt) (c:Nat),(∀x∈l,Sm x)→c+l.length*(305*(S.length+2))≤100000000→ ∀y∈flL S l c,Sm y∧(0≤y.op∧y.op≤255∨ ∃x∈l,y.op=x.op)
 |[],_,_,_,y,hy=>by cases hy
 |x::r,c,hs,hc,y,hy=>by
  have hx:=hs x sm;have hat:=hx.at_;have hxc:(flX S x c).2≤c+305*(S.length+2):=by
   by_cases hk:x.kind=1
   ·rw[Jk hk];have:=((ZcI S).2 x.at_.args c).1;have h2:Tm.sz.szs x.at_.args*(S.length+2)≤305*(S.length+2):=QE _ hat;show(flT.flTs S x.at_.args c).2.1≤_;omega
   ·rw[(VW hk).1];exact Gw _ _
  rw[Qr,Ud,QaI]at hc;rw[flL,Qj]at hy;rcases hy with hy|hy
  ·by_cases hk:x.kind=1
   ·rw[Jk hk]at hy;have h2:Tm.sz.szs x.at_.args*(S.length+2)≤305*(S.length+2):=QE _ hat;obtain⟨b1,b2,b3,b4⟩:=(Zty S 100000000 (Qd _)).2 x.at_.args c hx.good.at_.nm om;rcases Qk.1 hy with rfl|hy
    ·have hg:=hx.good.at_;have hgs:=hg.sz;simp only[Am.sz]at hgs;exact⟨⟨⟨⟨hg.pred,by simp only[Am.sz];omega,b1⟩,hx.good.L,hx.good.R⟩,hx.L,hx.R,by show Tm.sz.szs (flT.flTs S x.at_.args c).1≤_;omega⟩,.inr ⟨x,sm,rfl⟩⟩
    ·obtain⟨d,hd,rfl⟩:=Qh.1 hy;rw[dfX,if_pos hk]at hd;obtain⟨c1,c2,c3⟩:=b4 d hd;exact⟨Zrq c1 c2 om,.inl (by simp[Vj])⟩
   ·rw[(VW hk).1]at hy;simp only[Qm]at hy;subst hy;exact⟨hx,.inr ⟨y,sm,rfl⟩⟩
  ·obtain⟨h1,h2⟩:=ZpC hS r (flX S x c).2 (fun z hz=>hs z (by simp[hz])) om y hy;refine⟨h1,?_⟩;rcases h2 with h2|⟨z,hz,h2⟩
   ·exact .inl h2
   ·exact .inr ⟨z,by simp[hz],h2⟩
def defs_vars:∀ds:List (Nat×Tm),((ds.map Vj).flatMap ZI).length≤totD ds
 |[]=>by simp[totD]
 |d::ds=>by
  have h1:=defs_vars ds;have h2:(ZI (Vj d)).length≤d.2.sz+1:=by
   have:=flatMap_vars_len [(Vj d).L,(Vj d).R];simp only[Tm.sz.szs]at this;unfold ZI;rw[if_pos (by rfl)];have e:(Vj d).L.sz=1:=rfl;have e2:(Vj d).R.sz=d.2.sz:=rfl;omega
  simp only[Qu,QV,Qg,totD,QaC]at h1⊢;omega
def Zjx{S:List Str}:∀(l:List Lt) (c:Nat),(∀x∈l,Sm x)→((flL S l c).flatMap ZI).length≤l.length*1525∧(flL S l c).length≤l.length*916
 |[],_,_=>by simp[flL]
 |x::r,c,hs=>by
  obtain⟨h1,h2⟩:=Zjx r (flX S x c).2 fun z hz=>hs z (by simp[hz])
  have hx:=hs x sm;have hat:=hx.at_;have hv:=hx.tv.2.2;simp only[flL,Us,Qg,Qr,Ud];generalize flL S r (flX S x c).2=R at h1 h2⊢;by_cases hk:x.kind=1
  ·have ht:=(ZrU S).2 x.at_.args c;have hf:=((ZcI S).2 x.at_.args c).2;have hd:=defs_vars (flT.flTs S x.at_.args c).2.2;have h3:=flatMap_vars_len (flT.flTs S x.at_.args c).1;rw[Jk hk,dfX,if_pos hk];simp only[QV,Qg,Qr,Qv];have h4:(ZI {x with at_:=⟨x.at_.pred,(flT.flTs S x.at_.args c).1⟩}).length≤Tm.sz.szs (flT.flTs S x.at_.args c).1:=by
    unfold ZI;rw[if_neg (by show¬x.kind=2;omega)];exact h3
   omega
  ·rw[(VW hk).1];simp only[QV,List.flatMap_nil,Qs,Qr,QB];omega
def Zpx{cx:Cx}(hP:cx.P=prog){o:Oper}{args:List Operand}{ts:List TypeId}{tm:List (Nat×AV)}{L:List (Nat×Ze)}{H:Za}{l k:Nat}{S xs:List Str}{K:Zb→Prop}(hl:l<cx.n)(hlen:xs.length≤1000000)(hk:H l k=some (.map (encS S)))
  (ha:Yn cx.T (evT tm) args ts=[.map l k,.sl 1 (YO xs) .any]) (h:K ⟨Yk tm o.dst (.tup []),L,H.upd l k (.map (encS (ZM S xs)))⟩):ZdS cx o (.func 40) args ts ⟨tm,L,H⟩ K:=by
 obtain⟨P,T,φ,n,N⟩:=cx;dsimp only at hP ha h hl;subst hP;refine⟨40,_,_,[],.tup [],L,H.upd l k (.map (encS (ZM S xs))),rfl,Zf func40 rfl rfl,?_,.upd (WH _),h⟩;rw[Qs,ha];show Zh _ _ _ _ _ fun r' H1=>r'=_∧H1=full n L (H.upd l k _)
 rw[Yi n _ _ _ _ _ om];exact j40 (n+1) _ l k om S xs hlen (by rw[Zi hl];exact hk)
def al84:Opt:=⟨true,true,fun d=>if d=12 then .heap else if d=13 then .call else .auto,[]⟩
def Zr8{k l:Nat}(ls:List Lt)(h:ls.length≤1000000)(hk:k=13):ZkR k l (ls.map Lt.enc):=⟨by simpa using h,fun x hx=>by
 obtain⟨y,_,rfl⟩:=Qh.1 hx;subst hk;exact⟨rfl,rfl,y.blw l⟩⟩
def Zau(p q:List Lt):List AV:=(p++q).map Lt.enc++[zLit]
def _root_.Go.Abs.Ze.Zhj{n m:Nat}(p q:List Lt):Ze.Below n (.Zg 54 13 (flat (Zau p q)) m):=⟨fun c hc=>by
 obtain⟨y,hy,hc⟩:=Qz.1 hc;rcases Qj.1 hy with hy|hy
 ·obtain⟨z,_,rfl⟩:=Qh.1 hy;exact Below.cells (z.blw n) c hc
 ·rw[Qm]at hy;subst hy;exact ZjA.mem c hc,by simp[Ze.at_]⟩
def k84(n:Nat)(H:Za)(hT:Tabs H)(l bx mk lv kv kq:Nat)(hl:l<lv)(hlv:lv<n)(h0:0<l)(hkq:kv≠kq)(sp nw td:AV)(hbx:H l bx=some (.box [.map l mk,sp,nw,td]))(S:List Str)(hm:H l mk=some (.map (encS S)))
  (p q:List Lt) (x:Lt) (hx:Sm x) (hlen:(p++x::q).length≤1000000) (hv:H lv kv=some (.box [.sl 13 ((p++x::q).map Lt.enc) .any])) (hq:H lv kq=none):
  Zh prog n 84 [.int .i64 p.length,.iptr [.ptr l bx 0],.ptr lv kv 0] H fun r H'=>r= .tup []∧
   H'=((H.upd l mk (.map (encS (ZM S (ZI x))))).upd lv kq (.Zg 54 13 (flat (Zau p q)) (p++x::q).length)).upd lv kv (.box [.sub 13 lv kq (p++x::q).length 0 (p++q).length]):=by
 have hne:¬l=n:=om;have hnv:¬lv=n:=om;have hn:0<n:=om;have hll:¬lv=l:=om;have hvl:=hx.tv.2.2;refine aF func84 fun B=>?_
 refine nD al84 ?_;have hpl:p.length<(p++x::q).length:=sm;have hgx:((p++x::q).map Lt.enc).getD p.length .dead=x.enc:=sm;simp only[go_sem,simprocAttr,al84,hne,hnv,hbx,hv,hpl,hgx];refine ZbK (Zf func41 rfl rfl) (fun G hG=>j41 x hx (n+1) G om (XQ hG▸hT.full hn)) sS ?_;simp only[go_sem,simprocAttr,al84];refine Zpx rfl (k:=mk) (l:=l) (xs:=ZI x) (S:=S) (show l<n by omega) om hm (by simp only[go_sem,simprocAttr];rfl) ?_;obtain⟨H2,hH2⟩:∃H2,H2=H.upd l mk (.map (encS (ZM S (ZI x)))):=⟨_,rfl⟩
 have hv2:H2 lv kv=some (.box [.sl 13 ((p++x::q).map Lt.enc) .any]):=by rw[hH2];simp only[Za.upd,hll,false_and,if_false];exact hv
 have hq2:H2 lv kq=none:=by rw[hH2];simp only[Za.upd,hll,false_and,if_false];exact hq
 rw[←hH2];refine aS ?_;refine nq3 hne hnv hv2 ?_;have hel:ZkR 13 lv ((p++x::q).map Lt.enc):=Zr8 _ hlen rfl;refine YW (caps:=[]) (avs:=[.sl 13 ((p++x::q).map Lt.enc) .any]) rfl (Zf func86 rfl rfl) (k86 (n+1) _ _ lv kq om (by rw[Zi hlv];exact hq2) hel) sS ?_;rintro r H1 ⟨rfl,rfl⟩;refine⟨[],H2.upd lv kq (.Zg 54 13 (flat ((p++x::q).map Lt.enc)) ((p++x::q).map Lt.enc).length),(Yi n _ _ _ _ _ hnv).symm,.upd (hel.blk (show lv≤n by omega)),?_⟩;obtain⟨H3,hH3⟩:∃H3,H3=H2.upd lv kq (.Zg 54 13 (flat ((p++x::q).map Lt.enc)) ((p++x::q).map Lt.enc).length):=⟨_,rfl⟩
 rw[←hH3];have hv3:H3 lv kv=some (.box [.sl 13 ((p++x::q).map Lt.enc) .any]):=by rw[hH3];simp only[Za.upd,hkq,and_false,if_false];exact hv2
 have e1:(p++x::q).map Lt.enc=p.map Lt.enc++x.enc::q.map Lt.enc:=sm;refine aS ?_;rw[IntWalk.i64_in ((p.length:Int)+1) (by simp at hlen;omega)];have hc85:Zh prog (n+1) 85 [.msl 13 lv kq ((p++x::q).map Lt.enc).length,.int .i64 p.length,.int .i64 ((p.length:Int)+1)] (full n [] H3) fun r H'=>r= .sub 13 lv kq (p++x::q).length 0 (p++q).length∧H'=full n [] (H3.upd lv kq (.Zg 54 13 (flat (Zau p q)) (p++x::q).length)):=by
  have:=k85 (n+1) (full n [] H3) lv kq om (p.map Lt.enc) (q.map Lt.enc) x.enc (e1▸hel) (by rw[Zi hlv,hH3,e1];simp[Za.upd]);rw[←e1,Qv,Qv,Qv,←List.map_append]at this;rw[Yi n _ _ _ _ _ hnv,Qv,show(p++q).length=p.length+q.length from Qg];exact this
 refine YW (caps:=[]) (avs:=[.msl 13 lv kq ((p++x::q).map Lt.enc).length,.int .i64 p.length,.int .i64 ((p.length:Int)+1)]) rfl (Zf func85 rfl rfl) hc85 sS ?_;rintro r H1 ⟨rfl,rfl⟩;refine⟨[],H3.upd lv kq (.Zg 54 13 (flat (Zau p q)) (p++x::q).length),rfl,.upd (Ze.Zhj p q),?_⟩;refine aq2 hne hnv ?_;have hv4:(H3.upd lv kq (.Zg 54 13 (flat (Zau p q)) (p++x::q).length)) lv kv=some (.box [.sl 13 ((p++x::q).map Lt.enc) .any]):=by simp only[Za.upd,hkq,and_false,if_false];exact hv3
 refine aq2 hnv hv4 ?_;refine⟨.inr (Ze.Zy ⟨.sub _ _ _ _ _ _ hlv,trivial⟩),?_⟩;refine nN ?_;exact⟨by simp[XW],[],trivial,sm,rfl,by rw[hH3,hH2,Za.Zap]⟩
def WM{P:Program}{T:TT}{n:Nat}{t u ty y:Nat}{a v c:AV}{H:Za}{s:Zb}(r:Zu)(l k off:Nat)(cs:List AV)(h1:lkv s.tmps u= .ptr l k off)(h2:full n s.L s.H l k=some (.box cs))(h3:T ty=some r)
  (h4:off+r.size≤cs.length) (h5:r.isAgg=false→off<cs.length) (ha:Wk (lkv s.tmps t) a) (hv:Wk (if r.isAgg then .agg ((cs.drop off).take r.size)else(cs.drop off).getD 0 .dead) v) (hy:Wk (lkv s.tmps y) c) (b1:Below n a) (b2:Below n v) (b3:Below n c) (hH:s.H=H):
  PostF P T n [.tmp t,.cell u ty,.tmp y] (fun r' H'=>r'= .tup [a,v,c]∧H'=H) .ret s:=by
 refine⟨?_,[a,v,c],⟨ha,?_,hy,trivial⟩,by simp[b1,b2,b3],rfl,hH⟩
 ·intro x hx;simp only[Qk,QA,or_false]at hx;rcases hx with rfl|rfl|rfl
  ·simp[XW]
  ·simp only[XW];exact⟨l,k,off,cs,r,h1,h2,h3,h4,h5⟩
  ·simp[XW]
 ·simp only[Zde,h1,h2,h3];rw[if_pos ⟨h4,h5⟩];exact hv
def ZaR(S:List Str)(x:Lt):Str×Tm×Bool:=
 if WQ S (Z7 x.L)&&WQ S (Z7 x.R)then([],tm0,true)
 else if x.op=1∧WQ S (Z7 x.R)=true∧x.L.kind=3 then(x.L.name,x.R,true)
 else if x.op=1∧WQ S (Z7 x.L)=true∧x.R.kind=3 then(x.R.name,x.L,true)
 else([],tm0,false)
def ZnO(S:List Str)(x:Lt)(hk:x.kind=2):YZ S x=if(ZaR S x).2.2=true then some (if(ZaR S x).1=[]then .test x else .bind (ZaR S x).1 (ZaR S x).2.1)else none:=by
 unfold YZ ZaR;rw[if_pos hk];split
 ·simp
 ·split
  ·simp
  ·split<;>simp
def j87(n:Nat)(H:Za)(l bx lm mk:Nat)(hl:l<n)(hlm:lm<n)(sp nw td:AV)(hbx:H l bx=some (.box [.map lm mk,sp,nw,td]))(S:List Str)(hm:H lm mk=some (.map (encS S)))(x:Lt)(hx:Sm x):
  PC prog n 87 [.ptr l bx 0,x.enc] H (.tup [.str (ZaR S x).1,(ZaR S x).2.1.enc,.bool (ZaR S x).2.2]):=by
 have hne:¬l=n:=om;have hnm:∀t:Tm,t.Good∧t.sz≤305→(nmT t).length≤1000000∧(Z7 t).length≤1000000:=fun t h=>by
  have:=nm_len.1 t;have:=Zea t;have:=h.2;constructor<;>omega
 obtain⟨n1,n2⟩:=hnm x.L ⟨hx.good.L,hx.L⟩;obtain⟨n3,n4⟩:=hnm x.R ⟨hx.good.R,hx.R⟩;have hmf:∀L,full n L H lm mk=some (.map (encS S)):=fun L=>by rw[Zi hlm];exact hm
 have hr:ZaR S x=if WQ S (Z7 x.L)&&WQ S (Z7 x.R)then([],tm0,true)
  else if x.op=1∧WQ S (Z7 x.R)=true∧x.L.kind=3 then(x.L.name,x.R,true)
  else if x.op=1∧WQ S (Z7 x.L)=true∧x.R.kind=3 then(x.R.name,x.L,true)
  else([],tm0,false):=rfl
 refine aF func87 fun B=>?_
 refine nR ?_;refine nD drawO ?_;refine aq2 hne hbx ?_;refine cP (j56 x.L hx.good.L n1) ?_;refine cQ (j48 (n+1) _ lm mk om S (Z7 x.L) n2 (hmf _)) ?_;simp only[go_sem,simprocAttr,hne,hbx];refine cP (j56 x.R hx.good.R n3) ?_;refine cQ (j48 (n+1) _ lm mk om S (Z7 x.R) n4 (hmf _)) ?_;simp only[go_sem,simprocAttr,hne,hbx];generalize WQ S (Z7 x.L)=p at hr⊢;generalize WQ S (Z7 x.R)=q at hr⊢;repeat refine kn rfl ?_
 cases p with
 |true=>
  cases q with
  |true=>
   have hr:ZaR S x=([],tm0,true):=by rw[hr];rfl
   refine nR ?_;refine gj ?_;rw[hr];exact WM _ n 5 0 [.int .u8 0,.int .i64 0,.str [],.sl 4 [] .full] sS sF rfl (Qd _) sS (.refl _) zero_tm (.refl _) (.str _) (Tm.blw _ _) (.bool _) rfl
  |false=>
   refine nR ?_;refine nF ?_;cases h1:(x.op==1)with
   |false=>
    have o1:¬x.op=1:=by simpa using h1
    have hr:ZaR S x=([],tm0,false):=by rw[hr];simp[o1]
    refine nq h1 ?_;refine nF ?_;refine nq h1 ?_;refine gF ?_;rw[hr];exact WM _ n 5 0 [.int .u8 0,.int .i64 0,.str [],.sl 4 [] .full] sS sF rfl (Qd _) sS (.refl _) zero_tm (.refl _) (.str _) (Tm.blw _ _) (.bool _) rfl
   |true=>
    have o1:x.op=1:=by simpa using h1
    cases h2:(x.R.kind==3)with
    |false=>
     have o2:¬x.R.kind=3:=by simpa using h2
     have hr:ZaR S x=([],tm0,false):=by rw[hr];simp[o2]
     refine nq2 h1 h2 ?_;refine nF ?_;refine nq2 h1 h2 ?_;refine gF ?_;rw[hr];exact WM _ n 5 0 [.int .u8 0,.int .i64 0,.str [],.sl 4 [] .full] sS sF rfl (Qd _) sS (.refl _) zero_tm (.refl _) (.str _) (Tm.blw _ _) (.bool _) rfl
    |true=>
     have o2:x.R.kind=3:=by simpa using h2
     have hr:ZaR S x=(x.R.name,x.L,true):=by rw[hr];simp[o1,o2]
     refine nq2 h1 h2 ?_;refine nF ?_;refine nq2 h1 h2 ?_;refine nT ?_;refine XK tok mixed drawO rfl rfl rfl ?_;refine gw ?_;rw[hr];exact WM _ n 5 0 (x.L).cs sS sF rfl (Qd _) sS (.refl _) (by simp only[go_sem,simprocAttr];exact .refl _) (.refl _) (.str _) (Tm.blw _ _) (.bool _) rfl
 |false=>
  cases q with
  |true=>
   refine nR ?_;refine nF ?_;cases h1:(x.op==1)with
   |false=>
    have o1:¬x.op=1:=by simpa using h1
    have hr:ZaR S x=([],tm0,false):=by rw[hr];simp[o1]
    refine nq h1 ?_;refine nF ?_;refine nq h1 ?_;refine gF ?_;rw[hr];exact WM _ n 5 0 [.int .u8 0,.int .i64 0,.str [],.sl 4 [] .full] sS sF rfl (Qd _) sS (.refl _) zero_tm (.refl _) (.str _) (Tm.blw _ _) (.bool _) rfl
   |true=>
    have o1:x.op=1:=by simpa using h1
    cases h2:(x.L.kind==3)with
    |false=>
     have o2:¬x.L.kind=3:=by simpa using h2
     have hr:ZaR S x=([],tm0,false):=by rw[hr];simp[o2]
     refine nq2 h1 h2 ?_;refine nF ?_;refine nq2 h1 h2 ?_;refine gF ?_;rw[hr];exact WM _ n 5 0 [.int .u8 0,.int .i64 0,.str [],.sl 4 [] .full] sS sF rfl (Qd _) sS (.refl _) zero_tm (.refl _) (.str _) (Tm.blw _ _) (.bool _) rfl
    |true=>
     have o2:x.L.kind=3:=by simpa using h2
     have hr:ZaR S x=(x.L.name,x.R,true):=by rw[hr];simp[o1,o2]
     refine nq2 h1 h2 ?_;refine nT ?_;refine XK tok mixed drawO rfl rfl rfl ?_;refine gw ?_;rw[hr];exact WM _ n 5 0 (x.R).cs sS sF rfl (Qd _) sS (.refl _) (by simp only[go_sem,simprocAttr];exact .refl _) (.refl _) (.str _) (Tm.blw _ _) (.bool _) rfl
  |false=>
   refine nR ?_;refine nF ?_;cases h1:(x.op==1)with
   |false=>
    have o1:¬x.op=1:=by simpa using h1
    have hr:ZaR S x=([],tm0,false):=by rw[hr];simp[o1]
    refine nq h1 ?_;refine nF ?_;refine nq h1 ?_;refine gF ?_;rw[hr];exact WM _ n 5 0 [.int .u8 0,.int .i64 0,.str [],.sl 4 [] .full] sS sF rfl (Qd _) sS (.refl _) zero_tm (.refl _) (.str _) (Tm.blw _ _) (.bool _) rfl
   |true=>
    have o1:x.op=1:=by simpa using h1
    have hr:ZaR S x=([],tm0,false):=by rw[hr];simp
    refine nq h1 ?_;refine nF ?_;refine nq h1 ?_;refine gF ?_;rw[hr];exact WM _ n 5 0 [.int .u8 0,.int .i64 0,.str [],.sl 4 [] .full] sS sF rfl (Qd _) sS (.refl _) zero_tm (.refl _) (.str _) (Tm.blw _ _) (.bool _) rfl
def k88(hE:ExpOK)(n:Nat)(H:Za)(hT:Tabs H)(hn:0<n)(l b:Nat)(hl:l<n)(mp sp td:AV)(now:List Bnd)(hnow:now.length≤1000000)(hbx:H l b=some (prB mp sp now td))(hmp:Below n mp∧Below n sp∧Below n td)(x:Lt)(hop:0≤x.op∧x.op≤255)
  (hx:∀c∈now,BT c x.L∧BT c x.R):Zh prog n 88 [.iptr [.ptr l b 0],.iptr x.cs] H fun r H'=>r=eInt (Go.Abs.Xk (V6 x) now).2∧H'=H.upd l b (prB mp sp (Go.Abs.Xk (V6 x) now).1 td):=by
 have hne:l≠n:=om;refine aF func88 fun B=>?_
 refine gc ?_;refine YW (caps:=[]) (avs:=[.ptr l b 0,x.enc]) rfl (Zf func89 rfl rfl) (j89 hE (n+1) _ (hT.full hn) om l b om mp sp td now hnow (by rw[Zi hl];exact hbx) ⟨hmp.1.mono om,hmp.2.1.mono om,hmp.2.2.mono om⟩ x hop hx) sS ?_;rintro r H1 ⟨rfl,rfl⟩;refine⟨[],H.upd l b (prB mp sp (Go.Abs.Xk (V6 x) now).1 td),(Yi n _ H l b _ hne).symm,.upd (Ze.Zy ⟨hmp.1,hmp.2.1,Zw _,hmp.2.2,trivial⟩),?_⟩;refine gw ?_;exact Zn (.refl _) (.int _ _) ⟨rfl,rfl⟩
def k90(hE:ExpOK)(n:Nat)(H:Za)(hT:Tabs H)(hn:0<n)(l b:Nat)(hl:l<n)(mp sp td:AV)(now:List Bnd)(hnow:now.length≤1000000)(hbx:H l b=some (prB mp sp now td))(hmp:Below n mp∧Below n sp∧Below n td)(s:Str)(t:Tm)(ht:∀c∈now,BT c t):
  Zh prog n 90 [.iptr [.ptr l b 0],.iptr [.str s],.iptr t.cs] H fun r H'=>r=eInt (Go.Abs.Xk (Zbk s t) now).2∧H'=H.upd l b (prB mp sp (Go.Abs.Xk (Zbk s t) now).1 td):=by
 have hne:l≠n:=om;refine aF func90 fun B=>?_
 refine gc ?_;refine YW (caps:=[]) (avs:=[.ptr l b 0,.str s,t.enc]) rfl (Zf func91 rfl rfl) (j91 hE (n+1) _ (hT.full hn) om l b om mp sp td now hnow (by rw[Zi hl];exact hbx) ⟨hmp.1.mono om,hmp.2.1.mono om,hmp.2.2.mono om⟩ s t ht) sS ?_;rintro r H1 ⟨rfl,rfl⟩;refine⟨[],H.upd l b (prB mp sp (Go.Abs.Xk (Zbk s t) now).1 td),(Yi n _ H l b _ hne).symm,.upd (Ze.Zy ⟨hmp.1,hmp.2.1,Zw _,hmp.2.2,trivial⟩),?_⟩;refine gw ?_;exact Zn (.refl _) (.int _ _) ⟨rfl,rfl⟩
def k92(n:Nat)(H:Za)(hT:Tabs H)(hn:0<n)(l bx ls bs:Nat)(hl:l<n)(hls:ls<l)(mp td:AV)(now:List Bnd)(hnow:now.length≤1000000)(hbx:H l bx=some (prB mp (.ptr ls bs 0) now td))(hmp:Below n mp∧Below n td)(s:Sto)(hs:ZV H ls bs s)(hok:Ok s)(x:Lt)(hx:∀c∈now,BA c x.at_):
  Zh prog n 92 [.iptr [.ptr l bx 0],.iptr x.cs] H fun r H'=>r=eInt (Go.Abs.Xk (atS s.A x.at_) now).2∧H'=H.upd l bx (prB mp (.ptr ls bs 0) (Go.Abs.Xk (atS s.A x.at_) now).1 td):=by
 have hne:l≠n:=om;refine aF func92 fun B=>?_
 refine gc ?_;refine YW (caps:=[]) (avs:=[.ptr l bx 0,x.at_.enc]) rfl (Zf func93 rfl rfl) (j93 (n+1) _ (hT.full hn) om l bx ls bs om om mp td now hnow (by rw[Zi hl];exact hbx) ⟨hmp.1.mono om,hmp.2.mono om⟩ s (fun k x hk=>by rw[Zi om];exact hs k x hk) hok x.at_ hx) sS ?_;rintro r H1 ⟨rfl,rfl⟩;refine⟨[],H.upd l bx (prB mp (.ptr ls bs 0) (Go.Abs.Xk (atS s.A x.at_) now).1 td),(Yi n _ H l bx _ hne).symm,.upd (Ze.Zy ⟨hmp.1,.ptr _ _ _ (show ls<n by omega),Zw _,hmp.2,trivial⟩),?_⟩;refine gw ?_;exact Zn (.refl _) (.int _ _) ⟨rfl,rfl⟩
def k94(n:Nat)(H:Za)(hT:Tabs H)(hn:0<n)(l bx mk:Nat)(hl:l<n)(sp nw td:AV)(hbx:H l bx=some (.box [.map l mk,sp,nw,td]))(S:List Str)(hm:H l mk=some (.map (encS S)))(x:Lt)(hx:Sm x):
  PC prog n 94 [x.enc,.iptr [.ptr l bx 0]] H (.bool (!XT S x)):=by
 have hne:¬l=n:=om;have hvl:=hx.tv.2.2;refine aF func94 fun B=>?_
 refine nR ?_;have hb:XT S x=(!(x.kind==2)&&WQ S (ZI x)):=rfl;cases hk:(x.kind==2)with
 |true=>
  rw[hb,hk];refine XK tok mixed drawO rfl rfl rfl ?_;simp -implicitDefEqProofs (maxSteps:=1000000) only[go_sem,simprocAttr,hne,hbx,hk];exact pB
 |false=>
  rw[hb,hk];refine XK tok mixed drawO rfl rfl rfl ?_;simp -implicitDefEqProofs (maxSteps:=1000000) only[go_sem,simprocAttr,hne,hbx,hk];refine cT (j41 x hx) ?_;refine ZkQ (Zf func48 rfl rfl) (j48 (n+1) _ l mk om S (ZI x) om (by rw[Zi hl];exact hm)) (by simp only[go_sem,simprocAttr];rfl) ?_;refine aS ?_;exact pB
def Zch(A:List Am):List Stp→List Bnd→Nat→List Bnd
 |_,now,0=>now
 |[],now,_+1=>now
 |s::r,now,i+1=>Zch A r (Go.Abs.Xk (stepS A s) now).1 i
def Zee(A:List Am):∀(p:List Stp) (now:List Bnd) (i:Nat) (h:i<p.length),Zch A p now (i+1)=(Go.Abs.Xk (stepS A p[i]) (Zch A p now i)).1
 |s::r,now,0,_=>by
  cases r<;>rfl
 |s::r,now,i+1,h=>by
  have:=Zee A r (Go.Abs.Xk (stepS A s) now).1 i (by simpa using h);exact this
structure Zj2 (A:List Am) (p:List Stp) (S0:List Str) (now:List Bnd) (i:Nat):Prop where
 eq:Vb A p now=Vb A (p.drop i) (Zch A p now i)
 ok:∀b∈Zch A p now i,ZO b∧ ∀n,n∈Zo b↔n∈S0++(p.take i).flatMap varS
 rdy:Rdy (S0++(p.take i).flatMap varS) (p.drop i)
 len:(Zch A p now i).length≤20001
def Zmw(f:Bnd→List Bnd×Int)(now:List Bnd):(Go.Abs.Xk f now).1.length≤20001:=by
 have:∀(q:List Bnd) (p:List Bnd×Int),p.1.length≤20001→(q.foldl (fun p b=>Wh p (f b)) p).1.length≤20001:=by
  intro q;induction q with
  |nil=>intro p h;exact h
  |cons x q ih=>
   intro p _;refine ih _ ?_;simp only[Wh,Zgi];split
   ·rw[QJ];omega
   ·omega
 exact this now ([],0) sm
section
variable {i:Nat} {S0:List Str} {p:List Stp} {A:List Am}
def Zj2.step(hA:∀a∈A,Ym a=true){now:List Bnd}(h:Zj2 A p S0 now i)(hi:i<p.length)(h0:(Go.Abs.Xk (stepS A p[i]) (Zch A p now i)).2=0):Zj2 A p S0 now (i+1):=by
 have hd:p.drop i=p[i]::p.drop (i+1):=Qw hi;have hs:=Zee A p now i hi;have hr:=h.rdy;rw[hd]at hr;have ht:S0++(p.take (i+1)).flatMap varS=(S0++(p.take i).flatMap varS)++varS p[i]:=by
  rw[Qn hi,Us,Q9];simp
 refine⟨?_,fun b hb=>?_,by rw[ht];exact hr.2,by rw[hs];exact Zmw _ _⟩
 ·rw[h.eq,hd,Vb,if_pos h0,hs]
 ·rw[hs]at hb;obtain⟨hz,heq⟩:=ZmT h0;rw[heq,Qz]at hb;obtain⟨c,hc,hb⟩:=hb;obtain⟨hg,hdm⟩:=h.ok c hc;obtain⟨g,_,hd2,_⟩:=(ZgL hA hg (JZ (fun n=>(hdm n).symm) hr.1) (hz c hc) b).1 hb;exact⟨g,fun n=>by rw[hd2,hdm,ht];exact Qj.symm⟩
def plG_made:∀(f:Nat) (S:List Str) (l:List Lt),(∀x∈l,okX x)→ ∀q∈(plG f S l).1,q.2∈l∧Vp q.1 q.2
 |0,_,_,_,_,h=>by cases h
 |f+1,S,l,ho,q,h=>by
  unfold plG at h;split at h
  ·cases h
  ·rename_i s x r hn;obtain⟨h1,_,h3⟩:=Zhc ho hn;rcases Qk.1 h with rfl|h
   ·exact⟨h3.mem_iff.2 sm,h1⟩
   ·have:=plG_made f _ r (fun y hy=>ho y (h3.mem_iff.2 (by simp[hy]))) q h;exact⟨h3.mem_iff.2 (by simp[this.1]),this.2⟩
def fnF:Stp×Lt→Nat
 |(.test _,_)=>88
 |(.bind _ _,_)=>90
 |(.atom _,_)=>92
def fnC(l bx:Nat):Stp×Lt→List AV
 |(.test x,_)=>[.iptr [.ptr l bx 0],.iptr x.cs]
 |(.bind s t,_)=>[.iptr [.ptr l bx 0],.iptr [.str s],.iptr t.cs]
 |(.atom _,x)=>[.iptr [.ptr l bx 0],.iptr x.cs]
def Zqz(q:Stp×Lt):∃fn c,Fun prog (fnF q) fn c:=by
 obtain⟨s,x⟩:=q;cases s with
 |test y=>exact⟨_,_,Zf func88 rfl rfl⟩
 |bind s t=>exact⟨_,_,Zf func90 rfl rfl⟩
 |atom a=>exact⟨_,_,Zf func92 rfl rfl⟩
def ZtQ(hE:ExpOK)(n:Nat)(H:Za)(hT:Tabs H)(hn:0<n)(l bx ls bs:Nat)(hl:l<n)(hls:ls<l)(mp td:AV)(now:List Bnd)(hnow:now.length≤1000000)(hbx:H l bx=some (prB mp (.ptr ls bs 0) now td))(hmp:Below n mp∧Below n td)(s:Sto)(hs:ZV H ls bs s)(hok:Ok s)
  (q:Stp×Lt) (hm:Vp q.1 q.2) (hx:Sm q.2) (hop:0≤q.2.op∧q.2.op≤255) (hok2:∀c∈now,ZO c∧c.length≤100000∧Ready (Zo c) q.1):
  Zh prog n (fnF q) (fnC l bx q) H fun r H'=>r=eInt (Go.Abs.Xk (stepS s.A q.1) now).2∧H'=H.upd l bx (prB mp (.ptr ls bs 0) (Go.Abs.Xk (stepS s.A q.1) now).1 td):=by
 obtain⟨st,x⟩:=q;cases st with
 |test y=>
  obtain⟨rfl,hk⟩:=hm;refine k88 hE n H hT hn l bx hl mp (.ptr ls bs 0) td now hnow hbx ⟨hmp.1,.ptr _ _ _ om,hmp.2⟩ y hop fun c hc=>?_
  obtain⟨g,hl,hr⟩:=hok2 c hc;exact⟨⟨g,hl,hx.good.L,hx.L,fun n hn=>hr n (QC _ hn)⟩,⟨g,hl,hx.good.R,hx.R,fun n hn=>hr n (QL _ hn)⟩⟩
 |bind nm t=>
  obtain⟨hk,ho1,hc⟩:=hm;dsimp only at hc hx;refine k90 hE n H hT hn l bx hl mp (.ptr ls bs 0) td now hnow hbx ⟨hmp.1,.ptr _ _ _ om,hmp.2⟩ nm t fun c hc2=>?_
  obtain⟨g,hl,hr⟩:=hok2 c hc2;rcases hc with⟨_,_,rfl⟩|⟨_,_,rfl⟩
  ·exact⟨g,hl,hx.good.R,hx.R,hr.2⟩
  ·exact⟨g,hl,hx.good.L,hx.L,hr.2⟩
 |atom a=>
  obtain⟨hk,hng,e⟩:=hm;dsimp only at e hx;subst e;refine k92 n H hT hn l bx ls bs hl hls mp td now hnow hbx hmp s hs hok x fun c hc2=>?_
  obtain⟨g,hl,hr⟩:=hok2 c hc2;exact⟨g,hl,hx.good.at_,hx.at_⟩
structure Zd3 (l:List Lt) (b:Bnd) (F:List Lt):Prop where
 sm:∀y∈F,Sm y
 op:∀y∈F,0≤y.op∧y.op≤255
 ok:∀y∈F,okX y
 len:F.length≤9160
 vars:(F.flatMap ZI).length≤15250
variable {b:Bnd} {l:List Lt}
def Zfr(hl:l.length≤10)(hs:∀x∈l,Sm x)(hb:b.length≤1000):(ZR l b).length≤7100:=by
 have h2:(l.flatMap ZI).length≤l.length*610:=by
  clear hl;induction l with
  |nil=>simp
  |cons x r ih=>
   have:=(hs x sm).tv.2.2;have:=ih fun y hy=>hs y (by simp[hy])
   rw[QV,Qg,Qr];omega
 unfold ZR;rw[Qg];have h3:(Zo b).length=b.length:=by simp[Zo]
 omega
def Zrs(hl:l.length≤10)(hs:∀x∈l,Sm x)(hop:∀x∈l,0≤x.op∧x.op≤255)(hb:b.length≤1000)(hv:l.all Yq=true):Zd3 l b (XO l (ZR l b)):=by
 have h1:=Zfr hl hs hb;have h2:(l.flatMap fun x=>(Yz x).flatMap Z7).length≤l.length*915:=by
  clear h1 hl hop hv;induction l with
  |nil=>simp
  |cons x r ih=>
   have:=ZfD (hs x sm);have:=ih fun y hy=>hs y (by simp[hy])
   rw[QV,Qg,Qr];omega
 have hsm:=ZpC (S:=ZR l b++l.flatMap fun x=>(Yz x).flatMap Z7) (by rw[Qg];omega) l 0 hs (by
  have h3:l.length*(305*((ZR l b++l.flatMap fun x=>(Yz x).flatMap Z7).length+2))≤10*(305*20002):=QaR hl (Qan _ (by rw[Qg];omega));omega)
 have hvl:=Zjx (S:=ZR l b++l.flatMap fun x=>(Yz x).flatMap Z7) l 0 hs;refine⟨fun y hy=>(hsm y hy).1,fun y hy=>?_,Zga 0 fun x hx=>(Zcc (Qx.1 hv x hx)).1,by have:=hvl.2;unfold XO;omega,by have:=hvl.1;unfold XO;omega⟩;rcases(hsm y hy).2 with h|⟨x,hx,e⟩
 ·exact h
 ·rw[e];exact hop x hx
variable {S1:List Str}
def Zhi(hv:l.all Yq=true)(hvb:validB b=true)(hS0:∀x,x∈S0↔x∈Zo b){D:List (Stp×Lt)}{R:List Lt}
  (hP:plG (XO l (ZR l b)).length S0 (XO l (ZR l b))=(D,S1,R)):
  ZN A l b=if R.all (XT S1)then(if(Vb A (D.map Prod.fst) [b]).2=0 then(XH YI ((Vb A (D.map Prod.fst) [b]).1.map (VX (ZR l b))),0)else([],(Vb A (D.map Prod.fst) [b]).2))else([],120):=by
 obtain⟨h1,h2,h3⟩:=plG_planF (XO l (ZR l b)).length S0 (Zo b) (XO l (ZR l b)) hS0;rw[hP]at h1 h2 h3;dsimp only at h1 h2 h3;have hj:ZN A l b=match VA (Zo b) (XO l (ZR l b))with
   |none=>([],eUnsafe)
   |some p=>if(Vb A p [b]).2=0 then(XH YI ((Vb A p [b]).1.map (VX (ZR l b))),0)else([],(Vb A p [b]).2):=by
  unfold ZN;rw[hv,hvb];rfl
 rw[hj];unfold VA;simp only;rw[←h1,←h3,ZdI fun n=>(h2 n).symm];cases R.all (XT S1)<;>rfl
variable {F:List Lt}
def ZnJ(hF:Zd3 l b F)(hvb:validB b=true)(hS0:∀x,x∈S0↔x∈Zo b){D:List (Stp×Lt)}{X:List Str×List Lt}(hP:plG F.length S0 F=(D,X)):
  Zj2 A (D.map Prod.fst) (Zo b) [b] 0∧(∀q∈D,q.2∈F∧Vp q.1 q.2)∧D.length≤F.length∧ ∀n∈(D.map Prod.fst).flatMap varS,n∈F.flatMap ZI:=by
 obtain⟨h1,_,_⟩:=plG_planF F.length S0 (Zo b) F hS0;obtain⟨T,a1,a2,a3,_,_⟩:=plan_spec F.length (Zo b) F hF.ok;rw[←h1,hP]at a2 a3;have hm:=plG_made F.length S0 F hF.ok;rw[hP]at hm;have hTF:∀y∈T,y∈F:=fun y hy=>a1.mem_iff.2 (QC _ hy)
 refine⟨⟨by simp[Zch],fun c hc=>?_,by simpa using a3,by simp[Zch]⟩,hm,?_,fun n hn=>?_⟩
 ·simp only[Zch,Qm]at hc;subst hc;exact⟨validB_good hvb,fun n=>by simp⟩
 ·have e1:=a2.len;have e2:=a1.length_eq;rw[Qv]at e1;rw[Qg]at e2;dsimp only at e1;omega
 ·obtain⟨y,hy,hn⟩:=Qz.1 ((fa_vars a2 (fun y hy=>hF.ok y (hTF y hy)) n).1 hn);exact Qz.2 ⟨y,hTF y hy,hn⟩
def ZnM(hS0:∀x,x∈S0↔x∈Zo b){D:List (Stp×Lt)}{R:List Lt}(hP:plG F.length S0 F=(D,S1,R))(hb:R.all (XT S1)=true):VA (Zo b) F=some (D.map Prod.fst):=by
 obtain⟨h1,h2,h3⟩:=plG_planF F.length S0 (Zo b) F hS0;rw[hP]at h1 h2 h3;dsimp only at h1 h2 h3;unfold VA;simp only;rw[←h1,←h3,ZdI fun n=>(h2 n).symm,hb];rfl
def Zp0(ho:∀x∈l,okX x)(hp:VA (Zo b) (XO l (ZR l b))=some p){c:Bnd}(g:ZO c)(hd:∀n,n∈Zo c↔n∈Zo b++p.flatMap varS):XV (ZR l b) (VX (ZR l b) c):=by
 let S:=ZR l b++l.flatMap fun x=>(Yz x).flatMap Z7
 have hoF:∀y∈flL S l 0,okX y:=Zga 0 ho;have hp':VA (Zo b) (flL S l 0)=some p:=hp;obtain⟨m1,m2,m3⟩:=Zel hoF hp';refine⟨g.filter _,fun n=>?_⟩;rw[Zc6];refine⟨fun h=>h.1,fun h=>⟨h,(hd n).2 ?_⟩⟩;rw[Qj,m2,ZbE S l 0 n];rcases Qj.1 h with h|h
 ·exact .inr (.inl h)
 ·exact .inl h
def ZlT{S T:List Str}(h:∀n,n∈S↔n∈T)(c:Bnd):VX S c=VX T c:=by
 unfold VX;congr 1
 funext q;exact decide_eq_decide.2 (h q.1)
def Zm9(hF:Zd3 l b F)(hb:b.length≤1000)(hp:∀n∈p.flatMap varS,n∈F.flatMap ZI)(h:Zj2 A p (Zo b) [b] i):∀c∈Zch A p [b] i,c.length≤100000:=fun c hc=>by
 obtain⟨g,hd⟩:=h.ok c hc;have hnd:(Zo c).Nodup:=(ZcX g.asc).imp fun h e=>by rw[e,cmpBytes_self]at h;omega
 have:=Xm hnd (q:=Zo b++F.flatMap ZI) fun n hn=>by
  rcases Qj.1 ((hd n).1 hn)with h|h
  ·exact QC _ h
  ·obtain⟨s,hs,h⟩:=Qz.1 h;exact QL _ (hp n (Qz.2 ⟨s,UR hs,h⟩))
 rw[Qg]at this;have h2:=hF.vars;have h3:(Zo b).length=b.length:=by simp[Zo]
 have h4:(Zo c).length=c.length:=by simp[Zo]
 omega
def Zj2.use(hF:Zd3 l b F)(hb:b.length≤1000)(hp:∀n∈p.flatMap varS,n∈F.flatMap ZI)(h:Zj2 A p (Zo b) [b] i)(hi:i<p.length):∀c∈Zch A p [b] i,ZO c∧c.length≤100000∧Ready (Zo c) p[i]:=fun c hc=>by
 obtain⟨g,hd⟩:=h.ok c hc;have hr:=h.rdy;rw[Qw hi]at hr;exact⟨g,Zm9 hF hb hp h c hc,JZ (fun n=>(hd n).symm) hr.1⟩
end
end Go.Proofs.YtmdeagmbfhbbnaaGreatDoorR

namespace Go.Abs
section
variable {P:Program} {b:Frame} {a:Act} {k:List Item} {cs:List Frame} {w:World}
def XZ{c:Code}:step P (lone (b.atR a (.code (.scope c)::k)) cs w)= .next (lone (b.atR a (.code c:: .inScope c::k)) cs w):=
 step_lone_go (by simp[stepG,stepG.exec,Frame.atR])
def Zcn{c:Code}:step P (lone (b.atR a (.inScope c::k)) cs w)= .next (lone (b.atR a k) cs w):=
 step_lone_go (by simp[stepG,stepG.exec,Frame.atR])
end
def Zei{F:Fence}{n:Nat}{P:Program}{Q:Exit→Act→World→Prop}{a:Act}{w:World}{c rest:Code}(l:Nat)(J:Act→World→Prop)(μ:Act→World→Nat)(hf:findLabel c l=some rest)
  (first:c.wpIn F n P (Exit.jump l J Q) a w)
  (pass:∀a w,J a w→rest.wpIn F n P (Exit.jump l (fun a' w'=>J a' w'∧μ a' w'<μ a w) Q) a w):(Code.scope c).wpIn F n P Q a w:=by
 intro b k cs hro hb hr;have hg:gotoIn l (.inScope c::k)=some (.code rest:: .inScope c::k):=by simp[gotoIn,hf]
 have h0:∀{a:Act} {w:World},(lone (b.atR a (.code (.scope c)::k)) cs w).fenced P F:=fenced_calm hb hr rfl;have h1:∀{a:Act} {w:World},(lone (b.atR a (.inScope c::k)) cs w).fenced P F:=fenced_calm hb hr rfl;have hxt:∀{id:Nat},exitTo id (.inScope c::k)=exitTo id k:=by simp[exitTo]
 have key:∀m a w,μ a w=m→J a w→ ∃e a' w',Q e a' w'∧ArrivesIn (Machine.fenced P F) P (lone (b.atR a (.code rest:: .inScope c::k)) cs w) b k cs e a' w':=by
  intro m;induction m using Nat.strongRecOn with
  |_ m ih=>
   intro a w hn hJ;obtain⟨e,a₁,w₁,hq,harr⟩:=pass a w hJ b (.inScope c::k) cs hro hb hr;cases e with
   |normal=>exact⟨.normal,a₁,w₁,hq,StepsIn.trans harr (.one h1 Zcn)⟩
   |exit id=>exact⟨_,a₁,w₁,hq,fun k' hk=>harr.1 k' (by rw[hxt];exact hk),fun hr' hk=>harr.2 hr' (by rw[hxt];exact hk)⟩
   |goto l'=>
    obtain⟨rfl,hJ',hlt⟩:=hq;obtain⟨e₂,a₂,w₂,hq₂,harr₂⟩:=ih _ om a₁ w₁ rfl hJ';exact⟨e₂,a₂,w₂,hq₂,.of_steps (harr.1 _ hg) harr₂⟩
   |ret=>exact⟨_,a₁,w₁,hq,harr⟩
   |panic ch=>exact⟨_,a₁,w₁,hq,harr⟩
   |outgrown=>exact⟨_,a₁,w₁,hq,harr⟩
 obtain⟨e,a₁,w₁,hq,harr⟩:=first b (.inScope c::k) cs hro hb hr
 cases e with
 |normal=>exact⟨.normal,a₁,w₁,hq,.head h0 XZ (StepsIn.trans harr (.one h1 Zcn))⟩
 |exit id=>exact⟨_,a₁,w₁,hq,fun k' hk=>.head h0 XZ (harr.1 k' (by rw[hxt];exact hk)),fun hr' hk=>let⟨k₁,h2,h3⟩:=harr.2 hr' (by rw[hxt];exact hk);⟨k₁,h2,.head h0 XZ h3⟩⟩
 |goto l'=>
  obtain⟨rfl,hJ'⟩:=hq;obtain⟨e₂,a₂,w₂,hq₂,harr₂⟩:=key _ a₁ w₁ rfl hJ';exact⟨e₂,a₂,w₂,hq₂,.of_steps (.head h0 XZ (harr.1 _ hg)) harr₂⟩
 |ret=>exact⟨_,a₁,w₁,hq,.of_steps (.one h0 XZ) harr⟩
 |panic ch=>exact⟨_,a₁,w₁,hq,.of_steps (.one h0 XZ) harr⟩
 |outgrown=>exact⟨_,a₁,w₁,hq,.of_steps (.one h0 XZ) harr⟩
def JQ(l:Nat)(J:Zb→Prop)(Q:Exit→Zb→Prop):Exit→Zb→Prop:=fun e s=>match e with
 | .goto l'=>l'=l∧J s
 |e=>Q e s
def Zo8{P:Program}{φ:Fm}{n N:Nat}{c rest:Code}{k:List Itm}{Q:Exit→Zb→Prop}{s:Zb}(l:Nat)(I:Nat→Zb→Prop)(hf:findLabel c l=some rest)
  (first:AK P φ n N [.code c] (JQ l (fun s'=>∃m s'',AWk n N s' s''∧I m s'') (AX P φ n N Q k)) s)
  (pass:∀m s,I m s→AK P φ n N [.code rest] (JQ l (fun s'=>∃m' s'',m'<m∧AWk n N s' s''∧I m' s'') (AX P φ n N Q k)) s):
  AK P φ n N (.code (.scope c)::k) Q s:=fun E w a hs=>by
 classical
 let M (a:Act) (w':World) (m:Nat):Prop:=∃s' E',I m s'∧Yo φ.B n N s' E' a w'∧Ext n E w E' w'
 let μ (a:Act) (w':World):Nat:=if h:∃m,M a w' m then Classical.choose (least h)else 0
 refine Zei l (fun a w'=>∃m,M a w' m) μ hf ?_ ?_
 ·refine wpIn_mono (first E w a hs) ?_;rintro e a2 w2 ⟨s2,E2,hQ,hs2,hx2⟩;cases e with
  |goto l'=>
   obtain⟨rfl,m,s3,hwk,hI⟩:=hQ;obtain⟨E3,hs3,hx3⟩:=hwk _ E2 w2 a2 hs2;exact⟨rfl,m,s3,E3,hI,hs3,hx2.trans hx3⟩
  |_=>exact⟨s2,E2,hQ,hs2,hx2⟩
 ·intro a' w' hM;have hμ:μ a' w'=Classical.choose (least hM):=dif_pos hM;obtain⟨s',E',hI,hs',hx'⟩:=(Qad (least hM)).1;refine wpIn_mono (pass _ s' hI E' w' a' hs') ?_;rintro e a2 w2 ⟨s2,E2,hQ,hs2,hx2⟩;cases e with
  |goto l'=>
   obtain⟨rfl,m',s3,hm',hwk,hI3⟩:=hQ;obtain⟨E3,hs3,hx3⟩:=hwk _ E2 w2 a2 hs2;have hM2:M a2 w2 m':=⟨s3,E3,hI3,hs3,hx'.trans (hx2.trans hx3)⟩
   have hex:∃m,M a2 w2 m:=⟨m',hM2⟩
   refine⟨rfl,hex,?_⟩;have:μ a2 w2=Classical.choose (least hex):=dif_pos hex;rw[this,hμ];exact Nat.lt_of_le_of_lt ((Qad (least hex)).2 _ hM2) hm'
  |_=>exact⟨s2,E2,hQ,hs2,hx'.trans hx2⟩
section
variable {cx:Cx} {c:Code} {k:List Itm} {Q:Exit→Zb→Prop} {s:Zb}
def Zrl{l:Nat}(hc:c= .label l)(h:AKc cx k Q s):AKc cx (.code c::k) Q s:=by
 rw[hc];exact fun E w a hs=>wpIn_label ⟨s,E,h,hs,.refl cx.n E w⟩
def Zdi{P:Program}{φ:Fm}{n N:Nat}{l:Nat}(h:Q (.goto l) s):∀k,AX P φ n N Q k (.goto l) s
 |[]=>h
 | .code _::k=>Zdi h k
 | .blk _::k=>Zdi h k
def Zqd{l:Nat}(hc:c= .goto l)(h:Q (.goto l) s):AKc cx (.code c::k) Q s:=by
 rw[hc];exact fun E w a hs=>wpIn_goto ⟨s,E,Zdi h k,hs,.refl cx.n E w⟩
def ZqR(l:Nat)(I:Nat→Zb→Prop){rest:Code}(hc:c= .scope c.fst)(hf:findLabel c.fst l=some rest)
  (first:AKc cx [.code c.fst] (JQ l (fun s'=>∃m s'',AWk cx.n cx.N s' s''∧I m s'') (AX cx.P cx.φ cx.n cx.N Q k)) s)
  (pass:∀m s,I m s→AKc cx [.code rest] (JQ l (fun s'=>∃m' s'',m'<m∧AWk cx.n cx.N s' s''∧I m' s'') (AX cx.P cx.φ cx.n cx.N Q k)) s):
  AKc cx (.code c::k) Q s:=by rw[hc];exact Zo8 l I hf first pass
def ZlK(l:Nat)(I:Nat→Zb→Prop)(m0:Nat)(s0:Zb){rest rest0:Code}(hc:c= .scope c.fst)(hf:findLabel c.fst l=some rest)(hr:∀Q' s,AKc cx [.code rest0] Q' s→AKc cx [.code rest] Q' s)(pre:∀Q',AKc cx [.code rest0] Q' s0→AKc cx [.code c.fst] Q' s)(h0:I m0 s0)
  (pass:∀m s,I m s→AKc cx [.code rest0] (JQ l (fun s'=>∃m' s'',m'<m∧AWk cx.n cx.N s' s''∧I m' s'') (AX cx.P cx.φ cx.n cx.N Q k)) s):
  AKc cx (.code c::k) Q s:=by
 refine ZqR l I hc hf (pre _ ?_) fun m s h=>hr _ _ (pass m s h)
 refine JU ?_ (pass m0 s0 h0);intro e s' h;cases e with
 |goto l'=>
  obtain⟨e,m',s'',_,h1,h2⟩:=h;exact⟨e,m',s'',h1,h2⟩
 |_=>exact h
end
end Go.Abs

namespace Go.Proofs.YtmdeagmbfhbbnaaGreatDoorR
open Go.Abs
def fnV(l bx:Nat):Stp×Lt→AV
 |(.test x,_)=>.fn (.func 88) [.iptr [.ptr l bx 0],.iptr x.cs]
 |(.bind s t,_)=>.fn (.func 90) [.iptr [.ptr l bx 0],.iptr [.str s],.iptr t.cs]
 |(.atom _,x)=>.fn (.func 92) [.iptr [.ptr l bx 0],.iptr x.cs]
def Zb4(l bx:Nat)(s:Stp×Lt):(fnV l bx s).cells=[fnV l bx s]:=by
 obtain⟨s,x⟩:=s;cases s<;>rfl
def ZmC(l bx:Nat)(s:Stp×Lt):(fnV l bx s).one=true:=by
 obtain⟨s,x⟩:=s;cases s<;>rfl
section
variable {n:Nat}
def Zb5(l bx:Nat)(h:l<n)(s:Stp×Lt):Below n (fnV l bx s):=by
 have hp:Below n (.iptr [.ptr l bx 0]):=Zk ⟨.ptr _ _ _ h,trivial⟩;obtain⟨s,x⟩:=s;have key:∀f cs,Yf (fun c=>Below n c) cs→Below n (.fn f cs):=fun f cs h=>Below.fn _ _ fun i hi=>h.mem _ (Qa hi)
 cases s with
 |test y=>exact key _ _ ⟨hp,Zk y.bcs,trivial⟩
 |bind s t=>exact key _ _ ⟨hp,Zk ⟨.str _,trivial⟩,Zk t.bcs,trivial⟩
 |atom a=>exact key _ _ ⟨hp,Zk x.bcs,trivial⟩
variable {l bx:Nat}
def Zhd{m:Nat}(h:l<n)(done:List (Stp×Lt)):Ze.Below n (.Zg 84 1 (done.map (fnV l bx)) m):=⟨fun c hc=>by
 simp only[Ze.avs,Qh]at hc;obtain⟨s,_,rfl⟩:=hc;exact Zb5 l bx h s,by simp[Ze.at_]⟩
def plH(H:Za)(l bx mk q:Nat)(sp nw:AV)(done:List (Stp×Lt))(S:List Str):Za:=
 ((H.upd l mk (.map (encS S))).upd l q (.Zg 84 1 (done.map (fnV l bx)) done.length)).upd l bx (.box [.map l mk,sp,nw,.msl 1 l q done.length])
def ZlU(n l bx mk q:Nat)(sp nw:AV)(H:Za)(S:List Str)(ls:List Lt)(done:List (Stp×Lt)):Zb:=
 ⟨[(5,.fn (.func 84) [.iptr [.ptr l bx 0],.ptr n 3 0]),(2,.iptr [.ptr l bx 0]),(3,.ptr n 3 0)],[(3,.box [.sl 13 (ls.map Lt.enc) .any])],plH H l bx mk q sp nw done S⟩
def I42(n l bx mk q:Nat)(sp nw:AV)(H:Za)(D:List (Stp×Lt))(E:List Str×List Lt)(m:Nat)(s:Zb):Prop:=
 ∃S ls done,m=ls.length∧s=ZlU n l bx mk q sp nw H S ls done∧(∀x∈ls,Sm x)∧done++(plG ls.length S ls).1=D∧(plG ls.length S ls).2=E∧ls.length+done.length≤1000000
variable {p:Nat→Prop}
def Za3(hl:l<n)(h:p 3):Inside n p (.fn (.func 84) [.iptr [.ptr l bx 0],.ptr n 3 0]):=
 .fn _ _ fun i hi=>Yf.mem (l:=[.iptr [.ptr l bx 0],.ptr n 3 0]) (p:=fun c=>Inside n p c) ⟨(Zk (cs:=[.ptr l bx 0]) ⟨.ptr _ _ _ hl,trivial⟩).inside,.ptr _ _ _ (.inr ⟨rfl,h⟩),trivial⟩ _ (Qa hi)
def Ze2(hl:l<n):Inside n p (.iptr [.ptr l bx 0]):=(Zk (cs:=[.ptr l bx 0]) ⟨.ptr _ _ _ hl,trivial⟩).inside
def ZqU(H:Za)(l bx mk q:Nat)(hd:mk≠q∧mk≠bx∧q≠bx)(sp nw:AV)(done:List (Stp×Lt))(S S':List Str):(plH H l bx mk q sp nw done S).upd l mk (.map (encS S'))=plH H l bx mk q sp nw done S':=by
 funext a b;unfold plH Za.upd;by_cases h:a=l
 ·subst h;by_cases h1:b=mk
  ·subst h1;simp[hd.1,hd.2.1]
  ·simp[h1]
 ·simp[h]
def ZmW(H:Za)(l bx mk q:Nat)(hd:mk≠q∧mk≠bx∧q≠bx)(sp nw:AV)(done:List (Stp×Lt))(s:Stp×Lt)(S:List Str):
  ((plH H l bx mk q sp nw done S).upd l q (.Zg 84 1 (done.map (fnV l bx)++[fnV l bx s]) (done.length+1))).upd l bx (.box [.map l mk,sp,nw,.msl 1 l q (done.length+1)])=plH H l bx mk q sp nw (done++[s]) S:=by
 funext a b;unfold plH Za.upd;by_cases h:a=l
 ·subst h;by_cases h1:b=bx
  ·simp[h1]
  ·by_cases h2:b=q
   ·simp[h1,h2]
   ·simp[h1,h2]
 ·simp[h]
def ZpL(p q:List Lt):∀x∈Zau p q,x.cells.length=13:=fun x hx=>by
 rcases Qj.1 hx with h|h
 ·obtain⟨y,_,rfl⟩:=Qh.1 h;rfl
 ·rw[Qm]at h;subst h;rfl
variable {tm:List (Nat×AV)} {S:List Str}
def Zs0{N mk q:Nat}(hl:l<n)(hd:mk≠q∧mk≠bx∧q≠bx){sp nw:AV}{H:Za}{p r:List Lt}{x:Lt}{done:List (Stp×Lt)}(hN:83<N)
  (h5:lkv tm 5= .fn (.func 84) [.iptr [.ptr l bx 0],.ptr n 3 0]) (h2:lkv tm 2= .iptr [.ptr l bx 0]) (h3:lkv tm 3= .ptr n 3 0):
  AWk n N ⟨tm,[(3,.box [.sub 13 n 200 (p++x::r).length 0 (p++r).length]),(200,.Zg 54 13 (flat (Zau p r)) (p++x::r).length)],plH H l bx mk q sp nw done S⟩ (ZlU n l bx mk q sp nw H S (p++r) done):=by
 have:=YV (n:=n) (N:=N) (tm:=tm) (tm':=(ZlU n l bx mk q sp nw H S (p++r) done).tmps) (L:=[(3,.box [.sub 13 n 200 (p++x::r).length 0 (p++r).length]),(200,.Zg 54 13 (flat (Zau p r)) (p++x::r).length)]) (H:=plH H l bx mk q sp nw done S)
  (j0:=3) (j:=200) (i:=0) (e:=54) (sz:=13) (k:=(p++x::r).length) (av':=.sl 13 ((p++r).map Lt.enc) .any) (cs0:=[.sub 13 n 200 (p++x::r).length 0 (p++r).length]) 83 hN (Zau p r) dc rfl rfl (.inr ⟨0,(p++r).length,rfl,?_⟩) rfl rfl ?_ (ZpL p r) ?_ ?_ ?_
 ·exact this
 ·rw[GZ,Zau,MZ sm]
 ·simp[Zau]
 ·intro c hc;exact((Ze.Zhj (n:=n) (m:=0) p r).1 c hc).inside
 ·intro t ht;simp only[ZlU,Qk,QA,or_false]at ht;rcases ht with rfl|rfl|rfl
  ·exact⟨show 5≠83 by decide,by rw[h5];exact .refl _,by rw[h5];exact Za3 hl dc⟩
  ·exact⟨show 2≠83 by decide,by rw[h2];exact .refl _,by rw[h2];exact Ze2 hl⟩
  ·exact⟨show 3≠83 by decide,by rw[h3];exact .refl _,by rw[h3];exact .ptr _ _ _ (.inr ⟨rfl,dc⟩)⟩
 ·intro t ht;simp only[setb,delb,if_true,Qk,QA,or_false]at ht;simp at ht;subst ht;exact Ze.Zx ⟨.dead,trivial⟩
def Zpo{mk q:Nat}{φ:Fm}{N:Nat}(hl:l<n)(h0:0<l)(hd:mk≠q∧mk≠bx∧q≠bx){sp nw:AV}{H:Za}(hT:Tabs H){p r:List Lt}{x:Lt}(hx:Sm x){done:List (Stp×Lt)}(hlen:(p++x::r).length≤1000000)
  {o:Oper} {g:Operand} {args:List Operand} {ts:List TypeId} {F:Zb→Prop} (hg:evT tm g= .fn (.func 84) [.iptr [.ptr l bx 0],.ptr n 3 0]) (ha:Yn tt (evT tm) args ts=[.int .i64 p.length])
  (h:F ⟨Yk tm o.dst (.tup []),[(3,.box [.sub 13 n 200 (p++x::r).length 0 (p++r).length]),(200,.Zg 54 13 (flat (Zau p r)) (p++x::r).length)],plH H l bx mk q sp nw done (ZM S (ZI x))⟩):
  Va ⟨prog,tt,φ,n,N⟩ false o g args ts ⟨tm,[(3,.box [.sl 13 ((p++x::r).map Lt.enc) .any])],plH H l bx mk q sp nw done S⟩ F:=by
 have hne:¬l=n:=om;have hT2:Tabs (full n [(3,.box [.sl 13 ((p++x::r).map Lt.enc) .any])] (plH H l bx mk q sp nw done S)):=hT.up fun k=>by
  rw[Zi om];unfold plH Za.upd;simp only[show¬(0:Nat)=l by omega,false_and,if_false]
 have hc:=k84 (n+1) _ hT2 l bx mk n 3 200 hl om h0 dc sp nw (.msl 1 l q done.length) (by rw[Zi hl];simp[plH,Za.upd]) S (by rw[Zi hl];simp[plH,Za.upd,hd.1,hd.2.1]) p r x hx hlen (by simp[full,lkb]) (by simp[full,lkb]);refine YW (caps:=[.iptr [.ptr l bx 0],.ptr n 3 0]) (avs:=[.int .i64 p.length]) hg (Zf func84 rfl rfl) hc ha ?_;rintro _ H1 ⟨rfl,rfl⟩;refine⟨[(3,.box [.sub 13 n 200 (p++x::r).length 0 (p++r).length]),(200,.Zg 54 13 (flat (Zau p r)) (p++x::r).length)],(plH H l bx mk q sp nw done S).upd l mk (.map (encS (ZM S (ZI x)))),?_,.upd (WH _),?_⟩
 ·rw[←Yi n _ _ _ _ _ hne,←Zl,←Zl];rfl
 ·show F ⟨_,_,(plH H l bx mk q sp nw done S).upd l mk _⟩;rw[ZqU H l bx mk q hd];exact h
def plO:Opt:=⟨true,true,fun d=>if d=37∨d=38∨d=66∨d=67 then .pure else if d=44∨d=73 then .heap else .auto,[]⟩
theorem k42(n:Nat)(H:Za)(hT:Tabs H)(l bx mk q:Nat)(h0:0<l)(hl:l<n)(hd:mk≠q∧mk≠bx∧q≠bx)(sp nw:AV)(S:List Str)(ls:List Lt)(hs:∀x∈ls,Sm x)(hlen:ls.length≤1000000)(hsp:Below n sp∧Below n nw)
  (hbx:H l bx=some (.box [.map l mk,sp,nw,.msl 1 l q 0])) (hq:H l q=some (.Zg 84 1 [] 0)) (hm:H l mk=some (.map (encS S))):
  Zh prog n 42 [.ptr l bx 0,.sl 13 (ls.map Lt.enc) .any] H fun r H'=>r= .bool ((plG ls.length S ls).2.2.all (XT (plG ls.length S ls).2.1))∧H'=plH H l bx mk q sp nw (plG ls.length S ls).1 (plG ls.length S ls).2.1:=by
 have hne:¬l=n:=om;have hn:0<n:=om;obtain⟨D,hD⟩:∃D,D=(plG ls.length S ls).1:=⟨_,rfl⟩
 obtain⟨E,hE⟩:∃E,E=(plG ls.length S ls).2:=⟨_,rfl⟩
 have hH0:plH H l bx mk q sp nw [] S=H:=by
  unfold plH;rw[Z9 hm];exact(congrArg (fun G:Za=>G.upd l bx _) (Z9 hq)).trans (Z9 hbx)
 rw[←hD,←hE];refine aF func42 fun B=>?_
 refine gh ?_;refine ZY 2 [.ptr l bx 0] [(2,.iptr [.ptr l bx 0]),(3,.ptr n 3 0)] rfl ⟨.ptr _ _ _ (.inl hl),trivial⟩ ?_ ⟨Ze.Zx ⟨(Ye ls).inside,trivial⟩,trivial⟩ ?_
 ·exact⟨.inr ⟨0,rfl,rfl⟩,.inl ⟨.refl _,.ptr _ _ _ (.inr ⟨rfl,dc⟩)⟩,trivial⟩
 refine aS ?_;refine ZlK (rest0:=(ZQ Tryz.f42).snd.fst.snd.snd) 0 (I42 n l bx mk q sp nw H D E) ls.length (ZlU n l bx mk q sp nw H S ls []) rfl rfl (fun _ _ h=>ZbH rfl (Zbp rfl h)) ?_ ⟨S,ls,[],rfl,rfl,hs,hD.symm,hE.symm,by simpa using hlen⟩ ?_
 ·intro Q' h;rw[ZlU,hH0]at h;refine gh ?_;refine Zrl rfl ?_;refine ZL ?_ h;exact KK
 rintro m _ ⟨S,ls,done,rfl,rfl,hs,hD,hE,hlen⟩;unfold ZlU;obtain⟨G,hG⟩:∃G,G=plH H l bx mk q sp nw done S:=⟨_,rfl⟩
 have hGb:G l bx=some (.box [.map l mk,sp,nw,.msl 1 l q done.length]):=by rw[hG];simp[plH,Za.upd]
 have hGq:G l q=some (.Zg 84 1 (done.map (fnV l bx)) done.length):=by rw[hG];simp[plH,Za.upd,hd.2.2]
 rw[←hG];refine gh ?_;refine Ya (fun i=>⟨[(17,.int .i64 i),(16,.int .i64 ls.length),(15,.sl 13 (ls.map Lt.enc) .any),(5,.fn (.func 84) [.iptr [.ptr l bx 0],.ptr n 3 0]),(2,.iptr [.ptr l bx 0]),(3,.ptr n 3 0)],[(3,.box [.sl 13 (ls.map Lt.enc) .any])],G⟩)
  (fun i=>∀j (h:j<ls.length),j<i→YZ S ls[j]=none) ls.length rfl ?_ (fun j _ h=>absurd h (Ql _)) ?_
 ·exact KK
 intro i hi hr;refine Yb rfl ?_;rcases Qe i ls.length with h|h
 ·obtain⟨x,hx⟩:∃x,x=ls[i]:=⟨_,rfl⟩
  have hxs:=hs _ (Qa h);rw[←hx]at hxs;refine nq h ?_;refine gH ?_;simp only[go_sem,simprocAttr,Lt.Zp _ _ h,h,←hx];refine nR ?_;by_cases k2:x.kind=2
  ·refine nFq k2 ?_;refine nR ?_;refine cQ (j87 (n+1) _ l bx l mk om om sp nw (.msl 1 l q done.length) ?_ S ?_ x hxs) ?_
   ·rw[Zi hl,hG];simp[plH,Za.upd]
   ·rw[Zi hl,hG];simp[plH,Za.upd,hd.1,hd.2.1]
   have hrd:=ZnO S x k2;generalize ZaR S x=rd at hrd⊢;obtain⟨sn,tn,b⟩:=rd;refine aS ?_;cases b with
   |false=>
    have hno:YZ S x=none:=by rw[hrd];rfl
    refine nR ?_;refine gm ?_;refine⟨fun j hj hji=>?_,?_⟩
    ·rcases Qe j i with h'|h'
     ·exact hr j hj h'
     ·have:j=i:=om;subst this;rw[←hx];exact hno
    ·apply kZ;repeat' first|apply q0|exact xx|apply aI
     ·refine aS ?_;rw[iw];exact .refl _
     all_goals first|exact Ze2 hl|exact(Ye ls).inside|exact Za3 hl rfl
   |true=>
    refine nR ?_;refine nT ?_;have hrs:YZ S x=some (if sn=[]then .test x else .bind sn tn):=by rw[hrd];rfl
    refine ZY 7 x.cs [(7,.iptr x.cs),(8,.ptr n 8 0),(9,.ptr n 9 0),(6,.int .i64 i),(5,.fn (.func 84) [.iptr [.ptr l bx 0],.ptr n 3 0]),(2,.iptr [.ptr l bx 0]),(3,.ptr n 3 0)] rfl (Z4 fun c hc=>(x.bcs.mem c hc).inside) ?_ ?_ ?_
    ·exact⟨.inr ⟨0,rfl,rfl⟩,.inl ⟨.refl _,.ptr _ _ _ (.inr ⟨rfl,dc⟩)⟩,.inl ⟨.refl _,.ptr _ _ _ (.inr ⟨rfl,dc⟩)⟩,.inl ⟨.refl _,.int _ _⟩,.inl ⟨.refl _,Za3 hl dc⟩,.inl ⟨.refl _,Ze2 hl⟩,.inl ⟨.refl _,.ptr _ _ _ (.inr ⟨rfl,dc⟩)⟩,trivial⟩
    ·exact⟨Ze.Zx ⟨(Ye ls).inside,trivial⟩,Ze.Zx ⟨.str _,trivial⟩,Ze.Zx (Z4 fun c hc=>(tn.bcs.mem c hc).inside),trivial⟩
    refine aS ?_;refine ZY 8 [.str sn] [(8,.iptr [.str sn]),(7,.iptr x.cs),(9,.ptr n 9 0),(6,.int .i64 i),(5,.fn (.func 84) [.iptr [.ptr l bx 0],.ptr n 3 0]),(2,.iptr [.ptr l bx 0]),(3,.ptr n 3 0)] rfl ⟨.str _,trivial⟩ ?_ ?_ ?_
    ·exact⟨.inr ⟨0,rfl,rfl⟩,.inl ⟨.refl _,(Zk x.bcs).inside⟩,.inl ⟨.refl _,.ptr _ _ _ (.inr ⟨rfl,dc⟩)⟩,.inl ⟨.refl _,.int _ _⟩,.inl ⟨.refl _,Za3 hl dc⟩,.inl ⟨.refl _,Ze2 hl⟩,.inl ⟨.refl _,.ptr _ _ _ (.inr ⟨rfl,dc⟩)⟩,trivial⟩
    ·exact⟨Ze.Zx ⟨(Ye ls).inside,trivial⟩,Ze.Zx (Z4 fun c hc=>(tn.bcs.mem c hc).inside),trivial⟩
    refine aS ?_;refine ZY 9 tn.cs [(9,.iptr tn.cs),(8,.iptr [.str sn]),(7,.iptr x.cs),(6,.int .i64 i),(5,.fn (.func 84) [.iptr [.ptr l bx 0],.ptr n 3 0]),(2,.iptr [.ptr l bx 0]),(3,.ptr n 3 0)] rfl (Z4 fun c hc=>(tn.bcs.mem c hc).inside) ?_ ?_ ?_
    ·exact⟨.inr ⟨0,rfl,rfl⟩,.inl ⟨.refl _,(Zk (cs:=[.str sn]) ⟨.str _,trivial⟩).inside⟩,.inl ⟨.refl _,(Zk x.bcs).inside⟩,.inl ⟨.refl _,.int _ _⟩,.inl ⟨.refl _,Za3 hl dc⟩,.inl ⟨.refl _,Ze2 hl⟩,.inl ⟨.refl _,.ptr _ _ _ (.inr ⟨rfl,dc⟩)⟩,trivial⟩
    ·exact⟨Ze.Zx ⟨(Ye ls).inside,trivial⟩,trivial⟩
    refine gc ?_;refine V5 ⟨[(11,fnV l bx (if sn=[]then .test x else .bind sn tn,x)),(6,.int .i64 i),(5,.fn (.func 84) [.iptr [.ptr l bx 0],.ptr n 3 0]),(2,.iptr [.ptr l bx 0]),(3,.ptr n 3 0)],[(3,.box [.sl 13 (ls.map Lt.enc) .any])],G⟩ ?_ ?_
    ·by_cases hsn:sn=[]
     ·rw[if_pos hsn];have hsb:(!sn==[])=false:=by simp[hsn]
      refine nFq hsb ?_;refine nN ?_;refine⟨rfl,?_⟩;apply kZ;repeat' first|apply q0|exact xx|apply aI
      all_goals first|exact Ze2 hl|exact(Ye ls).inside|exact Za3 hl rfl|exact(Zb5 l bx hl (Stp.test x,x)).inside|exact(Zb5 l bx hl (Stp.bind sn tn,x)).inside
     ·rw[if_neg hsn];have hsb:(!sn==[])=true:=by simp[hsn]
      refine nTq hsb ?_;refine gd ?_;refine⟨rfl,?_⟩;apply kZ;repeat' first|apply q0|exact xx|apply aI
      all_goals first|exact Ze2 hl|exact(Ye ls).inside|exact Za3 hl rfl|exact(Zb5 l bx hl (Stp.test x,x)).inside|exact(Zb5 l bx hl (Stp.bind sn tn,x)).inside
    generalize (if sn=[]then Stp.test x else .bind sn tn)=s at hrs⊢;have hpl:=Zn2 i h hr (hx▸hrs);refine nD plO ?_;obtain⟨G1,hG1⟩:∃G1,G1=G.upd l q (.Zg 84 1 (done.map (fnV l bx)++[fnV l bx (s,x)]) (done.length+1)):=⟨_,rfl⟩
    have hGb1:G1 l bx=some (.box [.map l mk,sp,nw,.msl 1 l q done.length]):=by rw[hG1];simp only[Za.upd,hd.2.2.symm,and_false,if_false];exact hGb
    have hfl:flat [fnV l bx (s,x)]=[fnV l bx (s,x)]:=by simp[flat,Zb4]
    have hdl:done.length+1≤1000000:=om;simp only[go_sem,simprocAttr,plO,hne,hGb,hGq,Zb4,ZmC,hfl,←hG1,hGb1];have e2:done.map (fnV l bx)++[fnV l bx (s,x)]=(done++[(s,x)]).map (fnV l bx):=sm;refine⟨rfl,⟨Zm om,om⟩,.inr (e2▸Zhd hl _),.inr (Ze.Zy ⟨.map _ _ hl,hsp.1,hsp.2,.msl _ _ _ _ hl,trivial⟩),?_⟩;rw[hG1,hG,ZmW H l bx mk q hd];obtain⟨p,r,hls,hpi⟩:∃p r,ls=p++x::r∧p.length=i:=⟨ls.take i,ls.drop (i+1),by rw[hx];simp,by simp;omega⟩
    have hpr:ls.take i++ls.drop (i+1)=p++r:=by rw[hls,←hpi];simp
    rw[←hx,hpr]at hpl;subst hls hpi;refine nR ?_;refine Zpo hl h0 hd hT hxs om rfl sS ?_;refine gM ?_;have hst:=Zkd hpl (f:=(p++r).length) (by simp;omega);refine Zqd rfl (Zdi ⟨rfl,_,_,?_,Zs0 hl hd dc sS sS sS,⟨_,_,_,rfl,rfl,?_,?_,?_,?_⟩⟩ _)
    ·simp
    ·exact fun y hy=>hs y (by rcases Qj.1 hy with h|h;all_goals simp[h])
    ·rw[←hD,hst];simp
    ·rw[←hE,hst]
    ·simp at hlen⊢;omega
  ·have k2':(x.kind !=2)=true:=by simp[k2]
   have hno:YZ S x=none:=by unfold YZ;rw[if_neg k2]
   refine nTq k2' ?_;refine Zly rfl rfl rfl ?_;refine gd ?_;refine⟨fun j hj hji=>?_,?_⟩
   ·rcases Qe j i with h'|h'
    ·exact hr j hj h'
    ·have:j=i:=om;subst this;rw[←hx];exact hno
   ·apply kZ;repeat' first|apply q0|exact xx|apply aI
    ·refine aS ?_;rw[iw];exact .refl _
    all_goals first|exact Ze2 hl|exact(Ye ls).inside|exact Za3 hl rfl
 ·have hi':i=ls.length:=om;subst hi';have hr0:∀j (h:j<ls.length),YZ S ls[j]=none:=fun j h=>hr j h h
  refine nq (QG.2 h) ?_;refine gg ?_;refine gh ?_;refine Ya (fun i=>⟨[(53,.int .i64 i),(52,.int .i64 ls.length),(51,.sl 13 (ls.map Lt.enc) .any),(5,.fn (.func 84) [.iptr [.ptr l bx 0],.ptr n 3 0]),(2,.iptr [.ptr l bx 0]),(3,.ptr n 3 0)],[(3,.box [.sl 13 (ls.map Lt.enc) .any])],G⟩)
   (fun i=>∀j (h:j<ls.length),j<i→JC ls[j]=none) ls.length rfl ?_ (fun j _ h=>absurd h (Ql _)) ?_
  ·exact KK
  intro i hi ha;refine Yb rfl ?_;rcases Qe i ls.length with h|h
  ·obtain⟨x,hx⟩:∃x,x=ls[i]:=⟨_,rfl⟩
   have hxs:=hs _ (Qa h);rw[←hx]at hxs;refine nq h ?_;refine gH ?_;simp only[go_sem,simprocAttr,Lt.Zp _ _ h,h,←hx];by_cases k1:x.kind=1∧x.neg=false
   ·have e1:(x.kind==1)=true:=by simp[k1.1]
    have has:JC x=some (.atom x.at_):=by unfold JC;rw[if_pos k1]
    have e2:(!x.neg)=true:=by simp[k1.2]
    refine nq2 e1 e2 ?_;refine nT ?_;refine ZY 13 x.cs [(13,.iptr x.cs),(12,.int .i64 i),(5,.fn (.func 84) [.iptr [.ptr l bx 0],.ptr n 3 0]),(2,.iptr [.ptr l bx 0]),(3,.ptr n 3 0)] rfl (Z4 fun c hc=>(x.bcs.mem c hc).inside) ?_ ?_ ?_
    ·exact⟨.inr ⟨0,rfl,rfl⟩,.inl ⟨.refl _,.int _ _⟩,.inl ⟨.refl _,Za3 hl dc⟩,.inl ⟨.refl _,Ze2 hl⟩,.inl ⟨.refl _,.ptr _ _ _ (.inr ⟨rfl,dc⟩)⟩,trivial⟩
    ·exact⟨Ze.Zx ⟨(Ye ls).inside,trivial⟩,trivial⟩
    refine aS ?_;obtain⟨G1,hG1⟩:∃G1,G1=G.upd l q (.Zg 84 1 (done.map (fnV l bx)++[fnV l bx (.atom x.at_,x)]) (done.length+1)):=⟨_,rfl⟩
    have hGb1:G1 l bx=some (.box [.map l mk,sp,nw,.msl 1 l q done.length]):=by rw[hG1];simp only[Za.upd,hd.2.2.symm,and_false,if_false];exact hGb
    have hfv:AV.fn (.func 92) [.iptr [.ptr l bx 0],.iptr x.cs]=fnV l bx (.atom x.at_,x):=rfl;simp only[Lt.cs]at hfv;have hfl:flat [fnV l bx (.atom x.at_,x)]=[fnV l bx (.atom x.at_,x)]:=by simp[flat,Zb4]
    have hdl:done.length+1≤1000000:=om;have hpl:=Zla i h hr0 ha (hx▸has);refine nD plO ?_;simp only[go_sem,simprocAttr,plO,hne,hGb,hGq,hfv,Zb4,ZmC,hfl,←hG1,hGb1];have e2:done.map (fnV l bx)++[fnV l bx (.atom x.at_,x)]=(done++[(Stp.atom x.at_,x)]).map (fnV l bx):=sm;refine⟨rfl,⟨Zm om,om⟩,.inr (e2▸Zhd hl _),.inr (Ze.Zy ⟨.map _ _ hl,hsp.1,hsp.2,.msl _ _ _ _ hl,trivial⟩),?_⟩;rw[hG1,hG,ZmW H l bx mk q hd];obtain⟨p,r,hls,hpi⟩:∃p r,ls=p++x::r∧p.length=i:=⟨ls.take i,ls.drop (i+1),by rw[hx];simp,by simp;omega⟩
    have hpr:ls.take i++ls.drop (i+1)=p++r:=by rw[hls,←hpi];simp
    rw[←hx,hpr]at hpl;subst hls hpi;refine nR ?_;refine Zpo hl h0 hd hT hxs om rfl sS ?_;refine gM ?_;have hst:=Zkd hpl (f:=(p++r).length) (by simp;omega);refine Zqd rfl (Zdi ⟨rfl,_,_,?_,Zs0 hl hd dc sS sS sS,⟨_,_,_,rfl,rfl,?_,?_,?_,?_⟩⟩ _)
    ·simp
    ·exact fun y hy=>hs y (by rcases Qj.1 hy with h|h;all_goals simp[h])
    ·rw[←hD,hst];simp
    ·rw[←hE,hst]
    ·simp at hlen⊢;omega
   ·have hno:JC x=none:=by unfold JC;rw[if_neg k1]
    have e1:((x.kind==1)&& !x.neg)=false:=by
     cases h1:(x.kind==1)with
     |false=>rfl
     |true=>
      cases h2:x.neg with
      |false=>exact absurd ⟨by simpa using h1,h2⟩ k1
      |true=>rfl
    cases h1:(x.kind==1)with
    |false=>
     refine nq h1 ?_;refine gm ?_;refine⟨fun j hj hji=>?_,?_⟩
     ·rcases Qe j i with h'|h'
      ·exact ha j hj h'
      ·have:j=i:=om;subst this;rw[←hx];exact hno
     ·apply kZ;repeat' first|apply q0|exact xx|apply aI
      ·refine aS ?_;rw[iw];exact .refl _
      all_goals first|exact Ze2 hl|exact(Ye ls).inside|exact Za3 hl rfl
    |true=>
     rw[h1,U0]at e1;refine nq2 h1 e1 ?_;refine gm ?_;refine⟨fun j hj hji=>?_,?_⟩
     ·rcases Qe j i with h'|h'
      ·exact ha j hj h'
      ·have:j=i:=om;subst this;rw[←hx];exact hno
     ·apply kZ;repeat' first|apply q0|exact xx|apply aI
      ·refine aS ?_;rw[iw];exact .refl _
      all_goals first|exact Ze2 hl|exact(Ye ls).inside|exact Za3 hl rfl
  ·have hi':i=ls.length:=om;subst hi';have ha0:∀j (h:j<ls.length),JC ls[j]=none:=fun j h=>ha j h h
   have hpl:=ZqT (ZoW hr0 ha0);refine nq (QG.2 h) ?_;refine gG ?_;refine YW (caps:=[]) (avs:=[.sl 13 (ls.map Lt.enc) .any,.fn (.func 94) [.iptr [.ptr l bx 0]]]) rfl (Zf func78 rfl rfl) (h78 ls om 94 [.iptr [.ptr l bx 0]] (fun x=>!XT S x) (n+1) _ ⟨⟨_,_,Zf func94 rfl rfl⟩,fun x hx m G2 hm hG2=>?_,fun m hm=>⟨Zk (cs:=[.ptr l bx 0]) ⟨.ptr _ _ _ om,trivial⟩,trivial⟩⟩) sS ?_
   ·exact k94 m G2 (hT.up fun k=>by
     rw[hG2 0 k om,Zi hn,hG];unfold plH Za.upd;simp only[show¬(0:Nat)=l by omega,false_and,if_false]) om l bx mk om sp nw (.msl 1 l q done.length) (by rw[hG2 _ _ om,Zi hl];exact hGb) S (by rw[hG2 _ _ om,Zi hl,hG];simp[plH,Za.upd,hd.1,hd.2.1]) x (hs x hx)
   rintro r H1 ⟨rfl,rfl⟩;refine⟨_,_,rfl,.refl _ _,?_⟩;refine gw ?_;rw[hpl,Qs]at hD;rw[hpl]at hE;subst hD hE;have hany:(!ls.any fun x=>!XT S x)=ls.all (XT S):=by
    rw[UG];simp
   show PostF prog tt n [.tmp 4] (fun r H'=>r=AV.bool (ls.all (XT S))∧H'=plH H l bx mk q sp nw done S) .ret _;refine Zn (v:=.bool (ls.all (XT S))) ?_ (.bool _) ?_
   ·refine aq hany ?_;exact .refl _
   ·exact⟨rfl,hG⟩
end
def okB(pr:Option Str)(p:Str×Tm):Bool:=(match pr with
 |none=>true
 |some s=>decide (Lib.compareBytes s p.1<0))&&Zt p.2
def vB:Option Str→Bnd→Bool
 |_,[]=>true
 |pr,p::r=>okB pr p&&vB (some p.1) r
def ZmK(s:Str)(v:Tm):∀r:Bnd,(Zt v&&vB (some s) r)=validB ((s,v)::r)
 |[]=>by simp[vB,validB]
 |p::r=>by
  have:=ZmK p.1 p.2 r;simp only[vB,okB,validB]at this⊢;rw[←this];cases Zt v<;>cases Zt p.2<;>simp
theorem vB_none:∀b:Bnd,vB none b=validB b
 |[]=>rfl
 |p::r=>by
  have:=ZmK p.1 p.2 r;rw[←this];simp[vB,okB]
def ZrC(x y:Str):(Op.bytesLess x y||x==y)= !decide (Lib.compareBytes y x<0):=by
 have h1:=Zni x y;have h2:Lib.compareBytes y x= -Lib.compareBytes x y:=by rw[Zfz,Zfz,lexI_anti]
 rw[h2,←h1];cases Op.bytesLess x y with
 |true=>simp
 |false=>
  cases hxy:x==y with
  |true=>simp
  |false=>simp
def ZlJ(b:Bnd)(i:Nat):Option Str:=if i=0 then none else(b[i - 1]?).map Prod.fst
def ZuM(b:Bnd)(H:Za)(i:Nat):Zb:=⟨[(7,.int .i64 i),(6,.int .i64 b.length),(5,.sl 5 (b.map eBd) .any),(0,.sl 5 (b.map eBd) .any)],[],H⟩
def k39(b:Bnd)(hb:b.length≤1000000)(gb:∀x∈b,x.2.Good):Z5 prog 39 [.sl 5 (b.map eBd) .any] (.bool (validB b)):=by
 intro n H hn hT;refine aF func39 fun B=>?_
 refine gk ?_;refine Ya (ZuM b H) (fun i=>validB b=vB (ZlJ b i) (b.drop i)) b.length rfl ?_ (vB_none b).symm ?_
 ·exact KK
 intro i hi hc;refine Yb rfl ?_;rcases Qe i b.length with h|h
 ·rw[Qw h,vB]at hc;refine nq h ?_;refine nT ?_;refine nq2 (getD_map eBd _ _ h) h ?_;have hv:=a37 b[i].2 (gb _ (Qa h));have hps:∀i (h:i<b.length),ZlJ b (i+1)=some b[i].1:=fun i h=>by simp[ZlJ,Qb h]
  cases i with
  |zero=>
   have hk:okB (ZlJ b 0) b[0]=Zt b[0].2:=by simp[okB,ZlJ]
   rw[hk]at hc;have h00:decide (0<(0:Int))=false:=rfl;refine XK tok mixed drawO rfl rfl rfl ?_;simp -implicitDefEqProofs (maxSteps:=1000000) only[go_sem,simprocAttr,h00,Qbj];refine cT (hv) ?_;refine kK ?_;cases hvv:Zt b[0].2 with
   |false=>
    refine nTq hvv ?_;refine nR ?_;refine nW ?_;refine Zc ?_ (.bool _) rfl;rw[hc,hvv];exact .refl _
   |true=>
    refine nFq hvv ?_;refine gd ?_;refine⟨by rw[hc,hvv,hps 0 h,U0],?_⟩;exact KK
  |succ i=>
   have h':i<b.length:=om;have hk:okB (ZlJ b (i+1)) b[i+1]=(decide (Lib.compareBytes b[i].1 b[i+1].1<0)&&Zt b[i+1].2):=by simp[okB,ZlJ,Qb h']
   rw[hk]at hc;have hgt:decide (0<((i+1:Nat):Int))=true:=sm;have hw:IntKind.i64.wrap (((i+1:Nat):Int) - 1)=(i:Int):=by rw[show((i+1:Nat):Int) - 1=(i:Int) by omega];exact iw
   cases hlt:decide (Lib.compareBytes b[i].1 b[i+1].1<0)with
   |false=>
    rw[hlt,G5,G5]at hc;refine XK tok mixed drawO rfl rfl rfl ?_;simp -implicitDefEqProofs (maxSteps:=1000000) only[go_sem,simprocAttr,hgt,hw,getD_map eBd _ _ h',h',ZrC,hlt];refine kK ?_;refine nTq hlt ?_;refine nR ?_;refine nW ?_;refine Zc ?_ (.bool _) rfl;rw[hc];exact .refl _
   |true=>
    rw[hlt,U0]at hc;refine XK tok mixed drawO rfl rfl rfl ?_;simp -implicitDefEqProofs (maxSteps:=1000000) only[go_sem,simprocAttr,hgt,hw,getD_map eBd _ _ h',h',ZrC,hlt];refine cT (hv) ?_;refine kK ?_;cases hvv:Zt b[i+1].2 with
    |false=>
     refine nTq hvv ?_;refine nR ?_;refine nW ?_;refine Zc ?_ (.bool _) rfl;rw[hc,hvv];exact .refl _
    |true=>
     refine nFq hvv ?_;refine gd ?_;refine⟨by rw[hc,hvv,hps (i+1) h,U0],?_⟩;exact KK
 ·refine nq (QG.2 h) ?_;refine gt ?_;refine Zc ?_ (.bool _) rfl;rw[hc,Ur h];exact .refl _
theorem ZmS{α:Type}(p:α→Bool)(l:List α):(l.any fun t=>!p t)= !l.all p:=by
 induction l with
 |nil=>rfl
 |cons x r ih=>simp only[QbC,Qbb,ih,Bool.not_and]
def j79(x:Lt)(hx:x.Good):Z5 prog 79 [x.enc,.iptr [.fn (.func 76) []]] (.bool (!Yq x)):=by
 intro n H hn hT;have hs:=hx.at_.pred;have hbad:ZeP 76 [] Tm.enc x.at_.args (fun t=>!J8 t):=⟨⟨_,_,Zf func76 rfl rfl⟩,fun t ht=>j76 t (hx.at_.arg ht),fun _=>trivial⟩
 refine aF func79 fun B=>?_
 refine gk ?_;by_cases k1:x.kind=1
 ·have e1:(x.kind==1)=true:=by simp[k1]
  refine nq e1 ?_;refine gi ?_;refine cP (a45 x.at_.pred om) ?_;cases h1:sym x.at_.pred with
  |false=>
   refine aS ?_;refine YD rfl rfl ?_;refine Zc ?_ (.bool _) rfl;try simp only[go_sem,simprocAttr,Yq,k1,h1]
   exact .refl _
  |true=>
   cases h2:decide ((8:Int)<(x.at_.args.length:Int))with
   |true=>
    have e2:decide (x.at_.args.length≤8)=false:=by simp at h2⊢;omega
    refine aq h2 ?_;refine YD rfl rfl ?_;refine Zc ?_ (.bool _) rfl;try simp only[go_sem,simprocAttr,Yq,k1,h1,e2]
    exact .refl _
   |false=>
    have e2:decide (x.at_.args.length≤8)=true:=by simp at h2⊢;omega
    refine aq h2 ?_;refine cT (a46 x.at_.args hx.at_.len _ [] _ hbad) ?_;refine nV ?_;refine Zc ?_ (.bool _) rfl;simp only[go_sem,simprocAttr,Yq,k1,h1,e2,ZmS];exact .refl _
 ·have e1:(x.kind==1)=false:=by simp[k1]
  refine nq e1 ?_;refine nF ?_;by_cases k2:x.kind=2
  ·have e2:(x.kind==2)=true:=by simp[k2]
   refine nq e2 ?_;refine gi ?_;cases h1:x.neg with
   |true=>
    refine aq h1 ?_;refine YD rfl rfl ?_;refine Zc ?_ (.bool _) rfl;try simp only[go_sem,simprocAttr,Yq,k1,k2,h1]
    exact .refl _
   |false=>
    cases h2:decide (x.op<1)with
    |true=>
     have e3:decide (1≤x.op)=false:=by simp at h2⊢;omega
     refine aq2 h1 h2 ?_;refine YD rfl rfl ?_;refine Zc ?_ (.bool _) rfl;try simp only[go_sem,simprocAttr,Yq,k1,k2,h1,e3]
     exact .refl _
    |false=>
     have e3:decide (1≤x.op)=true:=by simp at h2⊢;omega
     cases h3:decide (6<x.op)with
     |true=>
      have e4:decide (x.op≤6)=false:=by simp at h3⊢;omega
      simp only[go_sem,simprocAttr,h1,h2,h3];refine YD rfl rfl ?_;refine Zc ?_ (.bool _) rfl;try simp only[go_sem,simprocAttr,Yq,k1,k2,h1,e3,e4]
      exact .refl _
     |false=>
      have e4:decide (x.op≤6)=true:=by simp at h3⊢;omega
      simp only[go_sem,simprocAttr,h1,h2,h3];refine YC (avs:=[x.L.enc]) rfl (Zf func76 rfl rfl) (j76 x.L hx.L _ _ (QO _) (hT.full hn)) rfl ?_;cases h4:J8 x.L with
      |false=>
       refine aS ?_;refine YD rfl rfl ?_;refine Zc ?_ (.bool _) rfl;try simp only[go_sem,simprocAttr,Yq,k1,k2,h1,e3,e4,h4]
       exact .refl _
      |true=>
       refine aS ?_;refine YC (avs:=[x.R.enc]) rfl (Zf func76 rfl rfl) (j76 x.R hx.R _ _ (QO _) (hT.full hn)) rfl ?_;refine aS ?_;refine YD rfl rfl ?_;refine Zc ?_ (.bool _) rfl;try simp only[go_sem,simprocAttr,Yq,k1,k2,h1,e3,e4,h4]
       exact .refl _
  ·have e2:(x.kind==2)=false:=by simp[k2]
   refine nq e2 ?_;refine gv ?_;refine YD rfl rfl ?_;refine Zc ?_ (.bool _) rfl;try simp only[go_sem,simprocAttr,Yq,k1,k2]
   exact .refl _
def j38(l:List Lt)(hl:l.length≤1000000)(hg:∀x∈l,x.Good):Z5 prog 38 [.sl 13 (l.map Lt.enc) .any] (.bool (l.all Yq)):=by
 intro n H hn hT;refine aF func38 fun B=>?_
 refine gk ?_;refine ZY 3 [.fn (.func 76) []] [(2,.bool false),(3,.iptr [.fn (.func 76) []]),(0,.sl 13 (l.map Lt.enc) .any)] rfl ?_ ?_ trivial ?_
 ·exact⟨(ZaS (caps:=[]) trivial).inside,trivial⟩
 ·exact⟨.inl ⟨.refl _,.bool _⟩,.inr ⟨0,rfl,rfl⟩,.inl ⟨.refl _,(Ye l).inside⟩,trivial⟩
 refine nR ?_;refine cT (j78 l hl 79 [.iptr [.fn (.func 76) []]] (fun x=>!Yq x) ⟨⟨_,_,Zf func79 rfl rfl⟩,fun x hx=>j79 x (hg x hx),fun n=>⟨Zk ⟨ZaS (caps:=[]) trivial,trivial⟩,trivial⟩⟩) ?_;refine nV ?_;refine Zc ?_ (.bool _) rfl;simp only[go_sem,simprocAttr,ZmS,Bool.not_not];exact .refl _
structure Zt3 (n:Nat) (H:Za) (f:Nat) (caps:List AV) (l:List Bnd) (g:Bnd→Bnd):Prop where
 fn:∃fn c,Fun prog f fn c
 on:∀x∈l,∀m G,n≤m→(∀l' k,l'<n→G l' k=H l' k)→PC prog m f (Zj x::caps) G (Zj (g x))
 below:∀m,n≤m→Yf (fun c=>Below m c) caps
def ZsU(l:List Bnd)(f:Nat)(caps:List AV)(g:Bnd→Bnd)(n:Nat)(H:Za)(i:Nat):Zb:=
 ⟨[(10,.int .i64 i),(9,.int .i64 l.length),(8,.sl 1 (l.map Zj) .any),(5,.msl 1 n 200 i),(1,.fn (.func f) caps)],[(200,.Zg 34 1 (((l.take i).map g).map Zj) i)],H⟩
def Zpl(v:AV)(h:v.cells=[v]):flat [v]=[v]:=by simp[flat,h]
def k43(n:Nat)(H:Za)(l:List Bnd)(hl:l.length≤1000000)(f:Nat)(caps:List AV)(g:Bnd→Bnd)(hp:Zt3 n H f caps l g)(l2 k2:Nat)(hl2:l2<n)(hfr:H l2 k2=none):
  Zh prog n 43 [.sl 1 (l.map Zj) .any,.fn (.func f) caps] H fun r H'=>r= .msl 1 l2 k2 l.length∧H'=H.upd l2 k2 (.Zg 34 1 ((l.map g).map Zj) l.length):=by
 obtain⟨⟨fn,c,hf⟩,hp,hbl⟩:=hp;have hfi:∀q,Inside n q (.fn (.func f) caps):=fun q=>(Below.fn _ _ fun i hi=>(hbl n (Qd n)).mem _ (Qa hi)).inside
 have hbi:∀q,Inside n q (.sl 1 (l.map Zj) .any):=fun q=>(Zw l).inside
 have hmb:∀(q:Nat→Prop) (r:List Bnd) m,Ze.Inside n q (.Zg 34 1 (r.map Zj) m):=fun q r m=>⟨fun c hc=>by obtain⟨u,_,rfl⟩:=Qh.1 hc;exact(ZC n u).inside,by simp[Ze.at_]⟩
 have hmi:∀(q:Nat→Prop) (r:List Bnd),Yf (fun c=>Inside n q c) (r.map Zj):=fun q r=>Z4 fun c hc=>by obtain⟨u,_,rfl⟩:=Qh.1 hc;exact(ZC n u).inside
 have hbb:∀(r:List Bnd) m,Ze.Below n (.Zg 34 1 (r.map Zj) m):=fun r m=>⟨fun c hc=>by obtain⟨u,_,rfl⟩:=Qh.1 hc;exact ZC n u,by simp[Ze.at_]⟩
 refine aF func43 fun B=>?_
 refine gz ?_;refine Zca 5 200 34 1 rfl rfl ?_;refine Zr (ZsU l f caps g n H) l.length rfl ?_ ?_
 ·exact KK
 intro i hi;refine Yb rfl ?_;rcases Qe i l.length with h|h
 ·refine nq h ?_;refine nT ?_;refine nq2 (getD_map Zj _ _ h) h ?_;refine nR ?_;refine YC (avs:=[Zj l[i]]) rfl hf (hp l[i] (Qa h) (n+1) _ om fun l' k h=>Zi h _ _ _) rfl ?_;have hfl:flat [Zj (g l[i])]=[Zj (g l[i])]:=Zpl _ rfl;have hta:((l.take i).map g).map Zj++[Zj (g l[i])]=((l.take (i+1)).map g).map Zj:=by rw[Qn h,QI,QI];rfl
  refine aq2 hfl hta ?_;refine⟨rfl,⟨Zm om,om⟩,?_⟩;refine gd ?_;apply kZ;repeat' first|apply q0|exact xx|apply aI
  ·refine aS ?_;rw[iw];exact .refl _
  all_goals first|exact hfi _|exact hbi _|exact hmb _ _ _|exact .msl _ _ _ _ (.inr ⟨rfl,rfl⟩)|exact hmi _ _
 ·refine nq (QG.2 h) ?_;refine gg ?_;have hi':i=l.length:=om;subst hi';refine nt0 ?_;refine Zbv 200 l2 k2 _ [(4,.msl 1 l2 k2 l.length)] hl2 hfr rfl (hbb _ _) ⟨⟨.inr (.inr (.inr ⟨1,_,rfl⟩)),by simp[lkv,ren];exact .refl _⟩,trivial⟩ trivial ?_;refine nV ?_;exact Zn (.refl _) (.msl _ _ _ _ hl2) ⟨rfl,rfl⟩
section
variable {L:List (Nat×Ze)} {tm:List (Nat×AV)} {n:Nat}
def ZjK{N:Nat}{H:Za}{j0 i:Nat}{av av':AV}{cs:List AV}(hj0:lkb L j0=some (.box cs))(hi:cs[i]? =some av)(hw:Wk av av'):AWk n N ⟨tm,L,H⟩ ⟨tm,setb L j0 (.box (cs.set i av')),H⟩:=fun B E w a hs=>by
 have h:=hs.heap;obtain⟨b0,hm0,c,t,hc,hv⟩:=h.box n j0 cs (Qp n) (by simp only[full,if_true];exact hj0);obtain⟨hil,hie⟩:=Q8.1 hi;obtain⟨hh2,hx2⟩:=h.turn (w':=w) (.inl hm0) (.box (cs.set i av')) (fun hg=>absurd (h.m_g hm0) hg) rfl rfl rfl (fun _=>Qd _) rfl (fun _ _=>rfl) (fun o=>h.mF _ _ _ o hm0)
  ⟨b0,hm0,c,t,hc,by rw[Me];exact hv.1,fun i' g1 g2=>by
   rw[Gj];split
   ·rename_i e;subst e;have:=hv.2 i hil g2;rw[hie]at this;exact hw.vr this
   ·exact hv.2 i' (by simpa using g1) g2⟩
 rw[←Zl]at hh2;exact⟨E,⟨hs.size,hs.defs,hs.tmps,hh2,hs.out⟩,.refl _ _ _⟩
def ZpV{cx:Cx}(hP:cx.P=prog){o:Oper}{args:List Operand}{ts:List TypeId}{H:Za}{k:Nat}{S:List Str}{x:Str}{K:Zb→Prop}(hk:lkb L k=some (.map (encS S)))
  (ha:Yn cx.T (evT tm) args ts=[.map cx.n k,.sl 1 [.str x] .full]) (h:K ⟨Yk tm o.dst (.tup []),setb L k (.map (encS (ZM S [x]))),H⟩):ZdS cx o (.func 40) args ts ⟨tm,L,H⟩ K:=by
 obtain⟨P,T,φ,n,N⟩:=cx;dsimp only at hP ha h;subst hP;refine⟨40,_,_,[],.tup [],setb L k (.map (encS (ZM S [x]))),H,rfl,Zf func40 rfl rfl,?_,.refl _ _,h⟩;rw[Qs,ha,Zl];exact Zh.args (j40 (n+1) _ n k (Qp n) S [x] sm (by simp only[full,if_true];exact hk)) ⟨.refl _,.any _ _ _,trivial⟩
def o10a:Opt:=⟨true,true,fun d=>if d=48 then .heap else if d=49∨d=70 then .call else .auto,[]⟩
variable {p:Nat→Prop}
def ZrD{j:Nat}(h:p j):Inside n p (.iptr [.map n j]):=.iptr _ fun i hi=>Yf.mem (l:=[.map n j]) (p:=fun c=>Inside n p c) ⟨.map _ _ (.inr ⟨rfl,h⟩),trivial⟩ _ (Qa hi)
def ZeZ(n ls bs:Nat)(now:List Bnd)(m:Nat):Ze:=.box [.map n 51,.ptr ls bs 0,.sl 1 (now.map Zj) .any,.msl 1 n 200 m]
def Zmd(n ls bs:Nat)(l:List Lt)(b:Bnd)(K1:List Str)(H:Za):Zb:=
 ⟨[(13,.ptr n 56 0),(10,.iptr [.map n 39]),(0,.sl 13 (l.map Lt.enc) .any),(2,.sl 5 (b.map eBd) .any)],[(39,.map (encS K1)),(51,.map []),(200,.Zg 84 1 [] 0),(56,ZeZ n ls bs [b] 0)],H⟩
def Ztj(n ls bs:Nat)(l:List Lt)(b:Bnd)(K1:List Str)(H:Za)(i:Nat):Zb:=
 ⟨[(59,.int .i64 i),(58,.int .i64 b.length),(57,.sl 5 (b.map eBd) .any),(13,.ptr n 56 0),(10,.iptr [.map n 39]),(0,.sl 13 (l.map Lt.enc) .any)],
  [(39,.map (encS (ZM K1 (Zo (b.take i))))),(51,.map (encS (ZM [] (Zo (b.take i))))),(200,.Zg 84 1 [] 0),(56,ZeZ n ls bs [b] 0)],H⟩
def ZoY{j:Nat}(h:p j):Inside n p (.ptr n j 0):=.ptr _ _ _ (.inr ⟨rfl,h⟩)
def Ztn{ls bs:Nat}(hls:ls<n)(h:p 51)(h2:p 200)(now:List Bnd)(m:Nat):Yf (fun c=>Inside n p c) [.map n 51,.ptr ls bs 0,.sl 1 (now.map Zj) .any,.msl 1 n 200 m]:=
 ⟨Zen h,.ptr _ _ _ (.inl hls),(Zw now).inside,.msl _ _ _ _ (.inr ⟨rfl,h2⟩),trivial⟩
def Q10(n:Nat)(s:Sto)(l:List Lt)(b:Bnd)(H:Za):AV→Za→Prop:=fun r' H'=>r'= .tup [.sl 1 ((ZN s.A l b).1.map Zj) .any,eInt (ZN s.A l b).2]∧H'=H
def Zmo(n ls bs:Nat)(l:List Lt)(b:Bnd)(K2 S0:List Str)(H:Za):Zb:=
 ⟨[(16,.sl 1 [] .full),(13,.ptr n 56 0),(10,.iptr [.map n 39]),(0,.sl 13 (l.map Lt.enc) .any)],[(39,.map (encS K2)),(51,.map (encS S0)),(200,.Zg 84 1 [] 0),(56,ZeZ n ls bs [b] 0)],H⟩
def ZnE(A:List Am)(p:List Stp)(now:List Bnd):Zch A p now 0=now:=by cases p<;>rfl
def ZmF(n ls bs:Nat)(K2 S1:List Str)(D:List (Stp×Lt))(now:List Bnd)(H:Za):Zb:=
 ⟨[(13,.ptr n 56 0),(10,.iptr [.map n 39])],[(39,.map (encS K2)),(51,.map (encS S1)),(200,.Zg 84 1 (D.map (fnV n 56)) D.length),(56,ZeZ n ls bs now D.length)],H⟩
def Zsy(l bx:Nat)(q:Stp×Lt):fnV l bx q= .fn (.func (fnF q)) (fnC l bx q):=by
 obtain⟨s,x⟩:=q;cases s<;>rfl
def Zsq(h:p 56)(q:Stp×Lt):Inside n p (fnV n 56 q):=by
 have hp:Inside n p (.iptr [.ptr n 56 0]):=.iptr _ fun i hi=>Yf.mem (l:=[.ptr n 56 0]) (p:=fun c=>Inside n p c) ⟨ZoY h,trivial⟩ _ (Qa hi)
 have key:∀f cs,Yf (fun c=>Inside n p c) cs→Inside n p (.fn f cs):=fun f cs h=>Inside.fn _ _ fun i hi=>h.mem _ (Qa hi)
 obtain⟨s,x⟩:=q;cases s with
 |test y=>exact key _ _ ⟨hp,(Zk y.bcs).inside,trivial⟩
 |bind s t=>exact key _ _ ⟨hp,(Zk (cs:=[.str s]) ⟨.str _,trivial⟩).inside,(Zk t.bcs).inside,trivial⟩
 |atom a=>exact key _ _ ⟨hp,(Zk x.bcs).inside,trivial⟩
def Zml(h:p 56)(D:List (Stp×Lt)):Yf (fun c=>Inside n p c) (D.map (fnV n 56)):=Z4 fun c hc=>by
 obtain⟨q,_,rfl⟩:=Qh.1 hc;exact Zsq h q
def ZtS(n ls bs:Nat)(K2 S1:List Str)(D:List (Stp×Lt))(now:List Bnd)(H:Za)(i:Nat):Zb:=
 ⟨[(98,.int .i64 i),(97,.int .i64 D.length),(96,.msl 1 n 200 D.length),(13,.ptr n 56 0),(10,.iptr [.map n 39])],[(39,.map (encS K2)),(51,.map (encS S1)),(200,.Zg 84 1 (D.map (fnV n 56)) D.length),(56,ZeZ n ls bs now D.length)],H⟩
def ZuB(hE:ExpOK)(n:Nat)(H:Za)(hT:Tabs H)(hn:0<n)(ls bs:Nat)(hls:ls<n)(s:Sto)(hs:ZV H ls bs s)(hok:Ok s)(l:List Lt)(b:Bnd)(hb:b.length≤1000)(F:List Lt)(hF:Zd3 l b F)(hvb:validB b=true)
  (K2 S1 S0:List Str) (hK2:∀x,x∈K2↔x∈ZR l b) (hS0:∀x,x∈S0↔x∈Zo b) (D:List (Stp×Lt)) (X:List Str×List Lt) (hP:plG F.length S0 F=(D,X)) (ho:∀x∈l,okX x) (hpl:VA (Zo b) (XO l (ZR l b))=some (D.map Prod.fst))
  (hj:ZN s.A l b=if(Vb s.A (D.map Prod.fst) [b]).2=0 then(XH YI ((Vb s.A (D.map Prod.fst) [b]).1.map (VX (ZR l b))),0)else([],(Vb s.A (D.map Prod.fst) [b]).2)) (B:Base):
  AKc ⟨prog,tt,⟨none,B⟩,n,Tryz.f10.ntmps⟩ [.code (ZQ Tryz.f10).snd.snd.snd.snd.snd.snd.snd.snd.snd.snd] (PostF prog tt n Tryz.f10.results.toList (Q10 n s l b H)) (ZmF n ls bs K2 S1 D [b] H):=by
 obtain⟨r0,hD,hDl,hDv⟩:=ZnJ (A:=s.A) hF hvb hS0 hP;have hFl:=hF.len;unfold ZmF;refine nr ?_;simp only[go_sem,simprocAttr,ZeZ];repeat refine kn rfl ?_
 refine Ya (fun i=>ZtS n ls bs K2 S1 D (Zch s.A (D.map Prod.fst) [b] i) H i) (fun i=>Zj2 s.A (D.map Prod.fst) (Zo b) [b] i) D.length rfl ?_ r0 ?_
 ·rw[ZnE];exact KK
 intro i hi hr;refine Yb rfl ?_;rcases Qe i D.length with h|h
 ·have hil:i<(D.map Prod.fst).length:=by simpa using h
  have huse:=hr.use hF hb hDv hil;have hnl:=hr.len;have hns:=Zee s.A (D.map Prod.fst) [b] i hil;have hstep:=hr.step (fun a ha=>hok.v a ha) hil;rw[QU]at huse hns hstep;obtain⟨q,hq⟩:∃q,q=D[i]:=⟨_,rfl⟩
  rw[←hq]at huse hns hstep;obtain⟨hqF,hqM⟩:=hD q (hq▸Qa h);have h1:((D.map (fnV n 56)).drop (i*1)).getD 0 .dead=fnV n 56 q:=by rw[Qaf,hq];simp[h]
  have h2:i*1+1≤(D.map (fnV n 56)).length:=by simp;omega
  have hre:=hr.eq;rw[Qw hil,QU,←hq,Vb]at hre;generalize hN:Zch s.A (D.map Prod.fst) [b] i=now at*;refine nq h ?_;refine nT ?_;refine nq2 h h1 ?_;refine⟨⟨om,om,om⟩,?_⟩;refine nR ?_;obtain⟨fn,cd,hfun⟩:=Zqz q;refine YW (caps:=fnC n 56 q) (avs:=[]) (Zsy n 56 q) hfun (ZtQ hE (n+1) _ (hT.full hn) om n 56 ls bs (Qp n) hls (.map n 51) (.msl 1 n 200 D.length) now om (by simp[full,lkb,ZeZ,prB]) ⟨.map _ _ om,.msl _ _ _ _ om⟩ s (hs.full hls _) hok q hqM (hF.sm _ hqF) (hF.op _ hqF) huse) rfl ?_;rintro r H1 ⟨rfl,rfl⟩;refine⟨_,H,(Zl n _ H 56 _).symm,.refl _ _,?_⟩;refine aS ?_;cases he:((Go.Abs.Xk (stepS s.A q.1) now).2 !=0)with
  |true=>
   have he':¬(Go.Abs.Xk (stepS s.A q.1) now).2=0:=by simpa using he
   rw[if_neg he']at hre;refine nq he ?_;refine gn ?_;unfold Q10;rw[hj,hre,if_neg he'];exact ZE (.any _ _ _) (.refl _) (Zw []) (.int _ _) rfl
  |false=>
   have he':(Go.Abs.Xk (stepS s.A q.1) now).2=0:=by simpa using he
   refine nq he ?_;refine gm ?_;refine⟨hstep he',?_⟩;rw[hns];exact KK
 ·have hi':i=D.length:=om;subst hi';have hre:=hr.eq;rw[Ur sm,Vb]at hre;have hok2:=hr.ok;have hnl:=hr.len;have hln:=Zm9 hF hb hDv hr;generalize Zch s.A (D.map Prod.fst) [b] D.length=out at*;rw[hre,if_pos rfl]at hj;have hsame:∀c∈out,XV (ZR l b) (VX (ZR l b) c):=fun c hc=>Zp0 ho hpl (hok2 c hc).1 fun n=>by
   have:=(hok2 c hc).2 n
   rwa [QZ sm]at this
  have hSD:∀c∈out.map (VX (ZR l b)),SD (ZR l b) c:=fun c hc=>by
   obtain⟨x,hx,rfl⟩:=Qh.1 hc;exact⟨hsame x hx,Uy (UN _ _) (by have:=hln x hx;omega)⟩
  refine nr ?_;simp only[go_sem,simprocAttr,QG.2 h];refine gg ?_;refine nr ?_;simp only[go_sem,simprocAttr,ZeZ];refine YW (caps:=[]) (avs:=[.sl 1 (out.map Zj) .any,.fn (.func 44) [.iptr [.map n 39]]]) rfl (Zf func43 rfl rfl) (k43 (n+1) _ out om 44 [.iptr [.map n 39]] (VX (ZR l b)) ⟨⟨_,_,Zf func44 rfl rfl⟩,fun x hx m G hm hG=>?_,fun m hm=>⟨Zk (cs:=[.map n 39]) ⟨.map _ _ om,trivial⟩,trivial⟩⟩ n 202 (Qp n) (by simp[full,lkb])) sS ?_
  ·rw[←ZlT hK2];exact k44 m G (hT.up fun k=>by rw[hG 0 k om,Zi hn]) om n 39 om K2 (by rw[hG _ _ om];simp[full,lkb]) x (by have:=hln x hx;omega) fun q hq=>Xw ((hok2 x hx).1.val q hq)
  rintro r H1 ⟨rfl,rfl⟩;refine⟨_,H,(Zl n _ H 202 _).symm,.refl _ _,?_⟩;obtain⟨rs,hrs⟩:∃rs,rs=out.map (VX (ZR l b)):=⟨_,rfl⟩
  have hrl:out.length=rs.length:=by rw[hrs,Qv]
  rw[←hrs,hrl];rw[←hrs]at hSD hj;refine gP ?_;refine YW (caps:=[]) (avs:=[.msl 1 n 202 rs.length,.fn (.func 51) []]) rfl (Zf func50 rfl rfl) (k50 (n+1) _ n 202 (ZR l b) rs hSD om (by simp[full,lkb,flat_bnds])) sS ?_;rintro r H1 ⟨rfl,ys,hp,ha,rfl⟩;refine⟨_,H,(Zl n _ H 202 _).symm,.refl _ _,?_⟩;have hyl:rs.length=ys.length:=hp.length_eq.symm;have hyg:∀c∈ys,SD (ZR l b) c:=fun c hc=>hSD c (hp.mem_iff.1 hc)
  have hkp:kpt YI ys ys.length=XH YI rs:=Zm1 (ZtY _) hSD hp ha;refine aq hyl ?_;refine nR ?_;refine YW (caps:=[]) (avs:=[.msl 1 n 202 ys.length,.fn (.func 53) []]) rfl (Zf func52 rfl rfl) (k52 (n+1) _ n 202 (Qp n) ys om (fun c hc=>⟨(hyg c hc).2,fun q hq=>Xw ((hyg c hc).1.1.val q hq)⟩) (by simp[full,lkb])) sS ?_;rintro r H1 hq;unfold Zs9 at hq;rw[hkp]at hq;have hin:∀q:List Bnd,∀c∈flat (q.map Zj),Inside n (fun k=>k≠202) c:=fun q c hc=>((ZhE (n:=n) (m:=0) q).1 c hc).inside
  have hLi:∀p∈[(39,Ze.map (encS K2)),(51,.map (encS S1)),(200,.Zg 84 1 (D.map (fnV n 56)) D.length),(56,.box [.map n 51,.ptr ls bs 0,.sl 1 (out.map Zj) .any,.msl 1 n 200 D.length])],p.2.Inside n (fun k=>k≠202):=fun p hp=>by
   simp only[Qk,QA,or_false]at hp;rcases hp with rfl|rfl|rfl|rfl
   ·exact⟨fun c hc=>((WH (n:=n) K2).1 c hc).inside,by simp[Ze.at_]⟩
   ·exact⟨fun c hc=>((WH (n:=n) S1).1 c hc).inside,by simp[Ze.at_]⟩
   ·exact⟨fun c hc=>(Zml (p:=fun k=>k≠202) dc D).mem c hc,by simp[Ze.at_]⟩
   ·exact Ze.Zx (Ztn hls dc dc out D.length)
  rcases hq with⟨rfl,rfl,e⟩|⟨rfl,hpos,hle,rfl⟩
  ·rw[e]at hkp;refine⟨_,H,rfl,.refl _ _,?_⟩;refine aS ?_;refine ZL (Xl (tm':=[(6,.sl 1 (ys.map Zj) .any),(7,.int .i64 0)]) (j:=202) (ys.map Zj) rfl rfl sm (ZmM ys) (hin ys) (fun p hp=>?_) hLi) ?_
   ·simp only[Qk,QA,or_false]at hp;rcases hp with rfl|rfl
    ·exact .inr ⟨1,rfl,rfl⟩
    ·exact .inl ⟨.refl _,.int _ _⟩
   refine nV ?_;unfold Q10;rw[hj,e];exact ZE (.refl _) (.refl _) (Zw _) (.int _ _) rfl
  ·refine⟨_,H,(Zl n _ H 202 _).symm,.refl _ _,?_⟩;refine aS ?_;generalize XH YI rs=U at*;refine ZL (Jv (tm':=[(6,.sl 1 (U.map Zj) .any),(7,.int .i64 0)]) (j:=202) (U.map Zj++List.replicate (ys.length - U.length) zBn) rfl rfl (by simp;omega) (fun x hx=>?_) (fun c hc=>?_) (fun p hp=>?_) hLi) ?_
   ·rcases Qj.1 hx with hx|hx
    ·exact ZmM U x hx
    ·rw[(Ug.1 hx).2];rfl
   ·obtain⟨z,hz,hc⟩:=Qz.1 hc;rcases Qj.1 hz with hz|hz
    ·obtain⟨y,_,rfl⟩:=Qh.1 hz;exact(Below.cells (ZC n y) c hc).inside
    ·rw[(Ug.1 hz).2]at hc;simp only[zBn,AV.cells,Qm]at hc;subst hc;exact inZ
   ·simp only[Qk,QA,or_false]at hp;rcases hp with rfl|rfl
    ·exact .inr (.inr ⟨0,U.length,rfl,by rw[GZ,MZ sm]⟩)
    ·exact .inl ⟨.refl _,.int _ _⟩
   refine nV ?_;unfold Q10;rw[hj];exact ZE (.refl _) (.refl _) (Zw _) (.int _ _) rfl
def Zku(K:List Str)(i:Nat):Str:=K.getD i []
def Zk5(K:List Str):(List.range K.length).map (Zku K)=K:=by
 apply Gh
 ·simp
 ·intro i h1 h2;simp[Zku,h2]
def Zpc(n ls bs:Nat)(l:List Lt)(b:Bnd)(K2 S0:List Str)(H:Za)(seen:List Nat):Zb:=
 ⟨[(78,.ptr n 78 0),(16,.sl 1 ((seen.map (Zku K2)).map .str) (.buf n 201)),(13,.ptr n 56 0),(10,.iptr [.map n 39]),(0,.sl 13 (l.map Lt.enc) .any)],
  [(78,.iter n 39 K2.length seen),(201,.buf 9 1 seen.length),(39,.map (encS K2)),(51,.map (encS S0)),(200,.Zg 84 1 [] 0),(56,ZeZ n ls bs [b] 0)],H⟩
def Zu9(hE:ExpOK)(n:Nat)(H:Za)(hT:Tabs H)(hn:0<n)(ls bs:Nat)(hls:ls<n)(s:Sto)(hs:ZV H ls bs s)(hok:Ok s)(l:List Lt)(hl:l.length≤10)(hsm:∀x∈l,Sm x)(hop:∀x∈l,0≤x.op∧x.op≤255)(b:Bnd)(hb:b.length≤1000)(hv:l.all Yq=true)(hvb:validB b=true)
  (K2 S0:List Str) (hK:K2.Nodup) (hK2:∀x,x∈K2↔x∈ZR l b) (hS0:∀x,x∈S0↔x∈Zo b) (B:Base):
  AKc ⟨prog,tt,⟨none,B⟩,n,Tryz.f10.ntmps⟩ [.code (ZQ Tryz.f10).snd.snd.snd.snd.snd.snd.snd.snd] (PostF prog tt n Tryz.f10.results.toList (Q10 n s l b H)) (Zmo n ls bs l b K2 S0 H):=by
 unfold Zmo;have hKl:K2.length≤7100:=Uy (Xm hK fun x hx=>(hK2 x).1 hx) (Zfr hl hsm hb);have hel:(encS K2).length=K2.length:=by simp[encS,ZaT]
 have hgd:∀j (h:j<K2.length),(encS K2).getD j (.dead,.dead)=(.str K2[j],.agg []):=fun j h=>by
  rw[Qo];simp[encS,ZaT,h]
 have hso:∀(q:Nat→Prop) (r:List Str),q 201→Inside n q (.sl 1 (r.map .str) (.buf n 201)):=fun q r h=>Abs.Yx (mB fun u=>.str _) h
 have hit:∀(q:Nat→Prop) (m:Nat) (z:List Nat),q 39→Ze.Inside n q (.iter n 39 m z):=fun q m z h=>⟨by simp[Ze.avs],fun q' hq=>by simp only[Ze.at_,Qm]at hq;subst hq;exact .inr ⟨rfl,h⟩⟩
 refine gh ?_;refine Xz 16 201 9 1 rfl rfl ?_;refine Zaf (fun m st=>∃seen:List Nat,seen.Nodup∧(∀i∈seen,i<K2.length)∧m=K2.length - seen.length∧st=Zpc n ls bs l b K2 S0 H seen) (m0:=K2.length) (s0:=Zpc n ls bs l b K2 S0 H []) rfl ?_ ⟨[],sm,sm,sm,rfl⟩ ?_
 ·rw[hel];exact KK
 rintro m st ⟨seen,hnd,hlt,rfl,rfl⟩;refine Yb rfl ?_;have hlen:seen.length≤K2.length:=by
  have:=Xm hnd (q:=List.range K2.length) (fun i hi=>by simpa using hlt i hi);simpa using this
 refine nR ?_;refine⟨78,n,39,encS K2,seen,rfl,by simp only[go_sem,simprocAttr,hel],sS,fun hall=>?_,fun i hi hni=>?_⟩
 ·refine aS ?_;refine gg ?_;have hp:(seen.map (Zku K2)).Perm K2:=by
   conv=>rhs;rw[←Zk5 K2]
   refine List.Perm.map _ ((QaW hnd Qaz).2 fun i=>?_);rw[MJ];exact⟨hlt i,fun h=>hall i om⟩
  have hll:seen.length=(seen.map (Zku K2)).length:=sm;rw[hll];generalize seen.map (Zku K2)=ks at*;have hks:∀k,k∈ks↔k∈ZR l b:=fun k=>by rw[hp.mem_iff,hK2]
  have hkl:ks.length≤7100:=by rw[hp.length_eq];exact hKl
  have hfl:XO l ks=XO l (ZR l b):=ZdZ (fun x=>by rw[Qj,Qj,hks]) l 0;have hj26:=j26 l hl hsm ks om;rw[hfl]at hj26;obtain⟨F,hF⟩:∃F,F=XO l (ZR l b):=⟨_,rfl⟩
  rw[←hF]at hj26;refine nR ?_;refine cQ (Zh.args (hj26 (n+1) _ om (hT.full hn)) (args':=[.sl 13 (l.map Lt.enc) .any,.sl 1 (ks.map .str) (.buf n 201)]) ⟨.refl _,.any _ _ _,trivial⟩) ?_;refine aS ?_;have hFO:Zd3 l b F:=hF▸Zrs hl hsm hop hb hv;have hFl:=hFO.len;refine YW (caps:=[]) (avs:=[.ptr n 56 0,.sl 13 (F.map Lt.enc) .any]) rfl (Zf func42 rfl rfl) (k42 (n+1) _ (hT.full hn) n 56 51 200 hn (Qp n) dc (.ptr ls bs 0) (.sl 1 ([b].map Zj) .any) S0 F hFO.sm om ⟨.ptr _ _ _ om,Zw _⟩ (by simp[full,lkb,ZeZ]) (by simp[full,lkb]) (by simp[full,lkb])) sS ?_;rintro r H1 ⟨rfl,rfl⟩;generalize hP:plG F.length S0 F=P;obtain⟨D,S1,R⟩:=P;refine⟨[(78,.iter n 39 K2.length seen),(201,.buf 9 1 ks.length),(39,.map (encS K2)),(51,.map (encS S1)),(200,.Zg 84 1 (D.map (fnV n 56)) D.length),(56,ZeZ n ls bs [b] D.length)],H,?_,.refl _ _,?_⟩
  ·unfold plH;rw[←Zl,←Zl,←Zl];rfl
  refine aS ?_;cases hbd:R.all (XT S1)with
  |false=>
   refine aS ?_;refine gj ?_;have hj:ZN s.A l b=([],120):=by rw[Zhi hv hvb hS0 (hF▸hP),hbd];rfl
   unfold Q10;rw[hj];exact ZE (.any _ _ _) (.refl _) (Zw []) (.int _ _) rfl
  |true=>
   refine aS ?_;refine nF ?_;refine Zbp rfl ?_;have hj:=Zhi (A:=s.A) hv hvb hS0 (hF▸hP);rw[hbd,if_pos rfl]at hj;have hD:∀c∈D.map (fnV n 56),Below (n+1) c:=fun c hc=>by obtain⟨q,_,rfl⟩:=Qh.1 hc;exact Zb5 n 56 (Qp n) q
   refine ZL (s':=ZmF n ls bs K2 S1 D [b] H) ?_ ?_
   ·unfold ZmF;exact KK
   exact ZuB hE n H hT hn ls bs hls s hs hok l b hb F hFO hvb K2 S1 S0 hK2 hS0 D (S1,R) hP (fun x hx=>(Zcc (Qx.1 hv x hx)).1) (ZnM hS0 (hF▸hP) hbd) hj B
 ·have hi':i<K2.length:=om;have hgi:=hgd i hi';refine aq hgi ?_;refine nT ?_;obtain⟨h0,t0,het⟩:∃h0 t0,seen++[i]=h0::t0:=by
   cases seen with
   |nil=>exact⟨i,[],rfl⟩
   |cons x y=>exact⟨x,y++[i],rfl⟩
  have hgl:∀p,(h0::t0).getLast p=i:=fun p=>by
   have:∀(l:List Nat) (q:l≠[]),l=seen++[i]→l.getLast q=i:=fun l q e=>by subst e;simp
   exact this _ p het.symm
  rw[het];refine nq3 hel hgl hgi ?_;refine⟨hi',?_⟩;refine nR ?_;refine⟨by first|exact⟨rfl,dc⟩|exact rfl,⟨Zm (by have:=hKl;omega),by have:=hKl;omega⟩,?_⟩;rw[←het];refine nN ?_;have hnd':(seen++[i]).Nodup:=GK.2 ⟨hnd,sm,fun x hx y hy e=>by
   simp only[Qm]at hy;subst hy;subst e;exact hni hx⟩
  have hlt':∀x∈seen++[i],x<K2.length:=fun x hx=>by
   rcases Qj.1 hx with hx|hx
   ·exact hlt x hx
   ·simp only[Qm]at hx;subst hx;exact hi'
  have hl1:(seen++[i]).length=seen.length+1:=sm;have hle':=Xm hnd' (q:=List.range K2.length) (fun x hx=>by simpa using hlt' x hx);simp only[Qg,Qr,QB,MX,QF]at hle';have hka:Zku K2 i=K2[i]:=by simp[Zku,hi']
  refine⟨K2.length - (seen++[i]).length,Zpc n ls bs l b K2 S0 H (seen++[i]),by simp only[Qg,Qr,QB];omega,?_,seen++[i],hnd',hlt',rfl,rfl⟩;apply kZ;repeat' first|apply q0|exact xx|apply aI
  all_goals first|exact(Ye l).inside|exact(ZC n _).inside|exact ZrD rfl|exact ZoY rfl|exact Zj3 _|exact Zen rfl|exact Inside.ptr _ _ _ (.inl hls)|exact(Zw _).inside|exact .msl _ _ _ _ (.inr ⟨rfl,rfl⟩)|exact hso _ (List.map _ _) rfl|(intro a ha;simp[Ze.avs]at ha;done)|(intro q hq;simp only[Ze.at_,Qm]at hq;subst hq;exact .inr ⟨rfl,rfl⟩)|(simp only[go_sem,simprocAttr,QI,hka];exact .refl _)|(simp only[go_sem,simprocAttr,hl1];done)
def ZuA(hE:ExpOK)(n:Nat)(H:Za)(hT:Tabs H)(hn:0<n)(ls bs:Nat)(hls:ls<n)(s:Sto)(hs:ZV H ls bs s)(hok:Ok s)(l:List Lt)(hl:l.length≤10)(hsm:∀x∈l,Sm x)(hop:∀x∈l,0≤x.op∧x.op≤255)(b:Bnd)(hb:b.length≤1000)(hv:l.all Yq=true)(hvb:validB b=true)(K1:List Str)(hK1:K1=ZM [] (l.flatMap ZI))(B:Base):
  AKc ⟨prog,tt,⟨none,B⟩,n,Tryz.f10.ntmps⟩ [.code (ZQ Tryz.f10).snd.snd.snd.snd.snd.snd] (PostF prog tt n Tryz.f10.results.toList (Q10 n s l b H)) (Zmd n ls bs l b K1 H):=by
 unfold Zmd;refine gh ?_;refine Zr (Ztj n ls bs l b K1 H) b.length rfl ?_ ?_
 ·exact KK
 intro i hi;refine Yb rfl ?_;rcases Qe i b.length with h|h
 ·have hstep:∀S,ZM (ZM S (Zo (b.take i))) [b[i].1]=ZM S (Zo (b.take (i+1))):=fun S=>by
   rw[Qn h];unfold Zo;rw[QI,V8];rfl
  refine nr ?_;refine aq h ?_;refine nT ?_;refine nq2 (getD_map eBd _ _ h) h ?_;refine nD o10a ?_;simp only[go_sem,simprocAttr,o10a,ZeZ];refine⟨rfl,?_⟩;refine ZpV rfl (k:=51) (x:=b[i].1) (S:=ZM [] (Zo (b.take i))) rfl sS ?_;rw[hstep];simp only[go_sem,simprocAttr];refine nR ?_;refine⟨rfl,?_⟩;refine YW (caps:=[]) (avs:=[.map n 39,.sl 1 [.str b[i].1] .full]) rfl (Zf func40 rfl rfl) (Zh.args (j40 (n+1) _ n 39 (Qp n) (ZM K1 (Zo (b.take i))) [b[i].1] sm (by simp only[full,if_true];rfl)) ⟨.refl _,.any _ _ _,trivial⟩) sS ?_;rintro r H1 ⟨rfl,rfl⟩;have hs39:=hstep K1;refine⟨_,H,(Zl n _ H 39 _).symm,.refl _ _,?_⟩;rw[hs39];simp only[go_sem,simprocAttr];refine gd ?_;exact KK
 ·have hi':i=b.length:=om;subst hi';rw[QN];refine nq (QG.2 h) ?_;refine gG ?_;refine ZL (s':=Zmo n ls bs l b (ZM K1 (Zo b)) (ZM [] (Zo b)) H) ?_ ?_
  ·unfold Zmo;exact KK
  exact Zu9 hE n H hT hn ls bs hls s hs hok l hl hsm hop b hb hv hvb (ZM K1 (Zo b)) (ZM [] (Zo b)) (addsN_nodup (hK1▸addsN_nodup .nil)) (fun x=>by rw[Vq,hK1,Vq];simp[ZR]) (fun x=>by rw[Vq];simp) B
end
end Go.Proofs.YtmdeagmbfhbbnaaGreatDoorR
