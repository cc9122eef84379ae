/- Flat. -/
import Derived.Test.YtmdeagmbfhbbnaaGreatDoorRM08
import Derived.Test.YtmdeagmbfhbbnaaGreatDoorRM06
import Derived.Test.YtmdeagmbfhbbnaaGreatDoorRM07
import Derived.Test.YtmdeagmbfhbbnaaGreatDoorRM03
import Derived.Test.YtmdeagmbfhbbnaaGreatDoorRM05
import Derived.ScopeJumps
import Derived.RecoverIn
set_option linter.all false
set_option maxRecDepth 100000
open Go.Proofs.Tryz
namespace Go.Proofs.YtmdeagmbfhbbnaaGreatDoorR
open Go.Abs
def Jo(S p q:List Str):ZP S (p++q)=ZP (ZP S p) q:=by unfold ZP;rw[Md]
section
variable {S:List Str}
def ZmP{cx:Cx}(hP:cx.P=prog){o:Oper}{args:List Operand}{ts:List TypeId}{tm:List (Nat×AV)}{L:List (Nat×Ze)}{H:Za}{k:Nat}{xs:List Str}{K:Zb→Prop}(hlen:xs.length≤1000000)(hk:lkb L k=some (.map (encS S)))
  (ha:Yn cx.T (evT tm) args ts=[.map cx.n k,.sl 1 (Yo xs) .any]) (h:K ⟨Yk tm o.dst (.tup []),setb L k (.map (encS (ZP S xs))),H⟩):Zem cx o (.func 40) args ts ⟨tm,L,H⟩ K:=by
 obtain⟨P,T,φ,n,N⟩:=cx;dsimp only at hP ha h;subst hP;refine⟨40,_,_,[],.tup [],setb L k (.map (encS (ZP S xs))),H,rfl,Zf func40 rfl rfl,?_,.refl _ _,h⟩;rw[Qs,ha,Zr];exact j40 (n+1) _ n k (Qr n) S xs hlen (by simp only[full,if_true];exact hk)
def flAO:Opt:=⟨true,true,fun d=>if d=48 then .call else .auto,[]⟩
def gAt(l:List Lt)(used:List Str)(i:Nat):List Str:=ZP (ZP [] used) ((l.take i).flatMap fun x=>(YB x).flatMap ZU)
def ZpE(l:List Lt)(used:List Str)(i:Nat)(h:i<l.length):gAt l used (i+1)=ZP (gAt l used i) ((YB l[i]).flatMap ZU):=by
 unfold gAt;rw[Qj h,Ut,Jo];simp
def ZuA(n:Nat)(l:List Lt)(used:List Str)(H:Za)(i:Nat):Zb:=
 ⟨[(24,.int .i64 i),(23,.int .i64 l.length),(22,.sl 13 (l.map Lt.enc) .any),(5,.ptr n 15 0),(0,.sl 13 (l.map Lt.enc) .any)],[(13,.map (encS (gAt l used i))),(15,.box [.map n 13,.int .i64 0,.sl 13 [] .full])],H⟩
def ZtU(n:Nat)(l:List Lt)(q:List Tm)(S:List Str)(i:Nat)(H:Za)(j:Nat):Zb:=
 ⟨[(38,.int .i64 j),(37,.int .i64 q.length),(36,.sl 4 (q.map Tm.enc) .any),(24,.int .i64 i),(23,.int .i64 l.length),(22,.sl 13 (l.map Lt.enc) .any),(5,.ptr n 15 0),(0,.sl 13 (l.map Lt.enc) .any)],[(13,.map (encS (ZP S ((q.take j).flatMap ZU)))),(15,.box [.map n 13,.int .i64 0,.sl 13 [] .full])],H⟩
variable {x:Lt}
def Sm.tx(h:Sm x):(∀t∈YB x,t.Good∧t.sz≤305)∧(YB x).length≤307:=by
 have h3:=h.len;have h4:=h.at_;refine⟨fun t ht=>?_,by simp[YB];omega⟩;simp only[YB,Ql]at ht;rcases ht with rfl|rfl|ht
 ·exact⟨h.good.L,h.L⟩
 ·exact⟨h.good.R,h.R⟩
 ·exact⟨h.good.at_.arg ht,by have:=Tm.ZbY ht;omega⟩
def flY(S:List Str)(x:Lt)(c:Nat):Lt:=⟨x.kind,x.neg,⟨x.at_.pred,if x.kind=1 then(flT.flTs S x.at_.args c).1 else x.at_.args⟩,x.op,x.L,x.R⟩
def flD(S:List Str)(x:Lt)(c:Nat):List (Nat×Tm):=if x.kind=1 then(flT.flTs S x.at_.args c).2.2 else []
def flN(S:List Str)(x:Lt)(c:Nat):Nat:=if x.kind=1 then(flT.flTs S x.at_.args c).2.1 else c
def Zjn(S:List Str)(x:Lt)(c:Nat):flX S x c=(flY S x c::(flD S x c).map VH,flN S x c):=by
 unfold flX flY flD flN;split
 ·rfl
 ·rfl
def ZrL(S:List Str)(x:Lt)(c:Nat):List AV:=(flY S x c).enc::(flD S x c).map Jl
def Vk(S:List Str):List Lt→Nat→List AV
 |[],_=>[]
 |x::r,c=>ZrL S x c++Vk S r (flN S x c)
theorem Ze3(S:List Str):∀(p q:List Lt) (c:Nat),Vk S (p++q) c=Vk S p c++Vk S q (Zav S p c)
 |[],q,c=>rfl
 |x::p,q,c=>by
  have:=Ze3 S p q (flN S x c);have e:(flX S x c).2=flN S x c:=by rw[Zjn]
  simp only[Q8,Vk,Zav,e,this,Uc]
def Zo1(S:List Str)(l:List Lt)(c i:Nat)(h:i<l.length):Vk S (l.take (i+1)) c=Vk S (l.take i) c++ZrL S l[i] (Zav S (l.take i) c):=by
 rw[Qj h,Ze3];simp[Vk]
variable {n:Nat}
def ZqF{c:Nat}:∀v∈ZrL S x c,Below n v∧ones v=true∧v.cells.length=13:=fun v hv=>by
 rcases Ql.1 hv with rfl|hv
 ·exact⟨Lt.blw n _,rfl,rfl⟩
 ·obtain⟨d,_,rfl⟩:=Qi.1 hv;exact⟨Zf1 n d,rfl,rfl⟩
def ZjA{n:Nat}{S:List Str}:∀{l:List Lt} {c:Nat},∀v∈Vk S l c,Below n v∧ones v=true∧v.cells.length=13
 |[],_,v,hv=>by cases hv
 |x::r,c,v,hv=>by
  rcases Qk.1 hv with hv|hv
  ·exact ZqF v hv
  ·exact ZjA v hv
def wkss_append:∀{p q r s:List AV},Zdt p q→Zdt r s→Zdt (p++r) (q++s)
 |[],[],_,_,_,h=>h
 |_::_,_::_,_,_,h1,h2=>⟨h1.1,wkss_append h1.2 h2⟩
 |[],_::_,_,_,h,_=>h.elim
 |_::_,[],_,_,h,_=>h.elim
def Zrw(S:List Str)(x:Lt)(c:Nat):Zdt (ZrL S x c) ((flX S x c).1.map Lt.enc):=by
 rw[Zjn];refine⟨.refl _,?_⟩;generalize flD S x c=ds;induction ds with
 |nil=>trivial
 |cons d ds ih=>exact⟨.ZcZ ⟨.refl _,.refl _,.refl _,.nil _ _ _,.refl _,.refl _,.refl _,.refl _,.nil _ _ _,.refl _,.refl _,.refl _,.refl _,trivial⟩,ih⟩
def ZiK(S:List Str):∀(l:List Lt) (c:Nat),Zdt (Vk S l c) ((flL S l c).map Lt.enc)
 |[],_=>trivial
 |x::r,c=>by
  have e:(flX S x c).2=flN S x c:=by rw[Zjn]
  rw[Vk,flL,QC,e];exact wkss_append (Zrw S x c) (ZiK S r _)
def ZpR(S:List Str)(l:List Lt)(c:Nat):(Vk S l c).length=(flL S l c).length:=by
 have:=(ZiK S l c).len;simpa using this.symm
def ZiG(S:List Str)(l:List Lt)(i:Nat):AV:=if i=0 then .sl 13 [] .full else match l[i - 1]? with
 |some x=>.sl 13 ((flD S x (Zav S (l.take (i - 1)) 0)).map Jl) .any
 |none=>.sl 13 [] .any
def ZjK(S:List Str)(l:List Lt)(i:Nat)(h:i<l.length):ZiG S l (i+1)= .sl 13 ((flD S l[i] (Zav S (l.take i) 0)).map Jl) .any:=by
 unfold ZiG;rw[if_neg om,show i+1 - 1=i by omega,Qb h]
def Zon(ds:List (Nat×Tm)):Below n (.sl 13 (ds.map Jl) .any):=ZB fun x hx=>by obtain⟨d,_,rfl⟩:=Qi.1 hx;exact Zf1 n d
def Zsr(n:Nat)(l:List Lt)(S:List Str)(H:Za)(i:Nat):Zb:=
 ⟨[(53,.int .i64 i),(52,.int .i64 l.length),(51,.sl 13 (l.map Lt.enc) .any),(10,.sl 13 (Vk S (l.take i) 0) (.buf n 201)),(5,.ptr n 15 0)],
  [(13,.map (encS S)),(15,.box [.map n 13,.int .i64 (Zav S (l.take i) 0),ZiG S l i]),(201,.buf 54 13 (Vk S (l.take i) 0).length)],H⟩
variable {p:Nat→Prop}
def Zjl{l:List Lt}{c:Nat}(h:p 201):Inside n p (.sl 13 (Vk S l c) (.buf n 201)):=Abs.Yj (fun x hx=>(ZjA x hx).1) h
def ZmS(ds:List (Nat×Tm)):Yg (fun c=>Inside n p c) (flat (ds.map Jl)):=Yb fun c hc=>((ZeA (n:=n) (e:=54) (k:=0) ds).1 c hc).inside
def outO:Opt:=⟨true,true,fun d=>if d=88∨d=93 then .own 201 else .auto,[201]⟩
def Zjz(S:List Str):Yg (fun c=>Inside n p c) (List.map (fun x=>x.1) (encS S)++List.map (fun x=>x.2) (encS S)):=Yb fun c hc=>((WX (n:=n) S).1 c hc).inside
def Zeu{k:Nat}(h:p k):Inside n p (.map n k):=.map _ _ (.inr ⟨rfl,h⟩)
theorem ZlG(x:Lt):[x.L.enc,x.R.enc]++x.at_.args.map Tm.enc=(YB x).map Tm.enc:=rfl
def ZqP{G:Za}{l b m q:Nat}{s:FZs}(h1:G l b=some (.box [.map l m,.int .i64 s.n,.msl 13 l q s.ds.length]))(h2:G l q=some (.Zg 54 13 (flat (s.ds.map Jl)) s.ds.length)):fsH G l b m q s=G:=by
 unfold fsH;rw[Yd h2,Yd h1]
def Zg6(h:Sm x):((YB x).flatMap ZU).length≤915:=by
 have h1:=flatMap_vars_len (YB x);have h2:=h.L;have h3:=h.R;have h4:=h.at_;simp only[YB,Tm.sz.szs]at h1⊢;omega
def ZlS{l:List Lt}(hl:l.length≤10)(hs:∀x∈l,Sm x){used:List Str}(hu:used.length≤10000):(Zak l used).length≤20000:=by
 have h1:=addsN_len (S:=ZP [] used) (l:=l.flatMap fun x=>(YB x).flatMap ZU);have h2:=addsN_len (S:=[]) (l:=used);have h3:∀q:List Lt,(∀x∈q,Sm x)→(q.flatMap fun x=>(YB x).flatMap ZU).length≤q.length*915:=by
  intro q;induction q with
  |nil=>intro _;simp
  |cons x q ih=>
   intro h;have a1:=Zg6 (h x sm);have a2:=ih fun y hy=>h y (by simp[hy])
   rw[QV,Qh,Qq];omega
 have h4:=h3 l hs;have h5:l.length*915≤10*915:=QF _ hl;simp only[QB]at h2;unfold Zak;omega
def j26(l:List Lt)(hl:l.length≤10)(hs:∀x∈l,Sm x)(used:List Str)(hu:used.length≤10000):ZR prog 26 [.sl 13 (l.map Lt.enc) .any,eSs used] (.sl 13 ((XZ l used).map Lt.enc) .any):=by
 intro n H hn hT;refine aF func26 fun B=>?_
 refine gc ?_;refine nR ?_;have hm0:encS (ZP [] [])=[]:=rfl;refine YT (caps:=[]) (avs:=[.map n 13,.sl 1 (Yo used) .any]) rfl (Zf func40 rfl rfl) (j40 (n+1) _ n 13 (Qr n) [] used om (by simp only[full,if_true];rfl)) (by simp only[go_sem,simprocAttr];rfl) ?_;rintro r H1 ⟨rfl,rfl⟩;refine⟨[(13,.map (encS (ZP [] used))),(15,.box [.map n 13,.int .i64 0,.sl 13 [] .full])],H,(Zr n _ H 13 _).symm,.refl _ _,?_⟩;refine aS ?_;refine gh ?_;refine Zm (ZuA n l used H) l.length rfl ?_ ?_
 ·exact KK
 intro i hi;refine ZQ rfl ?_;rcases Qe i l.length with h|h
 ·obtain⟨x,hx⟩:∃x,x=l[i]:=⟨_,rfl⟩
  have hxs:=hs _ (Qa h);have hg:=ZpE l used i h;rw[←hx]at hxs hg;refine nq h ?_;refine gH ?_;simp only[go_sem,simprocAttr,Lt.Zh _ _ h,h,←hx];refine nq ZlG ?_;obtain⟨hx1,hx2⟩:=hxs.tx;refine⟨rfl,⟨Zl (by have:=hxs.len;omega),by have:=hxs.len;omega⟩,?_⟩;generalize hq:YB x=q at hx1 hx2 hg;refine kK ?_;refine Zm (ZtU n l q (gAt l used i) i H) q.length rfl ?_ ?_
  ·exact KK
  intro j hj;refine ZQ rfl ?_;rcases Qe j q.length with h'|h'
  ·have ht:=hx1 _ (Qa h');have hv:=ZeN q[j];have hv2:=nm_len.1 q[j];have hstep:ZP (ZP (gAt l used i) ((q.take j).flatMap ZU)) (ZU q[j])=ZP (gAt l used i) ((q.take (j+1)).flatMap ZU):=by
    rw[Qj h',Ut,Jo];simp
   refine nr ?_;refine aq h' ?_;refine nT ?_;refine nq2 (Tm.Zh _ _ h') h' ?_;refine nD flAO ?_;simp only[go_sem,simprocAttr,flAO];refine Zep (Zf func56 rfl rfl) (j56 q[j] ht.1 om) sS ?_;simp only[go_sem,simprocAttr,flAO];refine ZmP rfl (k:=13) (xs:=ZU q[j]) (S:=ZP (gAt l used i) ((q.take j).flatMap ZU)) om rfl sS ?_;rw[hstep];simp only[go_sem,simprocAttr];refine gd ?_;exact KK
  ·have hj':j=q.length:=om;subst hj';rw[QI,←hg];refine nq (QD.2 h') ?_;refine gg ?_;refine gd ?_;exact KK
 ·have hi':i=l.length:=om;subst hi';have hS:gAt l used l.length=Zak l used:=by unfold gAt Zak;rw[QI]
  rw[hS];refine nq (QD.2 h) ?_;refine gg ?_;refine gk ?_;refine Xn 10 201 54 13 rfl rfl ?_;refine Zm (Zsr n l (Zak l used) H) l.length rfl ?_ ?_
  ·exact KK
  intro i hi;refine ZQ rfl ?_;rcases Qe i l.length with h|h
  ·obtain⟨x,hx⟩:∃x,x=l[i]:=⟨_,rfl⟩
   have hxs:=hs _ (Qa h);rw[←hx]at hxs;refine nq h ?_;refine gH ?_;simp only[go_sem,simprocAttr,Lt.Zh _ _ h,h,←hx];refine gh ?_;refine Zbc 15 200 2 54 13 rfl rfl rfl ?_;simp only[go_sem,simprocAttr,U4,UO];refine Xz tok mixed drawO rfl rfl rfl ?_;refine aS ?_;refine cT (j49 x.L hxs.good.L) ?_;refine cT (j49 x.R hxs.good.R) ?_;obtain⟨S,hSe⟩:∃S,S=Zak l used:=⟨_,rfl⟩
   obtain⟨c,hc⟩:∃c,c=Zav S (l.take i) 0:=⟨_,rfl⟩
   have hSl:S.length≤20000:=by rw[hSe];exact ZlS hl hs hu
   have hx3:=hxs.at_;have hcl:c≤61006100:=by
    have h1:=(Zi2 (S:=S) (l:=l.take i) (fun y hy=>hs y (UC hy)) 0).1;have h2:(l.take i).length*(305*(S.length+2))≤10*(305*20002):=Qbd (by rw[QM];omega) (Qaz _ om);omega
   rw[←hSe,←hc];refine gh ?_;refine WM ⟨[(53,.int .i64 i),(52,.int .i64 l.length),(51,.sl 13 (l.map Lt.enc) .any),(10,.sl 13 (Vk S (l.take i) 0) (.buf n 201)),(5,.ptr n 15 0),(12,.ptr n 12 0)],
    [(13,.map (encS S)),(201,.buf 54 13 (Vk S (l.take i) 0).length),(12,.box (flY S x c).cs),(200,.Zg 54 13 (flat ((flD S x c).map Jl)) (flD S x c).length),(15,.box [.map n 13,.int .i64 (flN S x c),.msl 13 n 200 (flD S x c).length])],H⟩ ?_ ?_
   ·by_cases k1:x.kind=1
    ·have e1:(x.kind==1)=true:=by simp[k1]
     have eY:flY S x c=⟨x.kind,x.neg,⟨x.at_.pred,(flT.flTs S x.at_.args c).1⟩,x.op,x.L,x.R⟩:=by unfold flY;rw[if_pos k1]
     have eD:flD S x c=(flT.flTs S x.at_.args c).2.2:=by unfold flD;rw[if_pos k1]
     have eN:flN S x c=(flT.flTs S x.at_.args c).2.1:=by unfold flN;rw[if_pos k1]
     rw[eY,eD,eN];refine nTq e1 ?_;refine nR ?_;obtain⟨L,hL⟩:∃L:List (Nat×Ze),L=[(13,.map (encS S)),(15,.box [.map n 13,.int .i64 c,.msl 13 n 200 0]),(201,.buf 54 13 (Vk S (l.take i) 0).length),(12,.box x.cs),(200,.Zg 54 13 [] 0)]:=⟨_,rfl⟩
     simp only[Lt.cs]at hL;rw[←hL];have hself:fsH (full n L H) n 15 13 200 ⟨c,[]⟩=full n L H:=ZqP (by rw[hL];simp[full,lkb]) (by rw[hL];simp[full,lkb,flat]);have hmp:full n L H n 13=some (.map (encS S)):=by rw[hL];simp[full,lkb]
     have hargs:=x.at_.args;refine YT (caps:=[]) (avs:=[.sl 4 (x.at_.args.map Tm.enc) .any,.bfn (.func 71) [.ptr n 15 0]]) (Qc:=fun r H1=>r= .sl 4 ((flT.flTs S x.at_.args c).1.map Tm.enc) .any∧H1=fsH (full n L H) n 15 13 200 (Zaa S x.at_.args ⟨c,[]⟩ x.at_.args.length)) rfl (Zf func70 rfl rfl) (by
      rw[Qs];have he:=ZtJ (n+1) x.at_.args (by have:=hxs.len;omega) 71 [.ptr n 15 0] _ _ (Zf func71 rfl rfl) (flT.flTs S x.at_.args c).1 (Zaq S _ c) (fun i=>fsH (full n L H) n 15 13 200 (Zaa S x.at_.args ⟨c,[]⟩ i)) ?_ ?_ ?_
      ·simp only[ZhN,hself]at he;exact he
      ·exact .bfn _ _ fun i hi=>by
        simp only[Qq,QB]at hi;have:i=0:=om;subst this;exact .ptr _ _ _ om
      ·intro i h L';have h1:=j71 S n 15 13 200 hn dc dc dc x.at_.args[i] (hxs.good.at_.arg (Qa h)) (n+1+1) (full (n+1) L' (full n L H)) (Zaa S x.at_.args ⟨c,[]⟩ i) om (by rw[Zk om];exact hmp) ((hT.full hn).full om) ?_
       ·simp only[Zd4 (show n≠n+1 by omega),ZhY S x.at_.args _ i h];rw[ZmR S x.at_.args c i h (by rw[Zaq];exact h)];exact h1
       ·have h1:=Zii S x.at_.args c i;have h2:=Zgx x.at_.args i h;have h3:=ZbR x.at_.args (i+1);have h5:(Tm.sz.szs (x.at_.args.take i)+x.at_.args[i].sz)*(S.length+2)≤305*(S.length+2):=QF _ om;rw[Ui]at h5;have h6:305*(S.length+2)≤305*20002:=Qaz _ om;exact⟨om,by simp only[Zaa];omega,by simp only[Zaa,Q5];omega⟩
      ·intro i h;exact ZiY om dc) sS ?_
     rintro r H1 ⟨rfl,rfl⟩;have hend:Zaa S x.at_.args ⟨c,[]⟩ x.at_.args.length=⟨(flT.flTs S x.at_.args c).2.1,(flT.flTs S x.at_.args c).2.2⟩:=by unfold Zaa;rw[QI];rfl
     refine⟨setb (setb L 200 (.Zg 54 13 (flat ((flT.flTs S x.at_.args c).2.2.map Jl)) (flT.flTs S x.at_.args c).2.2.length)) 15 (.box [.map n 13,.int .i64 (flT.flTs S x.at_.args c).2.1,.msl 13 n 200 (flT.flTs S x.at_.args c).2.2.length]),H,by rw[hend];unfold fsH;rw[Zr,Zr],.refl _ _,?_⟩;rw[hL];refine gO ?_;refine⟨rfl,?_⟩;exact KK
    ·have e1:(x.kind==1)=false:=by simp[k1]
     have eY:flY S x c=x:=by unfold flY;rw[if_neg k1]
     have eD:flD S x c=[]:=by unfold flD;rw[if_neg k1]
     have eN:flN S x c=c:=by unfold flN;rw[if_neg k1]
     rw[eY,eD,eN];refine nFq e1 ?_;refine nR ?_;refine cT (j70 x.at_.args (by have:=hxs.len;omega) 49 [] id ⟨⟨_,_,Zf func49 rfl rfl⟩,fun u hu=>j49 u (hxs.good.at_.arg hu),fun _=>trivial⟩) ?_;refine nN ?_;refine⟨rfl,?_⟩;rw[QbI];exact KK
   have hT200:∀p∈([(53,.int .i64 i),(52,.int .i64 l.length),(51,.sl 13 (l.map Lt.enc) .any),(10,.sl 13 (Vk S (l.take i) 0) (.buf n 201)),(5,.ptr n 15 0),(12,.ptr n 12 0)]:List (Nat×AV)),p.1≠60∧Wk p.2 p.2∧Inside n (fun k=>k≠200) p.2:=by
    intro p hp;simp only[Ql,QA,or_false]at hp;rcases hp with rfl|rfl|rfl|rfl|rfl|rfl
    ·exact⟨sm,.refl _,.int _ _⟩
    ·exact⟨sm,.refl _,.int _ _⟩
    ·exact⟨sm,.refl _,(Yf l).inside⟩
    ·exact⟨sm,.refl _,Zjl dc⟩
    ·exact⟨sm,.refl _,.ptr _ _ _ (.inr ⟨rfl,dc⟩)⟩
    ·exact⟨sm,.refl _,.ptr _ _ _ (.inr ⟨rfl,dc⟩)⟩
   refine ZO (Y1 (tm':=[(53,.int .i64 i),(52,.int .i64 l.length),(51,.sl 13 (l.map Lt.enc) .any),(10,.sl 13 (Vk S (l.take i) 0) (.buf n 201)),(5,.ptr n 15 0),(12,.ptr n 12 0)]) (av':=.sl 13 ((flD S x c).map Jl) .any) (j0:=15) (i:=2) (j:=200) 60 (show 60<Tryz.f26.ntmps by decide) ((flD S x c).map Jl) dc rfl rfl (.inl ⟨13,rfl,rfl⟩) rfl rfl (by rw[Qw]) (fun y hy=>by obtain⟨d,_,rfl⟩:=Qi.1 hy;rfl) (ZmS _).mem ?_ ?_) ?_
   ·intro p hp;have h1:=hT200 p hp;simp only[Ql,QA,or_false]at hp;rcases hp with rfl|rfl|rfl|rfl|rfl|rfl<;>exact h1
   ·exact(show Yg (fun p:Nat×Ze=>p.2.Inside n (fun k=>k≠200)) [(13,.map (encS S)),(201,.buf 54 13 (Vk S (l.take i) 0).length),(12,.box (flY S x c).cs),(15,.box [.map n 13,.int .i64 (flN S x c),.dead])] from
     ⟨(WX S).inside,⟨fun a ha=>(by cases ha),fun p hp=>(by cases hp)⟩,Ze.Zy (Yb fun a ha=>((flY S x c).bcs.mem a ha).inside),Ze.Zy ⟨.map _ _ (.inr ⟨rfl,dc⟩),.int _ _,.dead,trivial⟩,trivial⟩).mem
   simp only[go_sem,simprocAttr,setb,delb,U4,UO];have hyc:(flY S x c).cs.length=13:=rfl;refine kK ?_;refine nD outO ?_;simp only[go_sem,simprocAttr,outO,UL,Nat.reduceBEq,UD,MB,Nat.reduceEqDiff];have hrt:Vk S (l.take (i+1)) 0=Vk S (l.take i) 0++[(flY S x c).enc]++(flD S x c).map Jl:=by
    rw[Zo1 S l 0 i h,←hx,←hc,Uc];rfl
   have hnt:Zav S (l.take (i+1)) 0=flN S x c:=by
    rw[(ZpL S l 0 i h).2,←hx,←hc,Zjn]
   have hma:ZiG S l (i+1)= .sl 13 ((flD S x c).map Jl) .any:=by rw[ZjK S l i h,←hx,←hc]
   have hl1:(Vk S (l.take i) 0).length≤3060:=by
    rw[ZpR];have h1:=(Zi2 (S:=S) (l:=l.take i) (fun y hy=>hs y (UC hy)) 0).2;have h2:(l.take i).length≤10:=by rw[QM];omega
    omega
   have hl2:(flD S x c).length≤305:=by
    unfold flD;split
    ·have:=((Zdc S).2 x.at_.args c).2;omega
    ·simp
   have hl3:(Vk S (l.take i) 0++[(flY S x c).enc]).length=(Vk S (l.take i) 0).length+1:=sm;have hl4:(Vk S (l.take i) 0++[(flY S x c).enc]++(flD S x c).map Jl).length=(Vk S (l.take i) 0++[(flY S x c).enc]).length+(flD S x c).length:=by simp only[Qh,Qw]
   refine⟨rfl,⟨Zl om,om⟩,⟨hl3.symm,fun y hy=>by obtain⟨d,_,rfl⟩:=Qi.1 hy;rfl,Zl om,om⟩,?_⟩;refine gd ?_;unfold Zsr;rw[hnt,hma,hrt,hl4];have hob:∀p:Nat→Prop,p 201→Inside n p (.sl 13 (Vk S (l.take i) 0++[(flY S x c).enc]++(flD S x c).map Jl) (.buf n 201)):=fun p h=>by rw[←hrt];exact Zjl h
   exact KK
  ·have hi':i=l.length:=om;subst hi';refine nq (QD.2 h) ?_;refine gg ?_;refine gE ?_;refine Zc ?_ (Yf _) rfl;rw[←Zke];refine aS ?_;exact .deep (WkS.slL (ZiK _ l 0))
end
structure BA (b:Bnd) (a:Am):Prop where
 gb:ZI b
 len:b.length≤100000
 good:a.Good
 sz:Tm.sz.szs a.args≤305
def BA.arg{b:Bnd}{a:Am}(h:BA b a){t:Tm}(ht:t∈a.args):t.Good∧(Zv b t).Good:=
 ⟨h.good.arg ht,Zaz h.gb (h.good.nm t ht) (by have:=Tm.ZbY ht;have:=h.sz;omega)⟩
def ZhP{b:Bnd}:∀{l:List Tm} {c:Int} {i:Nat} (h:i<l.length),(∀j (hj:j<l.length),j<i→Zo (Zv b l[j])=false)→Zo (Zv b l[i])=true→JF b l c=some (c+i,Zv b l[i])
 |t::r,c,0,_,_,hv=>by
  have hv:Zo (Zv b t)=true:=hv;rw[JF,if_pos hv];simp
 |t::r,c,i+1,h,h1,hv=>by
  have h0:=h1 0 sm om;simp only[Uh]at h0;rw[JF,if_neg (by simp[h0]),ZhP (l:=r) (i:=i) (by simpa using h) (fun j hj hji=>h1 (j+1) (by simpa using hj) om) hv];simp only[UU,Int.natCast_add];congr 2;omega
theorem Zfd{b:Bnd}:∀{l:List Tm} {c:Int},(∀t∈l,Zo (Zv b t)=false)→JF b l c=none
 |[],_,_=>rfl
 |t::r,c,h=>by
  rw[JF,if_neg (by simp[h t sm])];exact Zfd fun u hu=>h u (by simp[hu])
def ZtM(l bx:Nat)(n:Nat)(a:Am)(b:Bnd)(H:Za)(i:Nat):Zb:=
 ⟨[(13,.int .i64 i),(12,.int .i64 a.args.length),(11,.sl 4 (a.args.map Tm.enc) .any),(4,.ptr n 4 0),(0,.ptr l bx 0),(2,Zj b)],[(4,.box a.cs)],H⟩
def Zww(n:Nat)(H:Za)(l bx ls bs:Nat)(hl:l<n)(hls:ls<n)(mp td:AV)(now:List Bnd)(hbx:H l bx=some (prB mp (.ptr ls bs 0) now td))(s:Sto)(hs:ZV H ls bs s)(hok:Ok s)(hn:0<n)(hT:Tabs H)(a:Am)(b:Bnd)(h:BA b a):
  PC prog n 140 [.ptr l bx 0,a.enc,Zj b] H (.sl 2 ((Vx s.A a b).map Am.enc) .any):=by
 have hne:¬l=n:=om;have hal:=h.good.len;refine aF func140 fun B=>?_
 refine gk ?_;refine ZL (ZtM l bx n a b H) (fun i=>∀j (hj:j<a.args.length),j<i→Zo (Zv b a.args[j])=false) a.args.length rfl ?_ (fun j _ hj=>absurd hj (Qo _)) ?_
 ·exact KK
 intro i hi hq;refine ZQ rfl ?_;rcases Qe i a.args.length with hlt|hge
 ·have hg:=h.arg (Qa hlt);refine nq hlt ?_;refine nT ?_;refine nq2 (Tm.Zh _ _ hlt) hlt ?_;refine nR ?_;refine cT (ZsQ b h.gb.asc (by have:=h.len;omega) a.args[i] hg.1) ?_;refine nR ?_;refine cT (a37 (Zv b a.args[i]) hg.2) ?_;cases hv:Zo (Zv b a.args[i])with
  |true=>
   have hf:=ZhP (c:=0) hlt hq hv;have hc:Vx s.A a b=Zm8 s.A a.sg (i:Int) (Zv b a.args[i]):=by rw[Vx,hf];simp
   refine nT ?_;refine nD drawO ?_;simp only[go_sem,simprocAttr,hne,hbx,prB];refine cP (a56 a) ?_;have hix:=hok.ixR (⟨a.sg,(i:Int),txt (Zv b a.args[i])⟩:Ak);refine cQ (a32 (n+1) _ ls bs s a.sg (i:Int) (Zv b a.args[i]) hg.2 om (hs.full hls _) hok.g om (hT.full hn) hix.1 hix.2) ?_;simp only[go_sem,simprocAttr];refine nW ?_;rw[hc,←hok.find _ _ hv];simp only[hv,if_true];exact Zc (.refl _) (Xp _) rfl
  |false=>
   refine gm ?_;refine⟨fun j hj hji=>?_,?_⟩
   ·rcases Qe j i with h'|h'
    ·exact hq j hj h'
    ·have:j=i:=om;subst this;exact hv
   ·exact KK
 ·have hf:JF b a.args 0=none:=Zfd fun t ht=>by
   obtain⟨j,hj,rfl⟩:=QJ ht;exact hq j hj om
  have hc:Vx s.A a b=Zjr s.A a.sg:=by rw[Vx,hf]
  refine nr ?_;refine aq (QD.2 hge) ?_;refine gg ?_;refine nD drawO ?_;simp only[go_sem,simprocAttr,hne,hbx,prB];refine cP (a56 a) ?_;have hix:=hok.ixS a.sg;refine cQ (a30 (n+1) _ ls bs s a.sg om (hs.full hls _) hok.g om (hT.full hn) hix.1 hix.2) ?_;simp only[go_sem,simprocAttr];refine nV ?_;rw[hc,←hok.all];exact Zc (.refl _) (Xp _) rfl
def Zqd{A:List Am}{a:Am}{b:Bnd}:∀x∈Vx A a b,x∈A∧x.sg=a.sg:=fun x hx=>by
 unfold Vx at hx;split at hx
 ·obtain⟨h1,h2⟩:=Uy.1 hx;simp only[ZkN,Qd,beq_iff_eq]at h2;exact⟨h1,h2.1.1.1⟩
 ·obtain⟨h1,h2⟩:=Uy.1 hx;exact⟨h1,by simpa using h2⟩
def ZkJ(A:List Am)(a:Am)(b:Bnd):(Vx A a b).length≤A.length:=by
 unfold Vx;split
 ·exact UH _ _
 ·exact UH _ _
def atS(A:List Am)(a:Am)(b:Bnd):List Bnd×Int:=((Vx A a b).filterMap fun x=>matT.matL a.args x.args b,0)
def ZqV(a:Am)(b:Bnd)(l bx:Nat)(cs:List Am)(n:Nat)(H:Za)(i:Nat):Zb:=
 ⟨[(16,.int .i64 i),(15,.int .i64 cs.length),(14,.sl 2 (cs.map Am.enc) .any),(6,.sl 1 (((cs.take i).filterMap fun x=>matT.matL a.args x.args b).map Zj) (.buf n 200)),(0,Zj b),(2,.iptr a.cs)],
  [(200,.buf 34 1 ((cs.take i).filterMap fun x=>matT.matL a.args x.args b).length)],H⟩
def Zwp(n:Nat)(H:Za)(l bx ls bs:Nat)(hl:l<n)(hls:ls<n)(mp td:AV)(now:List Bnd)(hbx:H l bx=some (prB mp (.ptr ls bs 0) now td))(s:Sto)(hs:ZV H ls bs s)(hok:Ok s)(hn:0<n)(hT:Tabs H)(a:Am)(b:Bnd)(h:BA b a):
  PC prog n 139 [Zj b,.iptr [.ptr l bx 0],.iptr a.cs] H (.tup [.sl 1 ((atS s.A a b).1.map Zj) .any,eInt (atS s.A a b).2]):=by
 have hai:∀p,Inside n p (.iptr a.cs):=fun p=>(Zq a.bcs).inside
 have hcm:=Zqd (A:=s.A) (a:=a) (b:=b);have hcl:=Ue (ZkJ s.A a b) hok.A;have hbs:∀(q:List Bnd) (p:Nat→Prop),p 200→Inside n p (.sl 1 (q.map Zj) (.buf n 200)):=fun q p h=>Abs.Yj (mB fun u=>Zw n u) h
 have hat:atS s.A a b=((Vx s.A a b).filterMap fun x=>matT.matL a.args x.args b,0):=rfl;rw[hat];refine aF func139 fun B=>?_
 refine gc ?_;refine nR ?_;refine cQ (Zww (n+1) _ l bx ls bs om om mp td now (by rw[Zk hl];exact hbx) s (hs.full hls _) hok om (hT.full hn) a b h) ?_;generalize Vx s.A a b=cs at hcm hcl⊢;refine gM ?_;refine Xn 6 200 34 1 rfl rfl ?_;refine Zm (ZqV a b l bx cs n H) cs.length rfl ?_ ?_
 ·exact KK
 intro i hi;refine ZQ rfl ?_;rcases Qe i cs.length with hlt|hge
 ·have hx:=hcm _ (Qa hlt);have hxl:a.args.length=cs[i].args.length:=by
   have:=congrArg Sg.n hx.2;simp only[Am.sg]at this;omega
  have hxg:=hok.g _ hx.1;have hm:=ZuO a.args cs[i].args b hxl (fun t ht=>(h.arg ht).1) (fun u hu=>hxg.arg hu) h.gb.gb (by have:=h.len;have:=h.sz;omega);have hfl:=Qbn (fun x=>matT.matL a.args x.args b) (cs.take i);have hfl2:(cs.take i).length≤2000:=by rw[QM];omega
  have hstep:(cs.take (i+1)).filterMap (fun x=>matT.matL a.args x.args b)=(cs.take i).filterMap (fun x=>matT.matL a.args x.args b)++(matT.matL a.args cs[i].args b).toList:=by
   rw[Qj hlt,List.filterMap_append];congr 1
  refine nq hlt ?_;refine nT ?_;refine nq2 (Am.Zh _ _ hlt) hlt ?_;refine nR ?_;refine cP (hm) ?_;obtain e|⟨d,e⟩:matT.matL a.args cs[i].args b=none∨ ∃d,matT.matL a.args cs[i].args b=some d:=by cases matT.matL a.args cs[i].args b<;>simp
  ·rw[e,Option.toList_none,Qs]at hstep;simp only[go_sem,simprocAttr,ZlA,e,Qah,Qbv];refine nR ?_;refine gm ?_;unfold ZqV;rw[hstep];exact KK
  ·rw[e,Option.toList_some]at hstep;simp only[go_sem,simprocAttr,ZlA,e,Qag,Um];refine nR ?_;refine gi ?_;refine⟨rfl,⟨Zl om,om⟩,?_⟩;refine gd ?_;unfold ZqV;rw[hstep,QC,Qh];apply kZ;repeat' first|apply q0|exact xx|apply aI
   all_goals first|exact(Zw n b).inside|exact hai _|exact(Xp _).inside|(rw[←QC];exact hbs _ _ rfl)|exact hbs (_++[d]) _ rfl|exact xI
 ·have hi':i=cs.length:=om;subst hi';refine nq (QD.2 hge) ?_;refine gg ?_;refine gE ?_;exact ZG (.any _ _ _) (.refl _) (ZF _) (.int _ _) rfl
def j93(n:Nat)(H:Za)(hT:Tabs H)(hn:0<n)(l bx ls bs:Nat)(hl:l<n)(hls:ls<n)(mp td:AV)(now:List Bnd)(hnow:now.length≤1000000)(hbx:H l bx=some (prB mp (.ptr ls bs 0) now td))(hmp:Below n mp∧Below n td)(s:Sto)(hs:ZV H ls bs s)(hok:Ok s)(a:Am)(hx:∀c∈now,BA c a):
  Zi prog n 93 [.ptr l bx 0,a.enc] H fun r H'=>r=eInt (Go.Abs.Xo (atS s.A a) now).2∧H'=H.upd l bx (prB mp (.ptr ls bs 0) (Go.Abs.Xo (atS s.A a) now).1 td):=by
 have hne:l≠n:=om;refine aF func93 fun B=>?_
 refine gh ?_;refine Ya 2 [.ptr l bx 0] [(0,.ptr l bx 0),(2,.iptr [.ptr l bx 0]),(3,.ptr n 3 0)] rfl ⟨.ptr _ _ _ (.inl hl),trivial⟩ ?_ ⟨Ze.Zy (Yb fun c hc=>(a.bcs.mem c hc).inside),trivial⟩ ?_
 ·exact⟨.inl ⟨.refl _,.ptr _ _ _ (.inl hl)⟩,.inr ⟨0,rfl,rfl⟩,.inl ⟨.refl _,.ptr _ _ _ (.inr ⟨rfl,dc⟩)⟩,trivial⟩
 refine aS ?_;refine Ya 3 a.cs [(0,.ptr l bx 0),(2,.iptr [.ptr l bx 0]),(3,.iptr a.cs)] rfl ?_ ?_ trivial ?_
 ·exact Yb fun c hc=>(a.bcs.mem c hc).inside
 ·exact⟨.inl ⟨.refl _,.ptr _ _ _ (.inl hl)⟩,.inl ⟨.refl _,(Zq (cs:=[.ptr l bx 0]) ⟨.ptr _ _ _ hl,trivial⟩).inside⟩,.inr ⟨0,rfl,rfl⟩,trivial⟩
 refine nR ?_;refine YT (caps:=[]) (avs:=[.ptr l bx 0,.fn (.func 139) [.iptr [.ptr l bx 0],.iptr a.cs]]) rfl (Zf func130 rfl rfl) (j130 (n+1) _ l bx om mp (.ptr ls bs 0) td now hnow (by rw[Zk hl];exact hbx) ⟨hmp.1.mono om,.ptr _ _ _ om,hmp.2.mono om⟩ 139 [.iptr [.ptr l bx 0],.iptr a.cs] (atS s.A a)
  ⟨⟨_,_,Zf func139 rfl rfl⟩,fun c hc m H1 hm hH1=>?_,fun m hm=>⟨Zq (cs:=[.ptr l bx 0]) ⟨.ptr _ _ _ om,trivial⟩,Zq a.bcs,trivial⟩⟩ (fun c hc=>by
   have h1:=ZkJ s.A a c;have h2:=hok.A;have h3:=Qbn (fun x=>matT.matL a.args x.args c) (Vx s.A a c);simp only[atS];omega)) sS ?_
 ·exact Zwp m H1 l bx ls bs om om mp td now (by rw[hH1 _ _ om,Zk hl];exact hbx) s (fun k x hk=>by rw[hH1 _ _ om,Zk hls];exact hs k x hk) hok om (hT.up fun k=>by rw[hH1 _ _ om];exact Zk hn _ _ _) a c (hx c hc)
 rintro r H1 ⟨rfl,rfl⟩;refine⟨[],H.upd l bx (prB mp (.ptr ls bs 0) (Go.Abs.Xo (atS s.A a) now).1 td),(Yi n _ H l bx _ hne).symm,.upd (Ze.ZC ⟨hmp.1,.ptr _ _ _ hls,ZF _,hmp.2,trivial⟩),?_⟩;refine gw ?_;exact Zn (.refl _) (.int _ _) ⟨rfl,rfl⟩
def Zj0(m:Nat)(h:m≤100000000):(newV m).length≤140737488355328:=by
 have:=Lib.itoa_length_le (m:Int) om om;unfold newV;rw[Qq];omega
def totD(ds:List (Nat×Tm)):Nat:=(ds.map fun d=>d.2.sz+1).sum
def ZjU(p q:List (Nat×Tm)):totD (p++q)=totD p+totD q:=by simp[totD]
def ZsO(S:List Str):(∀t c,(flT S t c).1.sz+totD (flT S t c).2.2≤3*t.sz)∧ ∀l c,Tm.sz.szs (flT.flTs S l c).1+totD (flT.flTs S l c).2.2≤3*Tm.sz.szs l:=by
 refine XL (fun k n s l ih c=>?_) (fun c=>by simp[flT.flTs,Tm.sz.szs,totD]) fun t r h1 h2 c=>?_
 ·by_cases hk:k=5∨k=6
  ·rw[Ve hk];simp only[totD,Qv,Ux,QaQ,List.sum_nil,Tm.sz,Tm.sz.szs];omega
  ·rw[Vf hk];have:=ih c;simp only[Tm.sz];omega
 ·have a1:=h1 c;have a2:=h2 (flT S t c).2.1;simp only[flT.flTs,Tm.sz.szs,ZjU];omega
def Zu0(S:List Str)(B:Nat)(hB:B≤100000000):(∀t c,t.Nm→c+t.sz*(S.length+2)≤B→(flT S t c).1.Nm∧(flT S t c).1.sz≤t.sz∧ ∀d∈(flT S t c).2.2,d.1≤B∧d.2.Nm∧d.2.sz≤t.sz)∧
  ∀l c,(∀t∈l,t.Nm)→c+Tm.sz.szs l*(S.length+2)≤B→(∀t∈(flT.flTs S l c).1,t.Nm)∧Tm.sz.szs (flT.flTs S l c).1≤Tm.sz.szs l∧(flT.flTs S l c).1.length=l.length∧ ∀d∈(flT.flTs S l c).2.2,d.1≤B∧d.2.Nm∧d.2.sz≤Tm.sz.szs l:=by
 refine XL (fun k n s l ih c h hc=>?_) (fun c _ _=>by simp[flT.flTs,Tm.sz.szs]) fun t r h1 h2 c h hc=>?_
 ·by_cases hk:k=5∨k=6
  ·have hm:=((Zdc S).1 (.mk k n s l) c).1;rw[Ve hk]at hm⊢;have hm:XG S c≤c+(Tm.mk k n s l).sz*(S.length+2):=hm;have hz:=(Tm.mk k n s l).Zc7;refine⟨.mk _ _ _ _ (Zj0 _ om) dc dc sm (fun u hu=>by cases hu),by simp only[Tm.sz,Tm.sz.szs];omega,fun d hd=>?_⟩;simp only[Qm]at hd;subst hd;exact⟨om,h,Qg _⟩
  ·rw[Vf hk];cases h with|mk _ _ _ _ a1 a2 a3 a4 a5=>
   have hsz:Tm.sz.szs l*(S.length+2)≤(Tm.mk k n s l).sz*(S.length+2):=QF _ (by simp only[Tm.sz];omega);obtain⟨b1,b2,b3,b4⟩:=ih c a5 om;refine⟨.mk _ _ _ _ a1 a2 a3 (by rw[b3];exact a4) b1,by simp only[Tm.sz];omega,fun d hd=>?_⟩;obtain⟨c1,c2,c3⟩:=b4 d hd;exact⟨c1,c2,by simp only[Tm.sz];omega⟩
 ·simp only[Tm.sz.szs,Ui]at hc;obtain⟨a1,a2,a3⟩:=h1 c (h t sm) om;have hm:=((Zdc S).1 t c).1;obtain⟨b1,b2,b3,b4⟩:=h2 (flT S t c).2.1 (fun u hu=>h u (by simp[hu])) om;simp only[flT.flTs,Tm.sz.szs,Qq];refine⟨fun u hu=>?_,om,om,fun d hd=>?_⟩
  ·rcases Ql.1 hu with rfl|hu
   ·exact a1
   ·exact b1 u hu
  ·rcases Qk.1 hd with hd|hd
   ·obtain⟨c1,c2,c3⟩:=a3 d hd;exact⟨c1,c2,om⟩
   ·obtain⟨c1,c2,c3⟩:=b4 d hd;exact⟨c1,c2,om⟩
def Zrk{d:Nat×Tm}(h1:d.1≤100000000)(h2:d.2.Nm)(h3:d.2.sz≤305):Sm (VH d):=
 ⟨⟨⟨by simp[VH],by simp[VH,Am.sz,Tm.sz.szs],fun t ht=>by cases ht⟩,⟨by simp[VH,Tm.sz,Tm.sz.szs],.mk _ _ _ _ (Zj0 _ h1) dc dc sm (fun u hu=>by cases hu)⟩,⟨by show d.2.sz≤_;omega,h2⟩⟩,
  by simp[VH,Tm.sz,Tm.sz.szs],h3,by simp[VH,Tm.sz.szs]⟩
def Zpt{S:List Str}(hS:S.length≤20000):∀(l:List Lt) (c:Nat),(∀x∈l,Sm x)→c+l.length*(305*(S.length+2))≤100000000→ ∀y∈flL S l c,Sm y∧(0≤y.op∧y.op≤255∨ ∃x∈l,y.op=x.op)
 |[],_,_,_,y,hy=>by cases hy
 |x::r,c,hs,hc,y,hy=>by
  have hx:=hs x sm;have hat:=hx.at_;have hxc:(flX S x c).2≤c+305*(S.length+2):=by
   by_cases hk:x.kind=1
   ·rw[JA hk];have:=((Zdc S).2 x.at_.args c).1;have h2:Tm.sz.szs x.at_.args*(S.length+2)≤305*(S.length+2):=QF _ hat;show(flT.flTs S x.at_.args c).2.1≤_;omega
   ·rw[(Jh hk).1];exact Gx _ _
  rw[Qq,Ui,QaX]at hc;rw[flL,Qk]at hy;rcases hy with hy|hy
  ·by_cases hk:x.kind=1
   ·rw[JA hk]at hy;have h2:Tm.sz.szs x.at_.args*(S.length+2)≤305*(S.length+2):=QF _ hat;obtain⟨b1,b2,b3,b4⟩:=(Zu0 S 100000000 (Qg _)).2 x.at_.args c hx.good.at_.nm om;rcases Ql.1 hy with rfl|hy
    ·have hg:=hx.good.at_;have hgs:=hg.sz;simp only[Am.sz]at hgs;exact⟨⟨⟨⟨hg.pred,by simp only[Am.sz];omega,b1⟩,hx.good.L,hx.good.R⟩,hx.L,hx.R,by show Tm.sz.szs (flT.flTs S x.at_.args c).1≤_;omega⟩,.inr ⟨x,sm,rfl⟩⟩
    ·obtain⟨d,hd,rfl⟩:=Qi.1 hy;rw[dfX,if_pos hk]at hd;obtain⟨c1,c2,c3⟩:=b4 d hd;exact⟨Zrk c1 c2 om,.inl (by simp[VH])⟩
   ·rw[(Jh hk).1]at hy;simp only[Qm]at hy;subst hy;exact⟨hx,.inr ⟨y,sm,rfl⟩⟩
  ·obtain⟨h1,h2⟩:=Zpt hS r (flX S x c).2 (fun z hz=>hs z (by simp[hz])) om y hy;refine⟨h1,?_⟩;rcases h2 with h2|⟨z,hz,h2⟩
   ·exact .inl h2
   ·exact .inr ⟨z,by simp[hz],h2⟩
def defs_vars:∀ds:List (Nat×Tm),((ds.map VH).flatMap ZA).length≤totD ds
 |[]=>by simp[totD]
 |d::ds=>by
  have h1:=defs_vars ds;have h2:(ZA (VH d)).length≤d.2.sz+1:=by
   have:=flatMap_vars_len [(VH d).L,(VH d).R];simp only[Tm.sz.szs]at this;unfold ZA;rw[if_pos (by rfl)];have e:(VH d).L.sz=1:=rfl;have e2:(VH d).R.sz=d.2.sz:=rfl;omega
  simp only[Qv,QV,Qh,totD,QaQ]at h1⊢;omega
def Zk7{S:List Str}:∀(l:List Lt) (c:Nat),(∀x∈l,Sm x)→((flL S l c).flatMap ZA).length≤l.length*1525∧(flL S l c).length≤l.length*916
 |[],_,_=>by simp[flL]
 |x::r,c,hs=>by
  obtain⟨h1,h2⟩:=Zk7 r (flX S x c).2 fun z hz=>hs z (by simp[hz])
  have hx:=hs x sm;have hat:=hx.at_;have hv:=hx.tv.2.2;simp only[flL,Ut,Qh,Qq,Ui];generalize flL S r (flX S x c).2=R at h1 h2⊢;by_cases hk:x.kind=1
  ·have ht:=(ZsO S).2 x.at_.args c;have hf:=((Zdc S).2 x.at_.args c).2;have hd:=defs_vars (flT.flTs S x.at_.args c).2.2;have h3:=flatMap_vars_len (flT.flTs S x.at_.args c).1;rw[JA hk,dfX,if_pos hk];simp only[QV,Qh,Qq,Qw];have h4:(ZA {x with at_:=⟨x.at_.pred,(flT.flTs S x.at_.args c).1⟩}).length≤Tm.sz.szs (flT.flTs S x.at_.args c).1:=by
    unfold ZA;rw[if_neg (by show¬x.kind=2;omega)];exact h3
   omega
  ·rw[(Jh hk).1];simp only[QV,List.flatMap_nil,Qs,Qq,QB];omega
def Zp6{cx:Cx}(hP:cx.P=prog){o:Oper}{args:List Operand}{ts:List TypeId}{tm:List (Nat×AV)}{L:List (Nat×Ze)}{H:Za}{l k:Nat}{S xs:List Str}{K:Zb→Prop}(hl:l<cx.n)(hlen:xs.length≤1000000)(hk:H l k=some (.map (encS S)))
  (ha:Yn cx.T (evT tm) args ts=[.map l k,.sl 1 (Yo xs) .any]) (h:K ⟨Yk tm o.dst (.tup []),L,H.upd l k (.map (encS (ZP S xs)))⟩):Zem cx o (.func 40) args ts ⟨tm,L,H⟩ K:=by
 obtain⟨P,T,φ,n,N⟩:=cx;dsimp only at hP ha h hl;subst hP;refine⟨40,_,_,[],.tup [],L,H.upd l k (.map (encS (ZP S xs))),rfl,Zf func40 rfl rfl,?_,.upd (WX _),h⟩;rw[Qs,ha];show Zi _ _ _ _ _ fun r' H1=>r'=_∧H1=full n L (H.upd l k _)
 rw[Yi n _ _ _ _ _ om];exact j40 (n+1) _ l k om S xs hlen (by rw[Zk hl];exact hk)
def al84:Opt:=⟨true,true,fun d=>if d=12 then .heap else if d=13 then .call else .auto,[]⟩
def ZtB{k l:Nat}(ls:List Lt)(h:ls.length≤1000000)(hk:k=13):Zj1 k l (ls.map Lt.enc):=⟨by simpa using h,fun x hx=>by
 obtain⟨y,_,rfl⟩:=Qi.1 hx;subst hk;exact⟨rfl,rfl,y.blw l⟩⟩
def ZaH(p q:List Lt):List AV:=(p++q).map Lt.enc++[zLit]
def _root_.Go.Abs.Ze.ZhG{n m:Nat}(p q:List Lt):Ze.Below n (.Zg 54 13 (flat (ZaH p q)) m):=⟨fun c hc=>by
 obtain⟨y,hy,hc⟩:=Qx.1 hc;rcases Qk.1 hy with hy|hy
 ·obtain⟨z,_,rfl⟩:=Qi.1 hy;exact Below.cells (z.blw n) c hc
 ·rw[Qm]at hy;subst hy;exact Zll.mem c hc,by simp[Ze.at_]⟩
def k84(n:Nat)(H:Za)(hT:Tabs H)(l bx mk lv kv kq:Nat)(hl:l<lv)(hlv:lv<n)(h0:0<l)(hkq:kv≠kq)(sp nw td:AV)(hbx:H l bx=some (.box [.map l mk,sp,nw,td]))(S:List Str)(hm:H l mk=some (.map (encS S)))
  (p q:List Lt) (x:Lt) (hx:Sm x) (hlen:(p++x::q).length≤1000000) (hv:H lv kv=some (.box [.sl 13 ((p++x::q).map Lt.enc) .any])) (hq:H lv kq=none):
  Zi prog n 84 [.int .i64 p.length,.iptr [.ptr l bx 0],.ptr lv kv 0] H fun r H'=>r= .tup []∧
   H'=((H.upd l mk (.map (encS (ZP S (ZA x))))).upd lv kq (.Zg 54 13 (flat (ZaH p q)) (p++x::q).length)).upd lv kv (.box [.sub 13 lv kq (p++x::q).length 0 (p++q).length]):=by
 have hne:¬l=n:=om;have hnv:¬lv=n:=om;have hn:0<n:=om;have hll:¬lv=l:=om;have hvl:=hx.tv.2.2;refine aF func84 fun B=>?_
 refine nD al84 ?_;have hpl:p.length<(p++x::q).length:=sm;have hgx:((p++x::q).map Lt.enc).getD p.length .dead=x.enc:=sm;simp only[go_sem,simprocAttr,al84,hne,hnv,hbx,hv,hpl,hgx];refine ZbJ (Zf func41 rfl rfl) (fun G hG=>j41 x hx (n+1) G om (X4 hG▸hT.full hn)) sS ?_;simp only[go_sem,simprocAttr,al84];refine Zp6 rfl (k:=mk) (l:=l) (xs:=ZA x) (S:=S) (show l<n by omega) om hm (by simp only[go_sem,simprocAttr];rfl) ?_;obtain⟨H2,hH2⟩:∃H2,H2=H.upd l mk (.map (encS (ZP S (ZA x)))):=⟨_,rfl⟩
 have hv2:H2 lv kv=some (.box [.sl 13 ((p++x::q).map Lt.enc) .any]):=by rw[hH2];simp only[Za.upd,hll,false_and,if_false];exact hv
 have hq2:H2 lv kq=none:=by rw[hH2];simp only[Za.upd,hll,false_and,if_false];exact hq
 rw[←hH2];refine aS ?_;refine nq3 hne hnv hv2 ?_;have hel:Zj1 13 lv ((p++x::q).map Lt.enc):=ZtB _ hlen rfl;refine YT (caps:=[]) (avs:=[.sl 13 ((p++x::q).map Lt.enc) .any]) rfl (Zf func86 rfl rfl) (k86 (n+1) _ _ lv kq om (by rw[Zk hlv];exact hq2) hel) sS ?_;rintro r H1 ⟨rfl,rfl⟩;refine⟨[],H2.upd lv kq (.Zg 54 13 (flat ((p++x::q).map Lt.enc)) ((p++x::q).map Lt.enc).length),(Yi n _ _ _ _ _ hnv).symm,.upd (hel.blk (show lv≤n by omega)),?_⟩;obtain⟨H3,hH3⟩:∃H3,H3=H2.upd lv kq (.Zg 54 13 (flat ((p++x::q).map Lt.enc)) ((p++x::q).map Lt.enc).length):=⟨_,rfl⟩
 rw[←hH3];have hv3:H3 lv kv=some (.box [.sl 13 ((p++x::q).map Lt.enc) .any]):=by rw[hH3];simp only[Za.upd,hkq,and_false,if_false];exact hv2
 have e1:(p++x::q).map Lt.enc=p.map Lt.enc++x.enc::q.map Lt.enc:=sm;refine aS ?_;rw[IntWalk.i64_in ((p.length:Int)+1) (by simp at hlen;omega)];have hc85:Zi prog (n+1) 85 [.msl 13 lv kq ((p++x::q).map Lt.enc).length,.int .i64 p.length,.int .i64 ((p.length:Int)+1)] (full n [] H3) fun r H'=>r= .sub 13 lv kq (p++x::q).length 0 (p++q).length∧H'=full n [] (H3.upd lv kq (.Zg 54 13 (flat (ZaH p q)) (p++x::q).length)):=by
  have:=k85 (n+1) (full n [] H3) lv kq om (p.map Lt.enc) (q.map Lt.enc) x.enc (e1▸hel) (by rw[Zk hlv,hH3,e1];simp[Za.upd]);rw[←e1,Qw,Qw,Qw,←List.map_append]at this;rw[Yi n _ _ _ _ _ hnv,Qw,show(p++q).length=p.length+q.length from Qh];exact this
 refine YT (caps:=[]) (avs:=[.msl 13 lv kq ((p++x::q).map Lt.enc).length,.int .i64 p.length,.int .i64 ((p.length:Int)+1)]) rfl (Zf func85 rfl rfl) hc85 sS ?_;rintro r H1 ⟨rfl,rfl⟩;refine⟨[],H3.upd lv kq (.Zg 54 13 (flat (ZaH p q)) (p++x::q).length),rfl,.upd (Ze.ZhG p q),?_⟩;refine aq2 hne hnv ?_;have hv4:(H3.upd lv kq (.Zg 54 13 (flat (ZaH p q)) (p++x::q).length)) lv kv=some (.box [.sl 13 ((p++x::q).map Lt.enc) .any]):=by simp only[Za.upd,hkq,and_false,if_false];exact hv3
 refine aq2 hnv hv4 ?_;refine⟨.inr (Ze.ZC ⟨.sub _ _ _ _ _ _ hlv,trivial⟩),?_⟩;refine nN ?_;exact⟨by simp[X8],[],trivial,sm,rfl,by rw[hH3,hH2,Za.Zau]⟩
def Vl{P:Program}{T:TT}{n:Nat}{t u ty y:Nat}{a v c:AV}{H:Za}{s:Zb}(r:Zu)(l k off:Nat)(cs:List AV)(h1:lkv s.tmps u= .ptr l k off)(h2:full n s.L s.H l k=some (.box cs))(h3:T ty=some r)
  (h4:off+r.size≤cs.length) (h5:r.isAgg=false→off<cs.length) (ha:Wk (lkv s.tmps t) a) (hv:Wk (if r.isAgg then .agg ((cs.drop off).take r.size)else(cs.drop off).getD 0 .dead) v) (hy:Wk (lkv s.tmps y) c) (b1:Below n a) (b2:Below n v) (b3:Below n c) (hH:s.H=H):
  PostF P T n [.tmp t,.cell u ty,.tmp y] (fun r' H'=>r'= .tup [a,v,c]∧H'=H) .ret s:=by
 refine⟨?_,[a,v,c],⟨ha,?_,hy,trivial⟩,by simp[b1,b2,b3],rfl,hH⟩
 ·intro x hx;simp only[Ql,QA,or_false]at hx;rcases hx with rfl|rfl|rfl
  ·simp[X8]
  ·simp only[X8];exact⟨l,k,off,cs,r,h1,h2,h3,h4,h5⟩
  ·simp[X8]
 ·simp only[Zdi,h1,h2,h3];rw[if_pos ⟨h4,h5⟩];exact hv
def ZaW(S:List Str)(x:Lt):Str×Tm×Bool:=
 if Vd S (ZU x.L)&&Vd S (ZU x.R)then([],tm0,true)
 else if x.op=1∧Vd S (ZU x.R)=true∧x.L.kind=3 then(x.L.name,x.R,true)
 else if x.op=1∧Vd S (ZU x.L)=true∧x.R.kind=3 then(x.R.name,x.L,true)
 else([],tm0,false)
def Zn7(S:List Str)(x:Lt)(hk:x.kind=2):Y3 S x=if(ZaW S x).2.2=true then some (if(ZaW S x).1=[]then .test x else .bind (ZaW S x).1 (ZaW S x).2.1)else none:=by
 unfold Y3 ZaW;rw[if_pos hk];split
 ·simp
 ·split
  ·simp
  ·split<;>simp
def j87(n:Nat)(H:Za)(l bx lm mk:Nat)(hl:l<n)(hlm:lm<n)(sp nw td:AV)(hbx:H l bx=some (.box [.map lm mk,sp,nw,td]))(S:List Str)(hm:H lm mk=some (.map (encS S)))(x:Lt)(hx:Sm x):
  PC prog n 87 [.ptr l bx 0,x.enc] H (.tup [.str (ZaW S x).1,(ZaW S x).2.1.enc,.bool (ZaW S x).2.2]):=by
 have hne:¬l=n:=om;have hnm:∀t:Tm,t.Good∧t.sz≤305→(nmT t).length≤1000000∧(ZU t).length≤1000000:=fun t h=>by
  have:=nm_len.1 t;have:=ZeN t;have:=h.2;constructor<;>omega
 obtain⟨n1,n2⟩:=hnm x.L ⟨hx.good.L,hx.L⟩;obtain⟨n3,n4⟩:=hnm x.R ⟨hx.good.R,hx.R⟩;have hmf:∀L,full n L H lm mk=some (.map (encS S)):=fun L=>by rw[Zk hlm];exact hm
 have hr:ZaW S x=if Vd S (ZU x.L)&&Vd S (ZU x.R)then([],tm0,true)
  else if x.op=1∧Vd S (ZU x.R)=true∧x.L.kind=3 then(x.L.name,x.R,true)
  else if x.op=1∧Vd S (ZU x.L)=true∧x.R.kind=3 then(x.R.name,x.L,true)
  else([],tm0,false):=rfl
 refine aF func87 fun B=>?_
 refine nR ?_;refine nD drawO ?_;refine aq2 hne hbx ?_;refine cP (j56 x.L hx.good.L n1) ?_;refine cQ (j48 (n+1) _ lm mk om S (ZU x.L) n2 (hmf _)) ?_;simp only[go_sem,simprocAttr,hne,hbx];refine cP (j56 x.R hx.good.R n3) ?_;refine cQ (j48 (n+1) _ lm mk om S (ZU x.R) n4 (hmf _)) ?_;simp only[go_sem,simprocAttr,hne,hbx];generalize Vd S (ZU x.L)=p at hr⊢;generalize Vd S (ZU x.R)=q at hr⊢;repeat refine kn rfl ?_
 cases p with
 |true=>
  cases q with
  |true=>
   have hr:ZaW S x=([],tm0,true):=by rw[hr];rfl
   refine nR ?_;refine gj ?_;rw[hr];exact Vl _ n 5 0 [.int .u8 0,.int .i64 0,.str [],.sl 4 [] .full] sS sF rfl (Qg _) sS (.refl _) zero_tm (.refl _) (.str _) (Tm.blw _ _) (.bool _) rfl
  |false=>
   refine nR ?_;refine nF ?_;cases h1:(x.op==1)with
   |false=>
    have o1:¬x.op=1:=by simpa using h1
    have hr:ZaW S x=([],tm0,false):=by rw[hr];simp[o1]
    refine nq h1 ?_;refine nF ?_;refine nq h1 ?_;refine gF ?_;rw[hr];exact Vl _ n 5 0 [.int .u8 0,.int .i64 0,.str [],.sl 4 [] .full] sS sF rfl (Qg _) sS (.refl _) zero_tm (.refl _) (.str _) (Tm.blw _ _) (.bool _) rfl
   |true=>
    have o1:x.op=1:=by simpa using h1
    cases h2:(x.R.kind==3)with
    |false=>
     have o2:¬x.R.kind=3:=by simpa using h2
     have hr:ZaW S x=([],tm0,false):=by rw[hr];simp[o2]
     refine nq2 h1 h2 ?_;refine nF ?_;refine nq2 h1 h2 ?_;refine gF ?_;rw[hr];exact Vl _ n 5 0 [.int .u8 0,.int .i64 0,.str [],.sl 4 [] .full] sS sF rfl (Qg _) sS (.refl _) zero_tm (.refl _) (.str _) (Tm.blw _ _) (.bool _) rfl
    |true=>
     have o2:x.R.kind=3:=by simpa using h2
     have hr:ZaW S x=(x.R.name,x.L,true):=by rw[hr];simp[o1,o2]
     refine nq2 h1 h2 ?_;refine nF ?_;refine nq2 h1 h2 ?_;refine nT ?_;refine Xz tok mixed drawO rfl rfl rfl ?_;refine gw ?_;rw[hr];exact Vl _ n 5 0 (x.L).cs sS sF rfl (Qg _) sS (.refl _) (by simp only[go_sem,simprocAttr];exact .refl _) (.refl _) (.str _) (Tm.blw _ _) (.bool _) rfl
 |false=>
  cases q with
  |true=>
   refine nR ?_;refine nF ?_;cases h1:(x.op==1)with
   |false=>
    have o1:¬x.op=1:=by simpa using h1
    have hr:ZaW S x=([],tm0,false):=by rw[hr];simp[o1]
    refine nq h1 ?_;refine nF ?_;refine nq h1 ?_;refine gF ?_;rw[hr];exact Vl _ n 5 0 [.int .u8 0,.int .i64 0,.str [],.sl 4 [] .full] sS sF rfl (Qg _) sS (.refl _) zero_tm (.refl _) (.str _) (Tm.blw _ _) (.bool _) rfl
   |true=>
    have o1:x.op=1:=by simpa using h1
    cases h2:(x.L.kind==3)with
    |false=>
     have o2:¬x.L.kind=3:=by simpa using h2
     have hr:ZaW S x=([],tm0,false):=by rw[hr];simp[o2]
     refine nq2 h1 h2 ?_;refine nF ?_;refine nq2 h1 h2 ?_;refine gF ?_;rw[hr];exact Vl _ n 5 0 [.int .u8 0,.int .i64 0,.str [],.sl 4 [] .full] sS sF rfl (Qg _) sS (.refl _) zero_tm (.refl _) (.str _) (Tm.blw _ _) (.bool _) rfl
    |true=>
     have o2:x.L.kind=3:=by simpa using h2
     have hr:ZaW S x=(x.L.name,x.R,true):=by rw[hr];simp[o1,o2]
     refine nq2 h1 h2 ?_;refine nT ?_;refine Xz tok mixed drawO rfl rfl rfl ?_;refine gw ?_;rw[hr];exact Vl _ n 5 0 (x.R).cs sS sF rfl (Qg _) sS (.refl _) (by simp only[go_sem,simprocAttr];exact .refl _) (.refl _) (.str _) (Tm.blw _ _) (.bool _) rfl
  |false=>
   refine nR ?_;refine nF ?_;cases h1:(x.op==1)with
   |false=>
    have o1:¬x.op=1:=by simpa using h1
    have hr:ZaW S x=([],tm0,false):=by rw[hr];simp[o1]
    refine nq h1 ?_;refine nF ?_;refine nq h1 ?_;refine gF ?_;rw[hr];exact Vl _ n 5 0 [.int .u8 0,.int .i64 0,.str [],.sl 4 [] .full] sS sF rfl (Qg _) sS (.refl _) zero_tm (.refl _) (.str _) (Tm.blw _ _) (.bool _) rfl
   |true=>
    have o1:x.op=1:=by simpa using h1
    have hr:ZaW S x=([],tm0,false):=by rw[hr];simp
    refine nq h1 ?_;refine nF ?_;refine nq h1 ?_;refine gF ?_;rw[hr];exact Vl _ n 5 0 [.int .u8 0,.int .i64 0,.str [],.sl 4 [] .full] sS sF rfl (Qg _) sS (.refl _) zero_tm (.refl _) (.str _) (Tm.blw _ _) (.bool _) rfl
def k88(hE:ExpOK)(n:Nat)(H:Za)(hT:Tabs H)(hn:0<n)(l b:Nat)(hl:l<n)(mp sp td:AV)(now:List Bnd)(hnow:now.length≤1000000)(hbx:H l b=some (prB mp sp now td))(hmp:Below n mp∧Below n sp∧Below n td)(x:Lt)(hop:0≤x.op∧x.op≤255)
  (hx:∀c∈now,BT c x.L∧BT c x.R):Zi prog n 88 [.iptr [.ptr l b 0],.iptr x.cs] H fun r H'=>r=eInt (Go.Abs.Xo (Jj x) now).2∧H'=H.upd l b (prB mp sp (Go.Abs.Xo (Jj x) now).1 td):=by
 have hne:l≠n:=om;refine aF func88 fun B=>?_
 refine gc ?_;refine YT (caps:=[]) (avs:=[.ptr l b 0,x.enc]) rfl (Zf func89 rfl rfl) (j89 hE (n+1) _ (hT.full hn) om l b om mp sp td now hnow (by rw[Zk hl];exact hbx) ⟨hmp.1.mono om,hmp.2.1.mono om,hmp.2.2.mono om⟩ x hop hx) sS ?_;rintro r H1 ⟨rfl,rfl⟩;refine⟨[],H.upd l b (prB mp sp (Go.Abs.Xo (Jj x) now).1 td),(Yi n _ H l b _ hne).symm,.upd (Ze.ZC ⟨hmp.1,hmp.2.1,ZF _,hmp.2.2,trivial⟩),?_⟩;refine gw ?_;exact Zn (.refl _) (.int _ _) ⟨rfl,rfl⟩
def k90(hE:ExpOK)(n:Nat)(H:Za)(hT:Tabs H)(hn:0<n)(l b:Nat)(hl:l<n)(mp sp td:AV)(now:List Bnd)(hnow:now.length≤1000000)(hbx:H l b=some (prB mp sp now td))(hmp:Below n mp∧Below n sp∧Below n td)(s:Str)(t:Tm)(ht:∀c∈now,BT c t):
  Zi prog n 90 [.iptr [.ptr l b 0],.iptr [.str s],.iptr t.cs] H fun r H'=>r=eInt (Go.Abs.Xo (Zb9 s t) now).2∧H'=H.upd l b (prB mp sp (Go.Abs.Xo (Zb9 s t) now).1 td):=by
 have hne:l≠n:=om;refine aF func90 fun B=>?_
 refine gc ?_;refine YT (caps:=[]) (avs:=[.ptr l b 0,.str s,t.enc]) rfl (Zf func91 rfl rfl) (j91 hE (n+1) _ (hT.full hn) om l b om mp sp td now hnow (by rw[Zk hl];exact hbx) ⟨hmp.1.mono om,hmp.2.1.mono om,hmp.2.2.mono om⟩ s t ht) sS ?_;rintro r H1 ⟨rfl,rfl⟩;refine⟨[],H.upd l b (prB mp sp (Go.Abs.Xo (Zb9 s t) now).1 td),(Yi n _ H l b _ hne).symm,.upd (Ze.ZC ⟨hmp.1,hmp.2.1,ZF _,hmp.2.2,trivial⟩),?_⟩;refine gw ?_;exact Zn (.refl _) (.int _ _) ⟨rfl,rfl⟩
def k92(n:Nat)(H:Za)(hT:Tabs H)(hn:0<n)(l bx ls bs:Nat)(hl:l<n)(hls:ls<l)(mp td:AV)(now:List Bnd)(hnow:now.length≤1000000)(hbx:H l bx=some (prB mp (.ptr ls bs 0) now td))(hmp:Below n mp∧Below n td)(s:Sto)(hs:ZV H ls bs s)(hok:Ok s)(x:Lt)(hx:∀c∈now,BA c x.at_):
  Zi prog n 92 [.iptr [.ptr l bx 0],.iptr x.cs] H fun r H'=>r=eInt (Go.Abs.Xo (atS s.A x.at_) now).2∧H'=H.upd l bx (prB mp (.ptr ls bs 0) (Go.Abs.Xo (atS s.A x.at_) now).1 td):=by
 have hne:l≠n:=om;refine aF func92 fun B=>?_
 refine gc ?_;refine YT (caps:=[]) (avs:=[.ptr l bx 0,x.at_.enc]) rfl (Zf func93 rfl rfl) (j93 (n+1) _ (hT.full hn) om l bx ls bs om om mp td now hnow (by rw[Zk hl];exact hbx) ⟨hmp.1.mono om,hmp.2.mono om⟩ s (fun k x hk=>by rw[Zk om];exact hs k x hk) hok x.at_ hx) sS ?_;rintro r H1 ⟨rfl,rfl⟩;refine⟨[],H.upd l bx (prB mp (.ptr ls bs 0) (Go.Abs.Xo (atS s.A x.at_) now).1 td),(Yi n _ H l bx _ hne).symm,.upd (Ze.ZC ⟨hmp.1,.ptr _ _ _ (show ls<n by omega),ZF _,hmp.2,trivial⟩),?_⟩;refine gw ?_;exact Zn (.refl _) (.int _ _) ⟨rfl,rfl⟩
def k94(n:Nat)(H:Za)(hT:Tabs H)(hn:0<n)(l bx mk:Nat)(hl:l<n)(sp nw td:AV)(hbx:H l bx=some (.box [.map l mk,sp,nw,td]))(S:List Str)(hm:H l mk=some (.map (encS S)))(x:Lt)(hx:Sm x):
  PC prog n 94 [x.enc,.iptr [.ptr l bx 0]] H (.bool (!X7 S x)):=by
 have hne:¬l=n:=om;have hvl:=hx.tv.2.2;refine aF func94 fun B=>?_
 refine nR ?_;have hb:X7 S x=(!(x.kind==2)&&Vd S (ZA x)):=rfl;cases hk:(x.kind==2)with
 |true=>
  rw[hb,hk];refine Xz tok mixed drawO rfl rfl rfl ?_;simp -implicitDefEqProofs (maxSteps:=1000000) only[go_sem,simprocAttr,hne,hbx,hk];exact pB
 |false=>
  rw[hb,hk];refine Xz tok mixed drawO rfl rfl rfl ?_;simp -implicitDefEqProofs (maxSteps:=1000000) only[go_sem,simprocAttr,hne,hbx,hk];refine cT (j41 x hx) ?_;refine Zdw (Zf func48 rfl rfl) (j48 (n+1) _ l mk om S (ZA x) om (by rw[Zk hl];exact hm)) (by simp only[go_sem,simprocAttr];rfl) ?_;refine aS ?_;exact pB
def Zcz(A:List Am):List Stp→List Bnd→Nat→List Bnd
 |_,now,0=>now
 |[],now,_+1=>now
 |s::r,now,i+1=>Zcz A r (Go.Abs.Xo (stepS A s) now).1 i
def ZeQ(A:List Am):∀(p:List Stp) (now:List Bnd) (i:Nat) (h:i<p.length),Zcz A p now (i+1)=(Go.Abs.Xo (stepS A p[i]) (Zcz A p now i)).1
 |s::r,now,0,_=>by
  cases r<;>rfl
 |s::r,now,i+1,h=>by
  have:=ZeQ A r (Go.Abs.Xo (stepS A s) now).1 i (by simpa using h);exact this
structure ZjQ (A:List Am) (p:List Stp) (S0:List Str) (now:List Bnd) (i:Nat):Prop where
 eq:Vt A p now=Vt A (p.drop i) (Zcz A p now i)
 ok:∀b∈Zcz A p now i,ZI b∧ ∀n,n∈Zp b↔n∈S0++(p.take i).flatMap varS
 rdy:Rdy (S0++(p.take i).flatMap varS) (p.drop i)
 len:(Zcz A p now i).length≤20001
def ZnP(f:Bnd→List Bnd×Int)(now:List Bnd):(Go.Abs.Xo f now).1.length≤20001:=by
 have:∀(q:List Bnd) (p:List Bnd×Int),p.1.length≤20001→(q.foldl (fun p b=>WC p (f b)) p).1.length≤20001:=by
  intro q;induction q with
  |nil=>intro p h;exact h
  |cons x q ih=>
   intro p _;refine ih _ ?_;simp only[WC,Zg5];split
   ·rw[QM];omega
   ·omega
 exact this now ([],0) sm
section
variable {i:Nat} {S0:List Str} {p:List Stp} {A:List Am}
def ZjQ.step(hA:∀a∈A,Yh a=true){now:List Bnd}(h:ZjQ A p S0 now i)(hi:i<p.length)(h0:(Go.Abs.Xo (stepS A p[i]) (Zcz A p now i)).2=0):ZjQ A p S0 now (i+1):=by
 have hd:p.drop i=p[i]::p.drop (i+1):=Qu hi;have hs:=ZeQ A p now i hi;have hr:=h.rdy;rw[hd]at hr;have ht:S0++(p.take (i+1)).flatMap varS=(S0++(p.take i).flatMap varS)++varS p[i]:=by
  rw[Qj hi,Ut,Uc];simp
 refine⟨?_,fun b hb=>?_,by rw[ht];exact hr.2,by rw[hs];exact ZnP _ _⟩
 ·rw[h.eq,hd,Vt,if_pos h0,hs]
 ·rw[hs]at hb;obtain⟨hz,heq⟩:=ZnF h0;rw[heq,Qx]at hb;obtain⟨c,hc,hb⟩:=hb;obtain⟨hg,hdm⟩:=h.ok c hc;obtain⟨g,_,hd2,_⟩:=(Zgb hA hg (Zac (fun n=>(hdm n).symm) hr.1) (hz c hc) b).1 hb;exact⟨g,fun n=>by rw[hd2,hdm,ht];exact Qk.symm⟩
def plG_made:∀(f:Nat) (S:List Str) (l:List Lt),(∀x∈l,okX x)→ ∀q∈(plG f S l).1,q.2∈l∧VK q.1 q.2
 |0,_,_,_,_,h=>by cases h
 |f+1,S,l,ho,q,h=>by
  unfold plG at h;split at h
  ·cases h
  ·rename_i s x r hn;obtain⟨h1,_,h3⟩:=Zil ho hn;rcases Ql.1 h with rfl|h
   ·exact⟨h3.mem_iff.2 sm,h1⟩
   ·have:=plG_made f _ r (fun y hy=>ho y (h3.mem_iff.2 (by simp[hy]))) q h;exact⟨h3.mem_iff.2 (by simp[this.1]),this.2⟩
def fnF:Stp×Lt→Nat
 |(.test _,_)=>88
 |(.bind _ _,_)=>90
 |(.atom _,_)=>92
def fnC(l bx:Nat):Stp×Lt→List AV
 |(.test x,_)=>[.iptr [.ptr l bx 0],.iptr x.cs]
 |(.bind s t,_)=>[.iptr [.ptr l bx 0],.iptr [.str s],.iptr t.cs]
 |(.atom _,x)=>[.iptr [.ptr l bx 0],.iptr x.cs]
def Zse(q:Stp×Lt):∃fn c,Fun prog (fnF q) fn c:=by
 obtain⟨s,x⟩:=q;cases s with
 |test y=>exact⟨_,_,Zf func88 rfl rfl⟩
 |bind s t=>exact⟨_,_,Zf func90 rfl rfl⟩
 |atom a=>exact⟨_,_,Zf func92 rfl rfl⟩
def Zvf(hE:ExpOK)(n:Nat)(H:Za)(hT:Tabs H)(hn:0<n)(l bx ls bs:Nat)(hl:l<n)(hls:ls<l)(mp td:AV)(now:List Bnd)(hnow:now.length≤1000000)(hbx:H l bx=some (prB mp (.ptr ls bs 0) now td))(hmp:Below n mp∧Below n td)(s:Sto)(hs:ZV H ls bs s)(hok:Ok s)
  (q:Stp×Lt) (hm:VK q.1 q.2) (hx:Sm q.2) (hop:0≤q.2.op∧q.2.op≤255) (hok2:∀c∈now,ZI c∧c.length≤100000∧Ready (Zp c) q.1):
  Zi prog n (fnF q) (fnC l bx q) H fun r H'=>r=eInt (Go.Abs.Xo (stepS s.A q.1) now).2∧H'=H.upd l bx (prB mp (.ptr ls bs 0) (Go.Abs.Xo (stepS s.A q.1) now).1 td):=by
 obtain⟨st,x⟩:=q;cases st with
 |test y=>
  obtain⟨rfl,hk⟩:=hm;refine k88 hE n H hT hn l bx hl mp (.ptr ls bs 0) td now hnow hbx ⟨hmp.1,.ptr _ _ _ om,hmp.2⟩ y hop fun c hc=>?_
  obtain⟨g,hl,hr⟩:=hok2 c hc;exact⟨⟨g,hl,hx.good.L,hx.L,fun n hn=>hr n (QG _ hn)⟩,⟨g,hl,hx.good.R,hx.R,fun n hn=>hr n (QS _ hn)⟩⟩
 |bind nm t=>
  obtain⟨hk,ho1,hc⟩:=hm;dsimp only at hc hx;refine k90 hE n H hT hn l bx hl mp (.ptr ls bs 0) td now hnow hbx ⟨hmp.1,.ptr _ _ _ om,hmp.2⟩ nm t fun c hc2=>?_
  obtain⟨g,hl,hr⟩:=hok2 c hc2;rcases hc with⟨_,_,rfl⟩|⟨_,_,rfl⟩
  ·exact⟨g,hl,hx.good.R,hx.R,hr.2⟩
  ·exact⟨g,hl,hx.good.L,hx.L,hr.2⟩
 |atom a=>
  obtain⟨hk,hng,e⟩:=hm;dsimp only at e hx;subst e;refine k92 n H hT hn l bx ls bs hl hls mp td now hnow hbx hmp s hs hok x fun c hc2=>?_
  obtain⟨g,hl,hr⟩:=hok2 c hc2;exact⟨g,hl,hx.good.at_,hx.at_⟩
structure ZeI (l:List Lt) (b:Bnd) (F:List Lt):Prop where
 sm:∀y∈F,Sm y
 op:∀y∈F,0≤y.op∧y.op≤255
 ok:∀y∈F,okX y
 len:F.length≤9160
 vars:(F.flatMap ZA).length≤15250
variable {b:Bnd} {l:List Lt}
def Zha(hl:l.length≤10)(hs:∀x∈l,Sm x)(hb:b.length≤1000):(Z5 l b).length≤7100:=by
 have h2:(l.flatMap ZA).length≤l.length*610:=by
  clear hl;induction l with
  |nil=>simp
  |cons x r ih=>
   have:=(hs x sm).tv.2.2;have:=ih fun y hy=>hs y (by simp[hy])
   rw[QV,Qh,Qq];omega
 unfold Z5;rw[Qh];have h3:(Zp b).length=b.length:=by simp[Zp]
 omega
def Zrj(hl:l.length≤10)(hs:∀x∈l,Sm x)(hop:∀x∈l,0≤x.op∧x.op≤255)(hb:b.length≤1000)(hv:l.all Yt=true):ZeI l b (XZ l (Z5 l b)):=by
 have h1:=Zha hl hs hb;have h2:(l.flatMap fun x=>(YB x).flatMap ZU).length≤l.length*915:=by
  clear h1 hl hop hv;induction l with
  |nil=>simp
  |cons x r ih=>
   have:=Zg6 (hs x sm);have:=ih fun y hy=>hs y (by simp[hy])
   rw[QV,Qh,Qq];omega
 have hsm:=Zpt (S:=Z5 l b++l.flatMap fun x=>(YB x).flatMap ZU) (by rw[Qh];omega) l 0 hs (by
  have h3:l.length*(305*((Z5 l b++l.flatMap fun x=>(YB x).flatMap ZU).length+2))≤10*(305*20002):=Qbd hl (Qaz _ (by rw[Qh];omega));omega)
 have hvl:=Zk7 (S:=Z5 l b++l.flatMap fun x=>(YB x).flatMap ZU) l 0 hs;refine⟨fun y hy=>(hsm y hy).1,fun y hy=>?_,ZgZ 0 fun x hx=>(Zcg (Qy.1 hv x hx)).1,by have:=hvl.2;unfold XZ;omega,by have:=hvl.1;unfold XZ;omega⟩;rcases(hsm y hy).2 with h|⟨x,hx,e⟩
 ·exact h
 ·rw[e];exact hop x hx
variable {S1:List Str}
def Zh3(hv:l.all Yt=true)(hvb:validB b=true)(hS0:∀x,x∈S0↔x∈Zp b){D:List (Stp×Lt)}{R:List Lt}
  (hP:plG (XZ l (Z5 l b)).length S0 (XZ l (Z5 l b))=(D,S1,R)):
  YL A l b=if R.all (X7 S1)then(if(Vt A (D.map Prod.fst) [b]).2=0 then(XT YU ((Vt A (D.map Prod.fst) [b]).1.map (Jd (Z5 l b))),0)else([],(Vt A (D.map Prod.fst) [b]).2))else([],120):=by
 obtain⟨h1,h2,h3⟩:=plG_planF (XZ l (Z5 l b)).length S0 (Zp b) (XZ l (Z5 l b)) hS0;rw[hP]at h1 h2 h3;dsimp only at h1 h2 h3;have hj:YL A l b=match Ja (Zp b) (XZ l (Z5 l b))with
   |none=>([],eUnsafe)
   |some p=>if(Vt A p [b]).2=0 then(XT YU ((Vt A p [b]).1.map (Jd (Z5 l b))),0)else([],(Vt A p [b]).2):=by
  unfold YL;rw[hv,hvb];rfl
 rw[hj];unfold Ja;simp only;rw[←h1,←h3,Zd1 fun n=>(h2 n).symm];cases R.all (X7 S1)<;>rfl
variable {F:List Lt}
def Zoh(hF:ZeI l b F)(hvb:validB b=true)(hS0:∀x,x∈S0↔x∈Zp b){D:List (Stp×Lt)}{X:List Str×List Lt}(hP:plG F.length S0 F=(D,X)):
  ZjQ A (D.map Prod.fst) (Zp b) [b] 0∧(∀q∈D,q.2∈F∧VK q.1 q.2)∧D.length≤F.length∧ ∀n∈(D.map Prod.fst).flatMap varS,n∈F.flatMap ZA:=by
 obtain⟨h1,_,_⟩:=plG_planF F.length S0 (Zp b) F hS0;obtain⟨T,a1,a2,a3,_,_⟩:=plan_spec F.length (Zp b) F hF.ok;rw[←h1,hP]at a2 a3;have hm:=plG_made F.length S0 F hF.ok;rw[hP]at hm;have hTF:∀y∈T,y∈F:=fun y hy=>a1.mem_iff.2 (QG _ hy)
 refine⟨⟨by simp[Zcz],fun c hc=>?_,by simpa using a3,by simp[Zcz]⟩,hm,?_,fun n hn=>?_⟩
 ·simp only[Zcz,Qm]at hc;subst hc;exact⟨validB_good hvb,fun n=>by simp⟩
 ·have e1:=a2.len;have e2:=a1.length_eq;rw[Qw]at e1;rw[Qh]at e2;dsimp only at e1;omega
 ·obtain⟨y,hy,hn⟩:=Qx.1 ((fa_vars a2 (fun y hy=>hF.ok y (hTF y hy)) n).1 hn);exact Qx.2 ⟨y,hTF y hy,hn⟩
def Zop(hS0:∀x,x∈S0↔x∈Zp b){D:List (Stp×Lt)}{R:List Lt}(hP:plG F.length S0 F=(D,S1,R))(hb:R.all (X7 S1)=true):Ja (Zp b) F=some (D.map Prod.fst):=by
 obtain⟨h1,h2,h3⟩:=plG_planF F.length S0 (Zp b) F hS0;rw[hP]at h1 h2 h3;dsimp only at h1 h2 h3;unfold Ja;simp only;rw[←h1,←h3,Zd1 fun n=>(h2 n).symm,hb];rfl
def Zqr(ho:∀x∈l,okX x)(hp:Ja (Zp b) (XZ l (Z5 l b))=some p){c:Bnd}(g:ZI c)(hd:∀n,n∈Zp c↔n∈Zp b++p.flatMap varS):XU (Z5 l b) (Jd (Z5 l b) c):=by
 let S:=Z5 l b++l.flatMap fun x=>(YB x).flatMap ZU
 have hoF:∀y∈flL S l 0,okX y:=ZgZ 0 ho;have hp':Ja (Zp b) (flL S l 0)=some p:=hp;obtain⟨m1,m2,m3⟩:=ZeF hoF hp';refine⟨g.filter _,fun n=>?_⟩;rw[Zec];refine⟨fun h=>h.1,fun h=>⟨h,(hd n).2 ?_⟩⟩;rw[Qk,m2,ZbF S l 0 n];rcases Qk.1 h with h|h
 ·exact .inr (.inl h)
 ·exact .inl h
def ZlP{S T:List Str}(h:∀n,n∈S↔n∈T)(c:Bnd):Jd S c=Jd T c:=by
 unfold Jd;congr 1
 funext q;exact decide_eq_decide.2 (h q.1)
def ZnG(hF:ZeI l b F)(hb:b.length≤1000)(hp:∀n∈p.flatMap varS,n∈F.flatMap ZA)(h:ZjQ A p (Zp b) [b] i):∀c∈Zcz A p [b] i,c.length≤100000:=fun c hc=>by
 obtain⟨g,hd⟩:=h.ok c hc;have hnd:(Zp c).Nodup:=(ZdJ g.asc).imp fun h e=>by rw[e,cmpBytes_self]at h;omega
 have:=Xd hnd (q:=Zp b++F.flatMap ZA) fun n hn=>by
  rcases Qk.1 ((hd n).1 hn)with h|h
  ·exact QG _ h
  ·obtain⟨s,hs,h⟩:=Qx.1 h;exact QS _ (hp n (Qx.2 ⟨s,UC hs,h⟩))
 rw[Qh]at this;have h2:=hF.vars;have h3:(Zp b).length=b.length:=by simp[Zp]
 have h4:(Zp c).length=c.length:=by simp[Zp]
 omega
def ZjQ.use(hF:ZeI l b F)(hb:b.length≤1000)(hp:∀n∈p.flatMap varS,n∈F.flatMap ZA)(h:ZjQ A p (Zp b) [b] i)(hi:i<p.length):∀c∈Zcz A p [b] i,ZI c∧c.length≤100000∧Ready (Zp c) p[i]:=fun c hc=>by
 obtain⟨g,hd⟩:=h.ok c hc;have hr:=h.rdy;rw[Qu hi]at hr;exact⟨g,ZnG hF hb hp h c hc,Zac (fun n=>(hd n).symm) hr.1⟩
end
end Go.Proofs.YtmdeagmbfhbbnaaGreatDoorR

namespace Go.Abs
section
variable {P:Program} {b:Frame} {a:Act} {k:List Item} {cs:List Frame} {w:World}
def Wn{c:Code}:step P (lone (b.atR a (.code (.scope c)::k)) cs w)= .next (lone (b.atR a (.code c:: .inScope c::k)) cs w):=
 step_lone_go (by simp[stepG,stepG.exec,Frame.atR])
def ZcO{c:Code}:step P (lone (b.atR a (.inScope c::k)) cs w)= .next (lone (b.atR a k) cs w):=
 step_lone_go (by simp[stepG,stepG.exec,Frame.atR])
end
def Zez{F:Fence}{n:Nat}{P:Program}{Q:Exit→Act→World→Prop}{a:Act}{w:World}{c rest:Code}(l:Nat)(J:Act→World→Prop)(μ:Act→World→Nat)(hf:findLabel c l=some rest)
  (first:c.wpIn F n P (Exit.jump l J Q) a w)
  (pass:∀a w,J a w→rest.wpIn F n P (Exit.jump l (fun a' w'=>J a' w'∧μ a' w'<μ a w) Q) a w):(Code.scope c).wpIn F n P Q a w:=by
 intro b k cs hro hb hr;have hg:gotoIn l (.inScope c::k)=some (.code rest:: .inScope c::k):=by simp[gotoIn,hf]
 have h0:∀{a:Act} {w:World},(lone (b.atR a (.code (.scope c)::k)) cs w).fenced P F:=fenced_calm hb hr rfl;have h1:∀{a:Act} {w:World},(lone (b.atR a (.inScope c::k)) cs w).fenced P F:=fenced_calm hb hr rfl;have hxt:∀{id:Nat},exitTo id (.inScope c::k)=exitTo id k:=by simp[exitTo]
 have key:∀m a w,μ a w=m→J a w→ ∃e a' w',Q e a' w'∧ArrivesIn (Machine.fenced P F) P (lone (b.atR a (.code rest:: .inScope c::k)) cs w) b k cs e a' w':=by
  intro m;induction m using Nat.strongRecOn with
  |_ m ih=>
   intro a w hn hJ;obtain⟨e,a₁,w₁,hq,harr⟩:=pass a w hJ b (.inScope c::k) cs hro hb hr;cases e with
   |normal=>exact⟨.normal,a₁,w₁,hq,StepsIn.trans harr (.one h1 ZcO)⟩
   |exit id=>exact⟨_,a₁,w₁,hq,fun k' hk=>harr.1 k' (by rw[hxt];exact hk),fun hr' hk=>harr.2 hr' (by rw[hxt];exact hk)⟩
   |goto l'=>
    obtain⟨rfl,hJ',hlt⟩:=hq;obtain⟨e₂,a₂,w₂,hq₂,harr₂⟩:=ih _ om a₁ w₁ rfl hJ';exact⟨e₂,a₂,w₂,hq₂,.of_steps (harr.1 _ hg) harr₂⟩
   |ret=>exact⟨_,a₁,w₁,hq,harr⟩
   |panic ch=>exact⟨_,a₁,w₁,hq,harr⟩
   |outgrown=>exact⟨_,a₁,w₁,hq,harr⟩
 obtain⟨e,a₁,w₁,hq,harr⟩:=first b (.inScope c::k) cs hro hb hr
 cases e with
 |normal=>exact⟨.normal,a₁,w₁,hq,.head h0 Wn (StepsIn.trans harr (.one h1 ZcO))⟩
 |exit id=>exact⟨_,a₁,w₁,hq,fun k' hk=>.head h0 Wn (harr.1 k' (by rw[hxt];exact hk)),fun hr' hk=>let⟨k₁,h2,h3⟩:=harr.2 hr' (by rw[hxt];exact hk);⟨k₁,h2,.head h0 Wn h3⟩⟩
 |goto l'=>
  obtain⟨rfl,hJ'⟩:=hq;obtain⟨e₂,a₂,w₂,hq₂,harr₂⟩:=key _ a₁ w₁ rfl hJ';exact⟨e₂,a₂,w₂,hq₂,.of_steps (.head h0 Wn (harr.1 _ hg)) harr₂⟩
 |ret=>exact⟨_,a₁,w₁,hq,.of_steps (.one h0 Wn) harr⟩
 |panic ch=>exact⟨_,a₁,w₁,hq,.of_steps (.one h0 Wn) harr⟩
 |outgrown=>exact⟨_,a₁,w₁,hq,.of_steps (.one h0 Wn) harr⟩
def JQ(l:Nat)(J:Zb→Prop)(Q:Exit→Zb→Prop):Exit→Zb→Prop:=fun e s=>match e with
 | .goto l'=>l'=l∧J s
 |e=>Q e s
def ZqO{P:Program}{φ:Fm}{n N:Nat}{c rest:Code}{k:List Itm}{Q:Exit→Zb→Prop}{s:Zb}(l:Nat)(I:Nat→Zb→Prop)(hf:findLabel c l=some rest)
  (first:AK P φ n N [.code c] (JQ l (fun s'=>∃m s'',AWk n N s' s''∧I m s'') (AX P φ n N Q k)) s)
  (pass:∀m s,I m s→AK P φ n N [.code rest] (JQ l (fun s'=>∃m' s'',m'<m∧AWk n N s' s''∧I m' s'') (AX P φ n N Q k)) s):
  AK P φ n N (.code (.scope c)::k) Q s:=fun E w a hs=>by
 classical
 let M (a:Act) (w':World) (m:Nat):Prop:=∃s' E',I m s'∧Yq φ.B n N s' E' a w'∧Ext n E w E' w'
 let μ (a:Act) (w':World):Nat:=if h:∃m,M a w' m then Classical.choose (least h)else 0
 refine Zez l (fun a w'=>∃m,M a w' m) μ hf ?_ ?_
 ·refine wpIn_mono (first E w a hs) ?_;rintro e a2 w2 ⟨s2,E2,hQ,hs2,hx2⟩;cases e with
  |goto l'=>
   obtain⟨rfl,m,s3,hwk,hI⟩:=hQ;obtain⟨E3,hs3,hx3⟩:=hwk _ E2 w2 a2 hs2;exact⟨rfl,m,s3,E3,hI,hs3,hx2.trans hx3⟩
  |_=>exact⟨s2,E2,hQ,hs2,hx2⟩
 ·intro a' w' hM;have hμ:μ a' w'=Classical.choose (least hM):=dif_pos hM;obtain⟨s',E',hI,hs',hx'⟩:=(Qap (least hM)).1;refine wpIn_mono (pass _ s' hI E' w' a' hs') ?_;rintro e a2 w2 ⟨s2,E2,hQ,hs2,hx2⟩;cases e with
  |goto l'=>
   obtain⟨rfl,m',s3,hm',hwk,hI3⟩:=hQ;obtain⟨E3,hs3,hx3⟩:=hwk _ E2 w2 a2 hs2;have hM2:M a2 w2 m':=⟨s3,E3,hI3,hs3,hx'.trans (hx2.trans hx3)⟩
   have hex:∃m,M a2 w2 m:=⟨m',hM2⟩
   refine⟨rfl,hex,?_⟩;have:μ a2 w2=Classical.choose (least hex):=dif_pos hex;rw[this,hμ];exact Nat.lt_of_le_of_lt ((Qap (least hex)).2 _ hM2) hm'
  |_=>exact⟨s2,E2,hQ,hs2,hx'.trans hx2⟩
section
variable {cx:Cx} {c:Code} {k:List Itm} {Q:Exit→Zb→Prop} {s:Zb}
def ZrQ{l:Nat}(hc:c= .label l)(h:AKc cx k Q s):AKc cx (.code c::k) Q s:=by
 rw[hc];exact fun E w a hs=>wpIn_label ⟨s,E,h,hs,.refl cx.n E w⟩
def Zea{P:Program}{φ:Fm}{n N:Nat}{l:Nat}(h:Q (.goto l) s):∀k,AX P φ n N Q k (.goto l) s
 |[]=>h
 | .code _::k=>Zea h k
 | .blk _::k=>Zea h k
def Zq5{l:Nat}(hc:c= .goto l)(h:Q (.goto l) s):AKc cx (.code c::k) Q s:=by
 rw[hc];exact fun E w a hs=>wpIn_goto ⟨s,E,Zea h k,hs,.refl cx.n E w⟩
def Zrr(l:Nat)(I:Nat→Zb→Prop){rest:Code}(hc:c= .scope c.fst)(hf:findLabel c.fst l=some rest)
  (first:AKc cx [.code c.fst] (JQ l (fun s'=>∃m s'',AWk cx.n cx.N s' s''∧I m s'') (AX cx.P cx.φ cx.n cx.N Q k)) s)
  (pass:∀m s,I m s→AKc cx [.code rest] (JQ l (fun s'=>∃m' s'',m'<m∧AWk cx.n cx.N s' s''∧I m' s'') (AX cx.P cx.φ cx.n cx.N Q k)) s):
  AKc cx (.code c::k) Q s:=by rw[hc];exact ZqO l I hf first pass
def Zma(l:Nat)(I:Nat→Zb→Prop)(m0:Nat)(s0:Zb){rest rest0:Code}(hc:c= .scope c.fst)(hf:findLabel c.fst l=some rest)(hr:∀Q' s,AKc cx [.code rest0] Q' s→AKc cx [.code rest] Q' s)(pre:∀Q',AKc cx [.code rest0] Q' s0→AKc cx [.code c.fst] Q' s)(h0:I m0 s0)
  (pass:∀m s,I m s→AKc cx [.code rest0] (JQ l (fun s'=>∃m' s'',m'<m∧AWk cx.n cx.N s' s''∧I m' s'') (AX cx.P cx.φ cx.n cx.N Q k)) s):
  AKc cx (.code c::k) Q s:=by
 refine Zrr l I hc hf (pre _ ?_) fun m s h=>hr _ _ (pass m s h)
 refine Zam ?_ (pass m0 s0 h0);intro e s' h;cases e with
 |goto l'=>
  obtain⟨e,m',s'',_,h1,h2⟩:=h;exact⟨e,m',s'',h1,h2⟩
 |_=>exact h
end
end Go.Abs

namespace Go.Proofs.YtmdeagmbfhbbnaaGreatDoorR
open Go.Abs
def fnV(l bx:Nat):Stp×Lt→AV
 |(.test x,_)=>.fn (.func 88) [.iptr [.ptr l bx 0],.iptr x.cs]
 |(.bind s t,_)=>.fn (.func 90) [.iptr [.ptr l bx 0],.iptr [.str s],.iptr t.cs]
 |(.atom _,x)=>.fn (.func 92) [.iptr [.ptr l bx 0],.iptr x.cs]
def Zci(l bx:Nat)(s:Stp×Lt):(fnV l bx s).cells=[fnV l bx s]:=by
 obtain⟨s,x⟩:=s;cases s<;>rfl
def ZmL(l bx:Nat)(s:Stp×Lt):(fnV l bx s).one=true:=by
 obtain⟨s,x⟩:=s;cases s<;>rfl
section
variable {n:Nat}
def Zct(l bx:Nat)(h:l<n)(s:Stp×Lt):Below n (fnV l bx s):=by
 have hp:Below n (.iptr [.ptr l bx 0]):=Zq ⟨.ptr _ _ _ h,trivial⟩;obtain⟨s,x⟩:=s;have key:∀f cs,Yg (fun c=>Below n c) cs→Below n (.fn f cs):=fun f cs h=>Below.fn _ _ fun i hi=>h.mem _ (Qa hi)
 cases s with
 |test y=>exact key _ _ ⟨hp,Zq y.bcs,trivial⟩
 |bind s t=>exact key _ _ ⟨hp,Zq ⟨.str _,trivial⟩,Zq t.bcs,trivial⟩
 |atom a=>exact key _ _ ⟨hp,Zq x.bcs,trivial⟩
variable {l bx:Nat}
def Zh8{m:Nat}(h:l<n)(done:List (Stp×Lt)):Ze.Below n (.Zg 84 1 (done.map (fnV l bx)) m):=⟨fun c hc=>by
 simp only[Ze.avs,Qi]at hc;obtain⟨s,_,rfl⟩:=hc;exact Zct l bx h s,by simp[Ze.at_]⟩
def plH(H:Za)(l bx mk q:Nat)(sp nw:AV)(done:List (Stp×Lt))(S:List Str):Za:=
 ((H.upd l mk (.map (encS S))).upd l q (.Zg 84 1 (done.map (fnV l bx)) done.length)).upd l bx (.box [.map l mk,sp,nw,.msl 1 l q done.length])
def ZlX(n l bx mk q:Nat)(sp nw:AV)(H:Za)(S:List Str)(ls:List Lt)(done:List (Stp×Lt)):Zb:=
 ⟨[(5,.fn (.func 84) [.iptr [.ptr l bx 0],.ptr n 3 0]),(2,.iptr [.ptr l bx 0]),(3,.ptr n 3 0)],[(3,.box [.sl 13 (ls.map Lt.enc) .any])],plH H l bx mk q sp nw done S⟩
def I42(n l bx mk q:Nat)(sp nw:AV)(H:Za)(D:List (Stp×Lt))(E:List Str×List Lt)(m:Nat)(s:Zb):Prop:=
 ∃S ls done,m=ls.length∧s=ZlX n l bx mk q sp nw H S ls done∧(∀x∈ls,Sm x)∧done++(plG ls.length S ls).1=D∧(plG ls.length S ls).2=E∧ls.length+done.length≤1000000
variable {p:Nat→Prop}
def Zbm(hl:l<n)(h:p 3):Inside n p (.fn (.func 84) [.iptr [.ptr l bx 0],.ptr n 3 0]):=
 .fn _ _ fun i hi=>Yg.mem (l:=[.iptr [.ptr l bx 0],.ptr n 3 0]) (p:=fun c=>Inside n p c) ⟨(Zq (cs:=[.ptr l bx 0]) ⟨.ptr _ _ _ hl,trivial⟩).inside,.ptr _ _ _ (.inr ⟨rfl,h⟩),trivial⟩ _ (Qa hi)
def Zfl(hl:l<n):Inside n p (.iptr [.ptr l bx 0]):=(Zq (cs:=[.ptr l bx 0]) ⟨.ptr _ _ _ hl,trivial⟩).inside
def Zry(H:Za)(l bx mk q:Nat)(hd:mk≠q∧mk≠bx∧q≠bx)(sp nw:AV)(done:List (Stp×Lt))(S S':List Str):(plH H l bx mk q sp nw done S).upd l mk (.map (encS S'))=plH H l bx mk q sp nw done S':=by
 funext a b;unfold plH Za.upd;by_cases h:a=l
 ·subst h;by_cases h1:b=mk
  ·subst h1;simp[hd.1,hd.2.1]
  ·simp[h1]
 ·simp[h]
def Znw(H:Za)(l bx mk q:Nat)(hd:mk≠q∧mk≠bx∧q≠bx)(sp nw:AV)(done:List (Stp×Lt))(s:Stp×Lt)(S:List Str):
  ((plH H l bx mk q sp nw done S).upd l q (.Zg 84 1 (done.map (fnV l bx)++[fnV l bx s]) (done.length+1))).upd l bx (.box [.map l mk,sp,nw,.msl 1 l q (done.length+1)])=plH H l bx mk q sp nw (done++[s]) S:=by
 funext a b;unfold plH Za.upd;by_cases h:a=l
 ·subst h;by_cases h1:b=bx
  ·simp[h1]
  ·by_cases h2:b=q
   ·simp[h1,h2]
   ·simp[h1,h2]
 ·simp[h]
def ZpJ(p q:List Lt):∀x∈ZaH p q,x.cells.length=13:=fun x hx=>by
 rcases Qk.1 hx with h|h
 ·obtain⟨y,_,rfl⟩:=Qi.1 h;rfl
 ·rw[Qm]at h;subst h;rfl
variable {tm:List (Nat×AV)} {S:List Str}
def ZuM{N mk q:Nat}(hl:l<n)(hd:mk≠q∧mk≠bx∧q≠bx){sp nw:AV}{H:Za}{p r:List Lt}{x:Lt}{done:List (Stp×Lt)}(hN:83<N)
  (h5:lkv tm 5= .fn (.func 84) [.iptr [.ptr l bx 0],.ptr n 3 0]) (h2:lkv tm 2= .iptr [.ptr l bx 0]) (h3:lkv tm 3= .ptr n 3 0):
  AWk n N ⟨tm,[(3,.box [.sub 13 n 200 (p++x::r).length 0 (p++r).length]),(200,.Zg 54 13 (flat (ZaH p r)) (p++x::r).length)],plH H l bx mk q sp nw done S⟩ (ZlX n l bx mk q sp nw H S (p++r) done):=by
 have:=Y1 (n:=n) (N:=N) (tm:=tm) (tm':=(ZlX n l bx mk q sp nw H S (p++r) done).tmps) (L:=[(3,.box [.sub 13 n 200 (p++x::r).length 0 (p++r).length]),(200,.Zg 54 13 (flat (ZaH p r)) (p++x::r).length)]) (H:=plH H l bx mk q sp nw done S)
  (j0:=3) (j:=200) (i:=0) (e:=54) (sz:=13) (k:=(p++x::r).length) (av':=.sl 13 ((p++r).map Lt.enc) .any) (cs0:=[.sub 13 n 200 (p++x::r).length 0 (p++r).length]) 83 hN (ZaH p r) dc rfl rfl (.inr ⟨0,(p++r).length,rfl,?_⟩) rfl rfl ?_ (ZpJ p r) ?_ ?_ ?_
 ·exact this
 ·rw[Qab,ZaH,Gv sm]
 ·simp[ZaH]
 ·intro c hc;exact((Ze.ZhG (n:=n) (m:=0) p r).1 c hc).inside
 ·intro t ht;simp only[ZlX,Ql,QA,or_false]at ht;rcases ht with rfl|rfl|rfl
  ·exact⟨show 5≠83 by decide,by rw[h5];exact .refl _,by rw[h5];exact Zbm hl dc⟩
  ·exact⟨show 2≠83 by decide,by rw[h2];exact .refl _,by rw[h2];exact Zfl hl⟩
  ·exact⟨show 3≠83 by decide,by rw[h3];exact .refl _,by rw[h3];exact .ptr _ _ _ (.inr ⟨rfl,dc⟩)⟩
 ·intro t ht;simp only[setb,delb,if_true,Ql,QA,or_false]at ht;simp at ht;subst ht;exact Ze.Zy ⟨.dead,trivial⟩
def ZpO{mk q:Nat}{φ:Fm}{N:Nat}(hl:l<n)(h0:0<l)(hd:mk≠q∧mk≠bx∧q≠bx){sp nw:AV}{H:Za}(hT:Tabs H){p r:List Lt}{x:Lt}(hx:Sm x){done:List (Stp×Lt)}(hlen:(p++x::r).length≤1000000)
  {o:Oper} {g:Operand} {args:List Operand} {ts:List TypeId} {F:Zb→Prop} (hg:evT tm g= .fn (.func 84) [.iptr [.ptr l bx 0],.ptr n 3 0]) (ha:Yn tt (evT tm) args ts=[.int .i64 p.length])
  (h:F ⟨Yk tm o.dst (.tup []),[(3,.box [.sub 13 n 200 (p++x::r).length 0 (p++r).length]),(200,.Zg 54 13 (flat (ZaH p r)) (p++x::r).length)],plH H l bx mk q sp nw done (ZP S (ZA x))⟩):
  WO ⟨prog,tt,φ,n,N⟩ false o g args ts ⟨tm,[(3,.box [.sl 13 ((p++x::r).map Lt.enc) .any])],plH H l bx mk q sp nw done S⟩ F:=by
 have hne:¬l=n:=om;have hT2:Tabs (full n [(3,.box [.sl 13 ((p++x::r).map Lt.enc) .any])] (plH H l bx mk q sp nw done S)):=hT.up fun k=>by
  rw[Zk om];unfold plH Za.upd;simp only[show¬(0:Nat)=l by omega,false_and,if_false]
 have hc:=k84 (n+1) _ hT2 l bx mk n 3 200 hl om h0 dc sp nw (.msl 1 l q done.length) (by rw[Zk hl];simp[plH,Za.upd]) S (by rw[Zk hl];simp[plH,Za.upd,hd.1,hd.2.1]) p r x hx hlen (by simp[full,lkb]) (by simp[full,lkb]);refine YT (caps:=[.iptr [.ptr l bx 0],.ptr n 3 0]) (avs:=[.int .i64 p.length]) hg (Zf func84 rfl rfl) hc ha ?_;rintro _ H1 ⟨rfl,rfl⟩;refine⟨[(3,.box [.sub 13 n 200 (p++x::r).length 0 (p++r).length]),(200,.Zg 54 13 (flat (ZaH p r)) (p++x::r).length)],(plH H l bx mk q sp nw done S).upd l mk (.map (encS (ZP S (ZA x)))),?_,.upd (WX _),?_⟩
 ·rw[←Yi n _ _ _ _ _ hne,←Zr,←Zr];rfl
 ·show F ⟨_,_,(plH H l bx mk q sp nw done S).upd l mk _⟩;rw[Zry H l bx mk q hd];exact h
def plO:Opt:=⟨true,true,fun d=>if d=37∨d=38∨d=66∨d=67 then .pure else if d=44∨d=73 then .heap else .auto,[]⟩
theorem k42(n:Nat)(H:Za)(hT:Tabs H)(l bx mk q:Nat)(h0:0<l)(hl:l<n)(hd:mk≠q∧mk≠bx∧q≠bx)(sp nw:AV)(S:List Str)(ls:List Lt)(hs:∀x∈ls,Sm x)(hlen:ls.length≤1000000)(hsp:Below n sp∧Below n nw)
  (hbx:H l bx=some (.box [.map l mk,sp,nw,.msl 1 l q 0])) (hq:H l q=some (.Zg 84 1 [] 0)) (hm:H l mk=some (.map (encS S))):
  Zi prog n 42 [.ptr l bx 0,.sl 13 (ls.map Lt.enc) .any] H fun r H'=>r= .bool ((plG ls.length S ls).2.2.all (X7 (plG ls.length S ls).2.1))∧H'=plH H l bx mk q sp nw (plG ls.length S ls).1 (plG ls.length S ls).2.1:=by
 have hne:¬l=n:=om;have hn:0<n:=om;obtain⟨D,hD⟩:∃D,D=(plG ls.length S ls).1:=⟨_,rfl⟩
 obtain⟨E,hE⟩:∃E,E=(plG ls.length S ls).2:=⟨_,rfl⟩
 have hH0:plH H l bx mk q sp nw [] S=H:=by
  unfold plH;rw[Yd hm];exact(congrArg (fun G:Za=>G.upd l bx _) (Yd hq)).trans (Yd hbx)
 rw[←hD,←hE];refine aF func42 fun B=>?_
 refine gh ?_;refine Ya 2 [.ptr l bx 0] [(2,.iptr [.ptr l bx 0]),(3,.ptr n 3 0)] rfl ⟨.ptr _ _ _ (.inl hl),trivial⟩ ?_ ⟨Ze.Zy ⟨(Yf ls).inside,trivial⟩,trivial⟩ ?_
 ·exact⟨.inr ⟨0,rfl,rfl⟩,.inl ⟨.refl _,.ptr _ _ _ (.inr ⟨rfl,dc⟩)⟩,trivial⟩
 refine aS ?_;refine Zma (rest0:=(ZW Tryz.f42).snd.fst.snd.snd) 0 (I42 n l bx mk q sp nw H D E) ls.length (ZlX n l bx mk q sp nw H S ls []) rfl rfl (fun _ _ h=>Zca rfl (ZaV rfl h)) ?_ ⟨S,ls,[],rfl,rfl,hs,hD.symm,hE.symm,by simpa using hlen⟩ ?_
 ·intro Q' h;rw[ZlX,hH0]at h;refine gh ?_;refine ZrQ rfl ?_;refine ZO ?_ h;exact KK
 rintro m _ ⟨S,ls,done,rfl,rfl,hs,hD,hE,hlen⟩;unfold ZlX;obtain⟨G,hG⟩:∃G,G=plH H l bx mk q sp nw done S:=⟨_,rfl⟩
 have hGb:G l bx=some (.box [.map l mk,sp,nw,.msl 1 l q done.length]):=by rw[hG];simp[plH,Za.upd]
 have hGq:G l q=some (.Zg 84 1 (done.map (fnV l bx)) done.length):=by rw[hG];simp[plH,Za.upd,hd.2.2]
 rw[←hG];refine gh ?_;refine ZL (fun i=>⟨[(17,.int .i64 i),(16,.int .i64 ls.length),(15,.sl 13 (ls.map Lt.enc) .any),(5,.fn (.func 84) [.iptr [.ptr l bx 0],.ptr n 3 0]),(2,.iptr [.ptr l bx 0]),(3,.ptr n 3 0)],[(3,.box [.sl 13 (ls.map Lt.enc) .any])],G⟩)
  (fun i=>∀j (h:j<ls.length),j<i→Y3 S ls[j]=none) ls.length rfl ?_ (fun j _ h=>absurd h (Qo _)) ?_
 ·exact KK
 intro i hi hr;refine ZQ rfl ?_;rcases Qe i ls.length with h|h
 ·obtain⟨x,hx⟩:∃x,x=ls[i]:=⟨_,rfl⟩
  have hxs:=hs _ (Qa h);rw[←hx]at hxs;refine nq h ?_;refine gH ?_;simp only[go_sem,simprocAttr,Lt.Zh _ _ h,h,←hx];refine nR ?_;by_cases k2:x.kind=2
  ·refine nFq k2 ?_;refine nR ?_;refine cQ (j87 (n+1) _ l bx l mk om om sp nw (.msl 1 l q done.length) ?_ S ?_ x hxs) ?_
   ·rw[Zk hl,hG];simp[plH,Za.upd]
   ·rw[Zk hl,hG];simp[plH,Za.upd,hd.1,hd.2.1]
   have hrd:=Zn7 S x k2;generalize ZaW S x=rd at hrd⊢;obtain⟨sn,tn,b⟩:=rd;refine aS ?_;cases b with
   |false=>
    have hno:Y3 S x=none:=by rw[hrd];rfl
    refine nR ?_;refine gm ?_;refine⟨fun j hj hji=>?_,?_⟩
    ·rcases Qe j i with h'|h'
     ·exact hr j hj h'
     ·have:j=i:=om;subst this;rw[←hx];exact hno
    ·apply kZ;repeat' first|apply q0|exact xx|apply aI
     ·refine aS ?_;rw[iw];exact .refl _
     all_goals first|exact Zfl hl|exact(Yf ls).inside|exact Zbm hl rfl
   |true=>
    refine nR ?_;refine nT ?_;have hrs:Y3 S x=some (if sn=[]then .test x else .bind sn tn):=by rw[hrd];rfl
    refine Ya 7 x.cs [(7,.iptr x.cs),(8,.ptr n 8 0),(9,.ptr n 9 0),(6,.int .i64 i),(5,.fn (.func 84) [.iptr [.ptr l bx 0],.ptr n 3 0]),(2,.iptr [.ptr l bx 0]),(3,.ptr n 3 0)] rfl (Yb fun c hc=>(x.bcs.mem c hc).inside) ?_ ?_ ?_
    ·exact⟨.inr ⟨0,rfl,rfl⟩,.inl ⟨.refl _,.ptr _ _ _ (.inr ⟨rfl,dc⟩)⟩,.inl ⟨.refl _,.ptr _ _ _ (.inr ⟨rfl,dc⟩)⟩,.inl ⟨.refl _,.int _ _⟩,.inl ⟨.refl _,Zbm hl dc⟩,.inl ⟨.refl _,Zfl hl⟩,.inl ⟨.refl _,.ptr _ _ _ (.inr ⟨rfl,dc⟩)⟩,trivial⟩
    ·exact⟨Ze.Zy ⟨(Yf ls).inside,trivial⟩,Ze.Zy ⟨.str _,trivial⟩,Ze.Zy (Yb fun c hc=>(tn.bcs.mem c hc).inside),trivial⟩
    refine aS ?_;refine Ya 8 [.str sn] [(8,.iptr [.str sn]),(7,.iptr x.cs),(9,.ptr n 9 0),(6,.int .i64 i),(5,.fn (.func 84) [.iptr [.ptr l bx 0],.ptr n 3 0]),(2,.iptr [.ptr l bx 0]),(3,.ptr n 3 0)] rfl ⟨.str _,trivial⟩ ?_ ?_ ?_
    ·exact⟨.inr ⟨0,rfl,rfl⟩,.inl ⟨.refl _,(Zq x.bcs).inside⟩,.inl ⟨.refl _,.ptr _ _ _ (.inr ⟨rfl,dc⟩)⟩,.inl ⟨.refl _,.int _ _⟩,.inl ⟨.refl _,Zbm hl dc⟩,.inl ⟨.refl _,Zfl hl⟩,.inl ⟨.refl _,.ptr _ _ _ (.inr ⟨rfl,dc⟩)⟩,trivial⟩
    ·exact⟨Ze.Zy ⟨(Yf ls).inside,trivial⟩,Ze.Zy (Yb fun c hc=>(tn.bcs.mem c hc).inside),trivial⟩
    refine aS ?_;refine Ya 9 tn.cs [(9,.iptr tn.cs),(8,.iptr [.str sn]),(7,.iptr x.cs),(6,.int .i64 i),(5,.fn (.func 84) [.iptr [.ptr l bx 0],.ptr n 3 0]),(2,.iptr [.ptr l bx 0]),(3,.ptr n 3 0)] rfl (Yb fun c hc=>(tn.bcs.mem c hc).inside) ?_ ?_ ?_
    ·exact⟨.inr ⟨0,rfl,rfl⟩,.inl ⟨.refl _,(Zq (cs:=[.str sn]) ⟨.str _,trivial⟩).inside⟩,.inl ⟨.refl _,(Zq x.bcs).inside⟩,.inl ⟨.refl _,.int _ _⟩,.inl ⟨.refl _,Zbm hl dc⟩,.inl ⟨.refl _,Zfl hl⟩,.inl ⟨.refl _,.ptr _ _ _ (.inr ⟨rfl,dc⟩)⟩,trivial⟩
    ·exact⟨Ze.Zy ⟨(Yf ls).inside,trivial⟩,trivial⟩
    refine gc ?_;refine WM ⟨[(11,fnV l bx (if sn=[]then .test x else .bind sn tn,x)),(6,.int .i64 i),(5,.fn (.func 84) [.iptr [.ptr l bx 0],.ptr n 3 0]),(2,.iptr [.ptr l bx 0]),(3,.ptr n 3 0)],[(3,.box [.sl 13 (ls.map Lt.enc) .any])],G⟩ ?_ ?_
    ·by_cases hsn:sn=[]
     ·rw[if_pos hsn];have hsb:(!sn==[])=false:=by simp[hsn]
      refine nFq hsb ?_;refine nN ?_;refine⟨rfl,?_⟩;apply kZ;repeat' first|apply q0|exact xx|apply aI
      all_goals first|exact Zfl hl|exact(Yf ls).inside|exact Zbm hl rfl|exact(Zct l bx hl (Stp.test x,x)).inside|exact(Zct l bx hl (Stp.bind sn tn,x)).inside
     ·rw[if_neg hsn];have hsb:(!sn==[])=true:=by simp[hsn]
      refine nTq hsb ?_;refine gd ?_;refine⟨rfl,?_⟩;apply kZ;repeat' first|apply q0|exact xx|apply aI
      all_goals first|exact Zfl hl|exact(Yf ls).inside|exact Zbm hl rfl|exact(Zct l bx hl (Stp.test x,x)).inside|exact(Zct l bx hl (Stp.bind sn tn,x)).inside
    generalize (if sn=[]then Stp.test x else .bind sn tn)=s at hrs⊢;have hpl:=ZoJ i h hr (hx▸hrs);refine nD plO ?_;obtain⟨G1,hG1⟩:∃G1,G1=G.upd l q (.Zg 84 1 (done.map (fnV l bx)++[fnV l bx (s,x)]) (done.length+1)):=⟨_,rfl⟩
    have hGb1:G1 l bx=some (.box [.map l mk,sp,nw,.msl 1 l q done.length]):=by rw[hG1];simp only[Za.upd,hd.2.2.symm,and_false,if_false];exact hGb
    have hfl:flat [fnV l bx (s,x)]=[fnV l bx (s,x)]:=by simp[flat,Zci]
    have hdl:done.length+1≤1000000:=om;simp only[go_sem,simprocAttr,plO,hne,hGb,hGq,Zci,ZmL,hfl,←hG1,hGb1];have e2:done.map (fnV l bx)++[fnV l bx (s,x)]=(done++[(s,x)]).map (fnV l bx):=sm;refine⟨rfl,⟨Zl om,om⟩,.inr (e2▸Zh8 hl _),.inr (Ze.ZC ⟨.map _ _ hl,hsp.1,hsp.2,.msl _ _ _ _ hl,trivial⟩),?_⟩;rw[hG1,hG,Znw H l bx mk q hd];obtain⟨p,r,hls,hpi⟩:∃p r,ls=p++x::r∧p.length=i:=⟨ls.take i,ls.drop (i+1),by rw[hx];simp,by simp;omega⟩
    have hpr:ls.take i++ls.drop (i+1)=p++r:=by rw[hls,←hpi];simp
    rw[←hx,hpr]at hpl;subst hls hpi;refine nR ?_;refine ZpO hl h0 hd hT hxs om rfl sS ?_;refine gM ?_;have hst:=Zkg hpl (f:=(p++r).length) (by simp;omega);refine Zq5 rfl (Zea ⟨rfl,_,_,?_,ZuM hl hd dc sS sS sS,⟨_,_,_,rfl,rfl,?_,?_,?_,?_⟩⟩ _)
    ·simp
    ·exact fun y hy=>hs y (by rcases Qk.1 hy with h|h;all_goals simp[h])
    ·rw[←hD,hst];simp
    ·rw[←hE,hst]
    ·simp at hlen⊢;omega
  ·have k2':(x.kind !=2)=true:=by simp[k2]
   have hno:Y3 S x=none:=by unfold Y3;rw[if_neg k2]
   refine nTq k2' ?_;refine ZlR rfl rfl rfl ?_;refine gd ?_;refine⟨fun j hj hji=>?_,?_⟩
   ·rcases Qe j i with h'|h'
    ·exact hr j hj h'
    ·have:j=i:=om;subst this;rw[←hx];exact hno
   ·apply kZ;repeat' first|apply q0|exact xx|apply aI
    ·refine aS ?_;rw[iw];exact .refl _
    all_goals first|exact Zfl hl|exact(Yf ls).inside|exact Zbm hl rfl
 ·have hi':i=ls.length:=om;subst hi';have hr0:∀j (h:j<ls.length),Y3 S ls[j]=none:=fun j h=>hr j h h
  refine nq (QD.2 h) ?_;refine gg ?_;refine gh ?_;refine ZL (fun i=>⟨[(53,.int .i64 i),(52,.int .i64 ls.length),(51,.sl 13 (ls.map Lt.enc) .any),(5,.fn (.func 84) [.iptr [.ptr l bx 0],.ptr n 3 0]),(2,.iptr [.ptr l bx 0]),(3,.ptr n 3 0)],[(3,.box [.sl 13 (ls.map Lt.enc) .any])],G⟩)
   (fun i=>∀j (h:j<ls.length),j<i→JR ls[j]=none) ls.length rfl ?_ (fun j _ h=>absurd h (Qo _)) ?_
  ·exact KK
  intro i hi ha;refine ZQ rfl ?_;rcases Qe i ls.length with h|h
  ·obtain⟨x,hx⟩:∃x,x=ls[i]:=⟨_,rfl⟩
   have hxs:=hs _ (Qa h);rw[←hx]at hxs;refine nq h ?_;refine gH ?_;simp only[go_sem,simprocAttr,Lt.Zh _ _ h,h,←hx];by_cases k1:x.kind=1∧x.neg=false
   ·have e1:(x.kind==1)=true:=by simp[k1.1]
    have has:JR x=some (.atom x.at_):=by unfold JR;rw[if_pos k1]
    have e2:(!x.neg)=true:=by simp[k1.2]
    refine nq2 e1 e2 ?_;refine nT ?_;refine Ya 13 x.cs [(13,.iptr x.cs),(12,.int .i64 i),(5,.fn (.func 84) [.iptr [.ptr l bx 0],.ptr n 3 0]),(2,.iptr [.ptr l bx 0]),(3,.ptr n 3 0)] rfl (Yb fun c hc=>(x.bcs.mem c hc).inside) ?_ ?_ ?_
    ·exact⟨.inr ⟨0,rfl,rfl⟩,.inl ⟨.refl _,.int _ _⟩,.inl ⟨.refl _,Zbm hl dc⟩,.inl ⟨.refl _,Zfl hl⟩,.inl ⟨.refl _,.ptr _ _ _ (.inr ⟨rfl,dc⟩)⟩,trivial⟩
    ·exact⟨Ze.Zy ⟨(Yf ls).inside,trivial⟩,trivial⟩
    refine aS ?_;obtain⟨G1,hG1⟩:∃G1,G1=G.upd l q (.Zg 84 1 (done.map (fnV l bx)++[fnV l bx (.atom x.at_,x)]) (done.length+1)):=⟨_,rfl⟩
    have hGb1:G1 l bx=some (.box [.map l mk,sp,nw,.msl 1 l q done.length]):=by rw[hG1];simp only[Za.upd,hd.2.2.symm,and_false,if_false];exact hGb
    have hfv:AV.fn (.func 92) [.iptr [.ptr l bx 0],.iptr x.cs]=fnV l bx (.atom x.at_,x):=rfl;simp only[Lt.cs]at hfv;have hfl:flat [fnV l bx (.atom x.at_,x)]=[fnV l bx (.atom x.at_,x)]:=by simp[flat,Zci]
    have hdl:done.length+1≤1000000:=om;have hpl:=ZlE i h hr0 ha (hx▸has);refine nD plO ?_;simp only[go_sem,simprocAttr,plO,hne,hGb,hGq,hfv,Zci,ZmL,hfl,←hG1,hGb1];have e2:done.map (fnV l bx)++[fnV l bx (.atom x.at_,x)]=(done++[(Stp.atom x.at_,x)]).map (fnV l bx):=sm;refine⟨rfl,⟨Zl om,om⟩,.inr (e2▸Zh8 hl _),.inr (Ze.ZC ⟨.map _ _ hl,hsp.1,hsp.2,.msl _ _ _ _ hl,trivial⟩),?_⟩;rw[hG1,hG,Znw H l bx mk q hd];obtain⟨p,r,hls,hpi⟩:∃p r,ls=p++x::r∧p.length=i:=⟨ls.take i,ls.drop (i+1),by rw[hx];simp,by simp;omega⟩
    have hpr:ls.take i++ls.drop (i+1)=p++r:=by rw[hls,←hpi];simp
    rw[←hx,hpr]at hpl;subst hls hpi;refine nR ?_;refine ZpO hl h0 hd hT hxs om rfl sS ?_;refine gM ?_;have hst:=Zkg hpl (f:=(p++r).length) (by simp;omega);refine Zq5 rfl (Zea ⟨rfl,_,_,?_,ZuM hl hd dc sS sS sS,⟨_,_,_,rfl,rfl,?_,?_,?_,?_⟩⟩ _)
    ·simp
    ·exact fun y hy=>hs y (by rcases Qk.1 hy with h|h;all_goals simp[h])
    ·rw[←hD,hst];simp
    ·rw[←hE,hst]
    ·simp at hlen⊢;omega
   ·have hno:JR x=none:=by unfold JR;rw[if_neg k1]
    have e1:((x.kind==1)&& !x.neg)=false:=by
     cases h1:(x.kind==1)with
     |false=>rfl
     |true=>
      cases h2:x.neg with
      |false=>exact absurd ⟨by simpa using h1,h2⟩ k1
      |true=>rfl
    cases h1:(x.kind==1)with
    |false=>
     refine nq h1 ?_;refine gm ?_;refine⟨fun j hj hji=>?_,?_⟩
     ·rcases Qe j i with h'|h'
      ·exact ha j hj h'
      ·have:j=i:=om;subst this;rw[←hx];exact hno
     ·apply kZ;repeat' first|apply q0|exact xx|apply aI
      ·refine aS ?_;rw[iw];exact .refl _
      all_goals first|exact Zfl hl|exact(Yf ls).inside|exact Zbm hl rfl
    |true=>
     rw[h1,Ud]at e1;refine nq2 h1 e1 ?_;refine gm ?_;refine⟨fun j hj hji=>?_,?_⟩
     ·rcases Qe j i with h'|h'
      ·exact ha j hj h'
      ·have:j=i:=om;subst this;rw[←hx];exact hno
     ·apply kZ;repeat' first|apply q0|exact xx|apply aI
      ·refine aS ?_;rw[iw];exact .refl _
      all_goals first|exact Zfl hl|exact(Yf ls).inside|exact Zbm hl rfl
  ·have hi':i=ls.length:=om;subst hi';have ha0:∀j (h:j<ls.length),JR ls[j]=none:=fun j h=>ha j h h
   have hpl:=ZrS (ZqH hr0 ha0);refine nq (QD.2 h) ?_;refine gG ?_;refine YT (caps:=[]) (avs:=[.sl 13 (ls.map Lt.enc) .any,.fn (.func 94) [.iptr [.ptr l bx 0]]]) rfl (Zf func78 rfl rfl) (h78 ls om 94 [.iptr [.ptr l bx 0]] (fun x=>!X7 S x) (n+1) _ ⟨⟨_,_,Zf func94 rfl rfl⟩,fun x hx m G2 hm hG2=>?_,fun m hm=>⟨Zq (cs:=[.ptr l bx 0]) ⟨.ptr _ _ _ om,trivial⟩,trivial⟩⟩) sS ?_
   ·exact k94 m G2 (hT.up fun k=>by
     rw[hG2 0 k om,Zk hn,hG];unfold plH Za.upd;simp only[show¬(0:Nat)=l by omega,false_and,if_false]) om l bx mk om sp nw (.msl 1 l q done.length) (by rw[hG2 _ _ om,Zk hl];exact hGb) S (by rw[hG2 _ _ om,Zk hl,hG];simp[plH,Za.upd,hd.1,hd.2.1]) x (hs x hx)
   rintro r H1 ⟨rfl,rfl⟩;refine⟨_,_,rfl,.refl _ _,?_⟩;refine gw ?_;rw[hpl,Qs]at hD;rw[hpl]at hE;subst hD hE;have hany:(!ls.any fun x=>!X7 S x)=ls.all (X7 S):=by
    rw[U3];simp
   show PostF prog tt n [.tmp 4] (fun r H'=>r=AV.bool (ls.all (X7 S))∧H'=plH H l bx mk q sp nw done S) .ret _;refine Zn (v:=.bool (ls.all (X7 S))) ?_ (.bool _) ?_
   ·refine aq hany ?_;exact .refl _
   ·exact⟨rfl,hG⟩
end
def okB(pr:Option Str)(p:Str×Tm):Bool:=(match pr with
 |none=>true
 |some s=>decide (Lib.compareBytes s p.1<0))&&Zo p.2
def vB:Option Str→Bnd→Bool
 |_,[]=>true
 |pr,p::r=>okB pr p&&vB (some p.1) r
def Zm3(s:Str)(v:Tm):∀r:Bnd,(Zo v&&vB (some s) r)=validB ((s,v)::r)
 |[]=>by simp[vB,validB]
 |p::r=>by
  have:=Zm3 p.1 p.2 r;simp only[vB,okB,validB]at this⊢;rw[←this];cases Zo v<;>cases Zo p.2<;>simp
theorem vB_none:∀b:Bnd,vB none b=validB b
 |[]=>rfl
 |p::r=>by
  have:=Zm3 p.1 p.2 r;rw[←this];simp[vB,okB]
def Zsn(x y:Str):(Op.bytesLess x y||x==y)= !decide (Lib.compareBytes y x<0):=by
 have h1:=Zn2 x y;have h2:Lib.compareBytes y x= -Lib.compareBytes x y:=by rw[Zf3,Zf3,lexI_anti]
 rw[h2,←h1];cases Op.bytesLess x y with
 |true=>simp
 |false=>
  cases hxy:x==y with
  |true=>simp
  |false=>simp
def Zls(b:Bnd)(i:Nat):Option Str:=if i=0 then none else(b[i - 1]?).map Prod.fst
def Zv9(b:Bnd)(H:Za)(i:Nat):Zb:=⟨[(7,.int .i64 i),(6,.int .i64 b.length),(5,.sl 5 (b.map eBd) .any),(0,.sl 5 (b.map eBd) .any)],[],H⟩
def k39(b:Bnd)(hb:b.length≤1000000)(gb:∀x∈b,x.2.Good):ZR prog 39 [.sl 5 (b.map eBd) .any] (.bool (validB b)):=by
 intro n H hn hT;refine aF func39 fun B=>?_
 refine gk ?_;refine ZL (Zv9 b H) (fun i=>validB b=vB (Zls b i) (b.drop i)) b.length rfl ?_ (vB_none b).symm ?_
 ·exact KK
 intro i hi hc;refine ZQ rfl ?_;rcases Qe i b.length with h|h
 ·rw[Qu h,vB]at hc;refine nq h ?_;refine nT ?_;refine nq2 (getD_map eBd _ _ h) h ?_;have hv:=a37 b[i].2 (gb _ (Qa h));have hps:∀i (h:i<b.length),Zls b (i+1)=some b[i].1:=fun i h=>by simp[Zls,Qb h]
  cases i with
  |zero=>
   have hk:okB (Zls b 0) b[0]=Zo b[0].2:=by simp[okB,Zls]
   rw[hk]at hc;have h00:decide (0<(0:Int))=false:=rfl;refine Xz tok mixed drawO rfl rfl rfl ?_;simp -implicitDefEqProofs (maxSteps:=1000000) only[go_sem,simprocAttr,h00,Int.natCast_zero];refine cT (hv) ?_;refine kK ?_;cases hvv:Zo b[0].2 with
   |false=>
    refine nTq hvv ?_;refine nR ?_;refine nW ?_;refine Zc ?_ (.bool _) rfl;rw[hc,hvv];exact .refl _
   |true=>
    refine nFq hvv ?_;refine gd ?_;refine⟨by rw[hc,hvv,hps 0 h,Ud],?_⟩;exact KK
  |succ i=>
   have h':i<b.length:=om;have hk:okB (Zls b (i+1)) b[i+1]=(decide (Lib.compareBytes b[i].1 b[i+1].1<0)&&Zo b[i+1].2):=by simp[okB,Zls,Qb h']
   rw[hk]at hc;have hgt:decide (0<((i+1:Nat):Int))=true:=sm;have hw:IntKind.i64.wrap (((i+1:Nat):Int) - 1)=(i:Int):=by rw[show((i+1:Nat):Int) - 1=(i:Int) by omega];exact iw
   cases hlt:decide (Lib.compareBytes b[i].1 b[i+1].1<0)with
   |false=>
    rw[hlt,UA,UA]at hc;refine Xz tok mixed drawO rfl rfl rfl ?_;simp -implicitDefEqProofs (maxSteps:=1000000) only[go_sem,simprocAttr,hgt,hw,getD_map eBd _ _ h',h',Zsn,hlt];refine kK ?_;refine nTq hlt ?_;refine nR ?_;refine nW ?_;refine Zc ?_ (.bool _) rfl;rw[hc];exact .refl _
   |true=>
    rw[hlt,Ud]at hc;refine Xz tok mixed drawO rfl rfl rfl ?_;simp -implicitDefEqProofs (maxSteps:=1000000) only[go_sem,simprocAttr,hgt,hw,getD_map eBd _ _ h',h',Zsn,hlt];refine cT (hv) ?_;refine kK ?_;cases hvv:Zo b[i+1].2 with
    |false=>
     refine nTq hvv ?_;refine nR ?_;refine nW ?_;refine Zc ?_ (.bool _) rfl;rw[hc,hvv];exact .refl _
    |true=>
     refine nFq hvv ?_;refine gd ?_;refine⟨by rw[hc,hvv,hps (i+1) h,Ud],?_⟩;exact KK
 ·refine nq (QD.2 h) ?_;refine gt ?_;refine Zc ?_ (.bool _) rfl;rw[hc,QT h];exact .refl _
theorem Znb{α:Type}(p:α→Bool)(l:List α):(l.any fun t=>!p t)= !l.all p:=by
 induction l with
 |nil=>rfl
 |cons x r ih=>simp only[Qan,Qbp,ih,Bool.not_and]
def j79(x:Lt)(hx:x.Good):ZR prog 79 [x.enc,.iptr [.fn (.func 76) []]] (.bool (!Yt x)):=by
 intro n H hn hT;have hs:=hx.at_.pred;have hbad:ZeZ 76 [] Tm.enc x.at_.args (fun t=>!Jf t):=⟨⟨_,_,Zf func76 rfl rfl⟩,fun t ht=>j76 t (hx.at_.arg ht),fun _=>trivial⟩
 refine aF func79 fun B=>?_
 refine gk ?_;by_cases k1:x.kind=1
 ·have e1:(x.kind==1)=true:=by simp[k1]
  refine nq e1 ?_;refine gi ?_;refine cP (a45 x.at_.pred om) ?_;cases h1:sym x.at_.pred with
  |false=>
   refine aS ?_;refine YG rfl rfl ?_;refine Zc ?_ (.bool _) rfl;try simp only[go_sem,simprocAttr,Yt,k1,h1]
   exact .refl _
  |true=>
   cases h2:decide ((8:Int)<(x.at_.args.length:Int))with
   |true=>
    have e2:decide (x.at_.args.length≤8)=false:=by simp at h2⊢;omega
    refine aq h2 ?_;refine YG rfl rfl ?_;refine Zc ?_ (.bool _) rfl;try simp only[go_sem,simprocAttr,Yt,k1,h1,e2]
    exact .refl _
   |false=>
    have e2:decide (x.at_.args.length≤8)=true:=by simp at h2⊢;omega
    refine aq h2 ?_;refine cT (a46 x.at_.args hx.at_.len _ [] _ hbad) ?_;refine nV ?_;refine Zc ?_ (.bool _) rfl;simp only[go_sem,simprocAttr,Yt,k1,h1,e2,Znb];exact .refl _
 ·have e1:(x.kind==1)=false:=by simp[k1]
  refine nq e1 ?_;refine nF ?_;by_cases k2:x.kind=2
  ·have e2:(x.kind==2)=true:=by simp[k2]
   refine nq e2 ?_;refine gi ?_;cases h1:x.neg with
   |true=>
    refine aq h1 ?_;refine YG rfl rfl ?_;refine Zc ?_ (.bool _) rfl;try simp only[go_sem,simprocAttr,Yt,k1,k2,h1]
    exact .refl _
   |false=>
    cases h2:decide (x.op<1)with
    |true=>
     have e3:decide (1≤x.op)=false:=by simp at h2⊢;omega
     refine aq2 h1 h2 ?_;refine YG rfl rfl ?_;refine Zc ?_ (.bool _) rfl;try simp only[go_sem,simprocAttr,Yt,k1,k2,h1,e3]
     exact .refl _
    |false=>
     have e3:decide (1≤x.op)=true:=by simp at h2⊢;omega
     cases h3:decide (6<x.op)with
     |true=>
      have e4:decide (x.op≤6)=false:=by simp at h3⊢;omega
      simp only[go_sem,simprocAttr,h1,h2,h3];refine YG rfl rfl ?_;refine Zc ?_ (.bool _) rfl;try simp only[go_sem,simprocAttr,Yt,k1,k2,h1,e3,e4]
      exact .refl _
     |false=>
      have e4:decide (x.op≤6)=true:=by simp at h3⊢;omega
      simp only[go_sem,simprocAttr,h1,h2,h3];refine YE (avs:=[x.L.enc]) rfl (Zf func76 rfl rfl) (j76 x.L hx.L _ _ (QO _) (hT.full hn)) rfl ?_;cases h4:Jf x.L with
      |false=>
       refine aS ?_;refine YG rfl rfl ?_;refine Zc ?_ (.bool _) rfl;try simp only[go_sem,simprocAttr,Yt,k1,k2,h1,e3,e4,h4]
       exact .refl _
      |true=>
       refine aS ?_;refine YE (avs:=[x.R.enc]) rfl (Zf func76 rfl rfl) (j76 x.R hx.R _ _ (QO _) (hT.full hn)) rfl ?_;refine aS ?_;refine YG rfl rfl ?_;refine Zc ?_ (.bool _) rfl;try simp only[go_sem,simprocAttr,Yt,k1,k2,h1,e3,e4,h4]
       exact .refl _
  ·have e2:(x.kind==2)=false:=by simp[k2]
   refine nq e2 ?_;refine gv ?_;refine YG rfl rfl ?_;refine Zc ?_ (.bool _) rfl;try simp only[go_sem,simprocAttr,Yt,k1,k2]
   exact .refl _
def j38(l:List Lt)(hl:l.length≤1000000)(hg:∀x∈l,x.Good):ZR prog 38 [.sl 13 (l.map Lt.enc) .any] (.bool (l.all Yt)):=by
 intro n H hn hT;refine aF func38 fun B=>?_
 refine gk ?_;refine Ya 3 [.fn (.func 76) []] [(2,.bool false),(3,.iptr [.fn (.func 76) []]),(0,.sl 13 (l.map Lt.enc) .any)] rfl ?_ ?_ trivial ?_
 ·exact⟨(ZaP (caps:=[]) trivial).inside,trivial⟩
 ·exact⟨.inl ⟨.refl _,.bool _⟩,.inr ⟨0,rfl,rfl⟩,.inl ⟨.refl _,(Yf l).inside⟩,trivial⟩
 refine nR ?_;refine cT (j78 l hl 79 [.iptr [.fn (.func 76) []]] (fun x=>!Yt x) ⟨⟨_,_,Zf func79 rfl rfl⟩,fun x hx=>j79 x (hg x hx),fun n=>⟨Zq ⟨ZaP (caps:=[]) trivial,trivial⟩,trivial⟩⟩) ?_;refine nV ?_;refine Zc ?_ (.bool _) rfl;simp only[go_sem,simprocAttr,Znb,Qbz];exact .refl _
structure Zue (n:Nat) (H:Za) (f:Nat) (caps:List AV) (l:List Bnd) (g:Bnd→Bnd):Prop where
 fn:∃fn c,Fun prog f fn c
 on:∀x∈l,∀m G,n≤m→(∀l' k,l'<n→G l' k=H l' k)→PC prog m f (Zj x::caps) G (Zj (g x))
 below:∀m,n≤m→Yg (fun c=>Below m c) caps
def ZuH(l:List Bnd)(f:Nat)(caps:List AV)(g:Bnd→Bnd)(n:Nat)(H:Za)(i:Nat):Zb:=
 ⟨[(10,.int .i64 i),(9,.int .i64 l.length),(8,.sl 1 (l.map Zj) .any),(5,.msl 1 n 200 i),(1,.fn (.func f) caps)],[(200,.Zg 34 1 (((l.take i).map g).map Zj) i)],H⟩
def ZqK(v:AV)(h:v.cells=[v]):flat [v]=[v]:=by simp[flat,h]
def k43(n:Nat)(H:Za)(l:List Bnd)(hl:l.length≤1000000)(f:Nat)(caps:List AV)(g:Bnd→Bnd)(hp:Zue n H f caps l g)(l2 k2:Nat)(hl2:l2<n)(hfr:H l2 k2=none):
  Zi prog n 43 [.sl 1 (l.map Zj) .any,.fn (.func f) caps] H fun r H'=>r= .msl 1 l2 k2 l.length∧H'=H.upd l2 k2 (.Zg 34 1 ((l.map g).map Zj) l.length):=by
 obtain⟨⟨fn,c,hf⟩,hp,hbl⟩:=hp;have hfi:∀q,Inside n q (.fn (.func f) caps):=fun q=>(Below.fn _ _ fun i hi=>(hbl n (Qg n)).mem _ (Qa hi)).inside
 have hbi:∀q,Inside n q (.sl 1 (l.map Zj) .any):=fun q=>(ZF l).inside
 have hmb:∀(q:Nat→Prop) (r:List Bnd) m,Ze.Inside n q (.Zg 34 1 (r.map Zj) m):=fun q r m=>⟨fun c hc=>by obtain⟨u,_,rfl⟩:=Qi.1 hc;exact(Zw n u).inside,by simp[Ze.at_]⟩
 have hmi:∀(q:Nat→Prop) (r:List Bnd),Yg (fun c=>Inside n q c) (r.map Zj):=fun q r=>Yb fun c hc=>by obtain⟨u,_,rfl⟩:=Qi.1 hc;exact(Zw n u).inside
 have hbb:∀(r:List Bnd) m,Ze.Below n (.Zg 34 1 (r.map Zj) m):=fun r m=>⟨fun c hc=>by obtain⟨u,_,rfl⟩:=Qi.1 hc;exact Zw n u,by simp[Ze.at_]⟩
 refine aF func43 fun B=>?_
 refine gz ?_;refine Zcq 5 200 34 1 rfl rfl ?_;refine Zm (ZuH l f caps g n H) l.length rfl ?_ ?_
 ·exact KK
 intro i hi;refine ZQ rfl ?_;rcases Qe i l.length with h|h
 ·refine nq h ?_;refine nT ?_;refine nq2 (getD_map Zj _ _ h) h ?_;refine nR ?_;refine YE (avs:=[Zj l[i]]) rfl hf (hp l[i] (Qa h) (n+1) _ om fun l' k h=>Zk h _ _ _) rfl ?_;have hfl:flat [Zj (g l[i])]=[Zj (g l[i])]:=ZqK _ rfl;have hta:((l.take i).map g).map Zj++[Zj (g l[i])]=((l.take (i+1)).map g).map Zj:=by rw[Qj h,QC,QC];rfl
  refine aq2 hfl hta ?_;refine⟨rfl,⟨Zl om,om⟩,?_⟩;refine gd ?_;apply kZ;repeat' first|apply q0|exact xx|apply aI
  ·refine aS ?_;rw[iw];exact .refl _
  all_goals first|exact hfi _|exact hbi _|exact hmb _ _ _|exact .msl _ _ _ _ (.inr ⟨rfl,rfl⟩)|exact hmi _ _
 ·refine nq (QD.2 h) ?_;refine gg ?_;have hi':i=l.length:=om;subst hi';refine nt0 ?_;refine ZbV 200 l2 k2 _ [(4,.msl 1 l2 k2 l.length)] hl2 hfr rfl (hbb _ _) ⟨⟨.inr (.inr (.inr ⟨1,_,rfl⟩)),by simp[lkv,ren];exact .refl _⟩,trivial⟩ trivial ?_;refine nV ?_;exact Zn (.refl _) (.msl _ _ _ _ hl2) ⟨rfl,rfl⟩
section
variable {L:List (Nat×Ze)} {tm:List (Nat×AV)} {n:Nat}
def ZkP{N:Nat}{H:Za}{j0 i:Nat}{av av':AV}{cs:List AV}(hj0:lkb L j0=some (.box cs))(hi:cs[i]? =some av)(hw:Wk av av'):AWk n N ⟨tm,L,H⟩ ⟨tm,setb L j0 (.box (cs.set i av')),H⟩:=fun B E w a hs=>by
 have h:=hs.heap;obtain⟨b0,hm0,c,t,hc,hv⟩:=h.box n j0 cs (Qr n) (by simp only[full,if_true];exact hj0);obtain⟨hil,hie⟩:=Ub.1 hi;obtain⟨hh2,hx2⟩:=h.turn (w':=w) (.inl hm0) (.box (cs.set i av')) (fun hg=>absurd (h.m_g hm0) hg) rfl rfl rfl (fun _=>Qg _) rfl (fun _ _=>rfl) (fun o=>h.mF _ _ _ o hm0)
  ⟨b0,hm0,c,t,hc,by rw[MO];exact hv.1,fun i' g1 g2=>by
   rw[Gy];split
   ·rename_i e;subst e;have:=hv.2 i hil g2;rw[hie]at this;exact hw.vr this
   ·exact hv.2 i' (by simpa using g1) g2⟩
 rw[←Zr]at hh2;exact⟨E,⟨hs.size,hs.defs,hs.tmps,hh2,hs.out⟩,.refl _ _ _⟩
def ZqC{cx:Cx}(hP:cx.P=prog){o:Oper}{args:List Operand}{ts:List TypeId}{H:Za}{k:Nat}{S:List Str}{x:Str}{K:Zb→Prop}(hk:lkb L k=some (.map (encS S)))
  (ha:Yn cx.T (evT tm) args ts=[.map cx.n k,.sl 1 [.str x] .full]) (h:K ⟨Yk tm o.dst (.tup []),setb L k (.map (encS (ZP S [x]))),H⟩):Zem cx o (.func 40) args ts ⟨tm,L,H⟩ K:=by
 obtain⟨P,T,φ,n,N⟩:=cx;dsimp only at hP ha h;subst hP;refine⟨40,_,_,[],.tup [],setb L k (.map (encS (ZP S [x]))),H,rfl,Zf func40 rfl rfl,?_,.refl _ _,h⟩;rw[Qs,ha,Zr];exact Zi.args (j40 (n+1) _ n k (Qr n) S [x] sm (by simp only[full,if_true];exact hk)) ⟨.refl _,.any _ _ _,trivial⟩
def o10a:Opt:=⟨true,true,fun d=>if d=48 then .heap else if d=49∨d=70 then .call else .auto,[]⟩
variable {p:Nat→Prop}
def Zsu{j:Nat}(h:p j):Inside n p (.iptr [.map n j]):=.iptr _ fun i hi=>Yg.mem (l:=[.map n j]) (p:=fun c=>Inside n p c) ⟨.map _ _ (.inr ⟨rfl,h⟩),trivial⟩ _ (Qa hi)
def Zfv(n ls bs:Nat)(now:List Bnd)(m:Nat):Ze:=.box [.map n 51,.ptr ls bs 0,.sl 1 (now.map Zj) .any,.msl 1 n 200 m]
def Zm9(n ls bs:Nat)(l:List Lt)(b:Bnd)(K1:List Str)(H:Za):Zb:=
 ⟨[(13,.ptr n 56 0),(10,.iptr [.map n 39]),(0,.sl 13 (l.map Lt.enc) .any),(2,.sl 5 (b.map eBd) .any)],[(39,.map (encS K1)),(51,.map []),(200,.Zg 84 1 [] 0),(56,Zfv n ls bs [b] 0)],H⟩
def Zuo(n ls bs:Nat)(l:List Lt)(b:Bnd)(K1:List Str)(H:Za)(i:Nat):Zb:=
 ⟨[(59,.int .i64 i),(58,.int .i64 b.length),(57,.sl 5 (b.map eBd) .any),(13,.ptr n 56 0),(10,.iptr [.map n 39]),(0,.sl 13 (l.map Lt.enc) .any)],
  [(39,.map (encS (ZP K1 (Zp (b.take i))))),(51,.map (encS (ZP [] (Zp (b.take i))))),(200,.Zg 84 1 [] 0),(56,Zfv n ls bs [b] 0)],H⟩
def Zq4{j:Nat}(h:p j):Inside n p (.ptr n j 0):=.ptr _ _ _ (.inr ⟨rfl,h⟩)
def ZuF{ls bs:Nat}(hls:ls<n)(h:p 51)(h2:p 200)(now:List Bnd)(m:Nat):Yg (fun c=>Inside n p c) [.map n 51,.ptr ls bs 0,.sl 1 (now.map Zj) .any,.msl 1 n 200 m]:=
 ⟨Zeu h,.ptr _ _ _ (.inl hls),(ZF now).inside,.msl _ _ _ _ (.inr ⟨rfl,h2⟩),trivial⟩
def Q10(n:Nat)(s:Sto)(l:List Lt)(b:Bnd)(H:Za):AV→Za→Prop:=fun r' H'=>r'= .tup [.sl 1 ((YL s.A l b).1.map Zj) .any,eInt (YL s.A l b).2]∧H'=H
def Znf(n ls bs:Nat)(l:List Lt)(b:Bnd)(K2 S0:List Str)(H:Za):Zb:=
 ⟨[(16,.sl 1 [] .full),(13,.ptr n 56 0),(10,.iptr [.map n 39]),(0,.sl 13 (l.map Lt.enc) .any)],[(39,.map (encS K2)),(51,.map (encS S0)),(200,.Zg 84 1 [] 0),(56,Zfv n ls bs [b] 0)],H⟩
def Zog(A:List Am)(p:List Stp)(now:List Bnd):Zcz A p now 0=now:=by cases p<;>rfl
def ZmJ(n ls bs:Nat)(K2 S1:List Str)(D:List (Stp×Lt))(now:List Bnd)(H:Za):Zb:=
 ⟨[(13,.ptr n 56 0),(10,.iptr [.map n 39])],[(39,.map (encS K2)),(51,.map (encS S1)),(200,.Zg 84 1 (D.map (fnV n 56)) D.length),(56,Zfv n ls bs now D.length)],H⟩
def Zs5(l bx:Nat)(q:Stp×Lt):fnV l bx q= .fn (.func (fnF q)) (fnC l bx q):=by
 obtain⟨s,x⟩:=q;cases s<;>rfl
def ZsM(h:p 56)(q:Stp×Lt):Inside n p (fnV n 56 q):=by
 have hp:Inside n p (.iptr [.ptr n 56 0]):=.iptr _ fun i hi=>Yg.mem (l:=[.ptr n 56 0]) (p:=fun c=>Inside n p c) ⟨Zq4 h,trivial⟩ _ (Qa hi)
 have key:∀f cs,Yg (fun c=>Inside n p c) cs→Inside n p (.fn f cs):=fun f cs h=>Inside.fn _ _ fun i hi=>h.mem _ (Qa hi)
 obtain⟨s,x⟩:=q;cases s with
 |test y=>exact key _ _ ⟨hp,(Zq y.bcs).inside,trivial⟩
 |bind s t=>exact key _ _ ⟨hp,(Zq (cs:=[.str s]) ⟨.str _,trivial⟩).inside,(Zq t.bcs).inside,trivial⟩
 |atom a=>exact key _ _ ⟨hp,(Zq x.bcs).inside,trivial⟩
def ZmN(h:p 56)(D:List (Stp×Lt)):Yg (fun c=>Inside n p c) (D.map (fnV n 56)):=Yb fun c hc=>by
 obtain⟨q,_,rfl⟩:=Qi.1 hc;exact ZsM h q
def Zum(n ls bs:Nat)(K2 S1:List Str)(D:List (Stp×Lt))(now:List Bnd)(H:Za)(i:Nat):Zb:=
 ⟨[(98,.int .i64 i),(97,.int .i64 D.length),(96,.msl 1 n 200 D.length),(13,.ptr n 56 0),(10,.iptr [.map n 39])],[(39,.map (encS K2)),(51,.map (encS S1)),(200,.Zg 84 1 (D.map (fnV n 56)) D.length),(56,Zfv n ls bs now D.length)],H⟩
def Zvv(hE:ExpOK)(n:Nat)(H:Za)(hT:Tabs H)(hn:0<n)(ls bs:Nat)(hls:ls<n)(s:Sto)(hs:ZV H ls bs s)(hok:Ok s)(l:List Lt)(b:Bnd)(hb:b.length≤1000)(F:List Lt)(hF:ZeI l b F)(hvb:validB b=true)
  (K2 S1 S0:List Str) (hK2:∀x,x∈K2↔x∈Z5 l b) (hS0:∀x,x∈S0↔x∈Zp b) (D:List (Stp×Lt)) (X:List Str×List Lt) (hP:plG F.length S0 F=(D,X)) (ho:∀x∈l,okX x) (hpl:Ja (Zp b) (XZ l (Z5 l b))=some (D.map Prod.fst))
  (hj:YL s.A l b=if(Vt s.A (D.map Prod.fst) [b]).2=0 then(XT YU ((Vt s.A (D.map Prod.fst) [b]).1.map (Jd (Z5 l b))),0)else([],(Vt s.A (D.map Prod.fst) [b]).2)) (B:Base):
  AKc ⟨prog,tt,⟨none,B⟩,n,Tryz.f10.ntmps⟩ [.code (ZW Tryz.f10).snd.snd.snd.snd.snd.snd.snd.snd.snd.snd] (PostF prog tt n Tryz.f10.results.toList (Q10 n s l b H)) (ZmJ n ls bs K2 S1 D [b] H):=by
 obtain⟨r0,hD,hDl,hDv⟩:=Zoh (A:=s.A) hF hvb hS0 hP;have hFl:=hF.len;unfold ZmJ;refine nr ?_;simp only[go_sem,simprocAttr,Zfv];repeat refine kn rfl ?_
 refine ZL (fun i=>Zum n ls bs K2 S1 D (Zcz s.A (D.map Prod.fst) [b] i) H i) (fun i=>ZjQ s.A (D.map Prod.fst) (Zp b) [b] i) D.length rfl ?_ r0 ?_
 ·rw[Zog];exact KK
 intro i hi hr;refine ZQ rfl ?_;rcases Qe i D.length with h|h
 ·have hil:i<(D.map Prod.fst).length:=by simpa using h
  have huse:=hr.use hF hb hDv hil;have hnl:=hr.len;have hns:=ZeQ s.A (D.map Prod.fst) [b] i hil;have hstep:=hr.step (fun a ha=>hok.v a ha) hil;rw[QN]at huse hns hstep;obtain⟨q,hq⟩:∃q,q=D[i]:=⟨_,rfl⟩
  rw[←hq]at huse hns hstep;obtain⟨hqF,hqM⟩:=hD q (hq▸Qa h);have h1:((D.map (fnV n 56)).drop (i*1)).getD 0 .dead=fnV n 56 q:=by rw[Qas,hq];simp[h]
  have h2:i*1+1≤(D.map (fnV n 56)).length:=by simp;omega
  have hre:=hr.eq;rw[Qu hil,QN,←hq,Vt]at hre;generalize hN:Zcz s.A (D.map Prod.fst) [b] i=now at*;refine nq h ?_;refine nT ?_;refine nq2 h h1 ?_;refine⟨⟨om,om,om⟩,?_⟩;refine nR ?_;obtain⟨fn,cd,hfun⟩:=Zse q;refine YT (caps:=fnC n 56 q) (avs:=[]) (Zs5 n 56 q) hfun (Zvf hE (n+1) _ (hT.full hn) om n 56 ls bs (Qr n) hls (.map n 51) (.msl 1 n 200 D.length) now om (by simp[full,lkb,Zfv,prB]) ⟨.map _ _ om,.msl _ _ _ _ om⟩ s (hs.full hls _) hok q hqM (hF.sm _ hqF) (hF.op _ hqF) huse) rfl ?_;rintro r H1 ⟨rfl,rfl⟩;refine⟨_,H,(Zr n _ H 56 _).symm,.refl _ _,?_⟩;refine aS ?_;cases he:((Go.Abs.Xo (stepS s.A q.1) now).2 !=0)with
  |true=>
   have he':¬(Go.Abs.Xo (stepS s.A q.1) now).2=0:=by simpa using he
   rw[if_neg he']at hre;refine nq he ?_;refine gn ?_;unfold Q10;rw[hj,hre,if_neg he'];exact ZG (.any _ _ _) (.refl _) (ZF []) (.int _ _) rfl
  |false=>
   have he':(Go.Abs.Xo (stepS s.A q.1) now).2=0:=by simpa using he
   refine nq he ?_;refine gm ?_;refine⟨hstep he',?_⟩;rw[hns];exact KK
 ·have hi':i=D.length:=om;subst hi';have hre:=hr.eq;rw[QT sm,Vt]at hre;have hok2:=hr.ok;have hnl:=hr.len;have hln:=ZnG hF hb hDv hr;generalize Zcz s.A (D.map Prod.fst) [b] D.length=out at*;rw[hre,if_pos rfl]at hj;have hsame:∀c∈out,XU (Z5 l b) (Jd (Z5 l b) c):=fun c hc=>Zqr ho hpl (hok2 c hc).1 fun n=>by
   have:=(hok2 c hc).2 n
   rwa [Q9 sm]at this
  have hSD:∀c∈out.map (Jd (Z5 l b)),SD (Z5 l b) c:=fun c hc=>by
   obtain⟨x,hx,rfl⟩:=Qi.1 hc;exact⟨hsame x hx,Ue (UH _ _) (by have:=hln x hx;omega)⟩
  refine nr ?_;simp only[go_sem,simprocAttr,QD.2 h];refine gg ?_;refine nr ?_;simp only[go_sem,simprocAttr,Zfv];refine YT (caps:=[]) (avs:=[.sl 1 (out.map Zj) .any,.fn (.func 44) [.iptr [.map n 39]]]) rfl (Zf func43 rfl rfl) (k43 (n+1) _ out om 44 [.iptr [.map n 39]] (Jd (Z5 l b)) ⟨⟨_,_,Zf func44 rfl rfl⟩,fun x hx m G hm hG=>?_,fun m hm=>⟨Zq (cs:=[.map n 39]) ⟨.map _ _ om,trivial⟩,trivial⟩⟩ n 202 (Qr n) (by simp[full,lkb])) sS ?_
  ·rw[←ZlP hK2];exact k44 m G (hT.up fun k=>by rw[hG 0 k om,Zk hn]) om n 39 om K2 (by rw[hG _ _ om];simp[full,lkb]) x (by have:=hln x hx;omega) fun q hq=>Xi ((hok2 x hx).1.val q hq)
  rintro r H1 ⟨rfl,rfl⟩;refine⟨_,H,(Zr n _ H 202 _).symm,.refl _ _,?_⟩;obtain⟨rs,hrs⟩:∃rs,rs=out.map (Jd (Z5 l b)):=⟨_,rfl⟩
  have hrl:out.length=rs.length:=by rw[hrs,Qw]
  rw[←hrs,hrl];rw[←hrs]at hSD hj;refine gP ?_;refine YT (caps:=[]) (avs:=[.msl 1 n 202 rs.length,.fn (.func 51) []]) rfl (Zf func50 rfl rfl) (k50 (n+1) _ n 202 (Z5 l b) rs hSD om (by simp[full,lkb,flat_bnds])) sS ?_;rintro r H1 ⟨rfl,ys,hp,ha,rfl⟩;refine⟨_,H,(Zr n _ H 202 _).symm,.refl _ _,?_⟩;have hyl:rs.length=ys.length:=hp.length_eq.symm;have hyg:∀c∈ys,SD (Z5 l b) c:=fun c hc=>hSD c (hp.mem_iff.1 hc)
  have hkp:kpt YU ys ys.length=XT YU rs:=Znt (ZtY _) hSD hp ha;refine aq hyl ?_;refine nR ?_;refine YT (caps:=[]) (avs:=[.msl 1 n 202 ys.length,.fn (.func 53) []]) rfl (Zf func52 rfl rfl) (k52 (n+1) _ n 202 (Qr n) ys om (fun c hc=>⟨(hyg c hc).2,fun q hq=>Xi ((hyg c hc).1.1.val q hq)⟩) (by simp[full,lkb])) sS ?_;rintro r H1 hq;unfold ZuT at hq;rw[hkp]at hq;have hin:∀q:List Bnd,∀c∈flat (q.map Zj),Inside n (fun k=>k≠202) c:=fun q c hc=>((ZhR (n:=n) (m:=0) q).1 c hc).inside
  have hLi:∀p∈[(39,Ze.map (encS K2)),(51,.map (encS S1)),(200,.Zg 84 1 (D.map (fnV n 56)) D.length),(56,.box [.map n 51,.ptr ls bs 0,.sl 1 (out.map Zj) .any,.msl 1 n 200 D.length])],p.2.Inside n (fun k=>k≠202):=fun p hp=>by
   simp only[Ql,QA,or_false]at hp;rcases hp with rfl|rfl|rfl|rfl
   ·exact⟨fun c hc=>((WX (n:=n) K2).1 c hc).inside,by simp[Ze.at_]⟩
   ·exact⟨fun c hc=>((WX (n:=n) S1).1 c hc).inside,by simp[Ze.at_]⟩
   ·exact⟨fun c hc=>(ZmN (p:=fun k=>k≠202) dc D).mem c hc,by simp[Ze.at_]⟩
   ·exact Ze.Zy (ZuF hls dc dc out D.length)
  rcases hq with⟨rfl,rfl,e⟩|⟨rfl,hpos,hle,rfl⟩
  ·rw[e]at hkp;refine⟨_,H,rfl,.refl _ _,?_⟩;refine aS ?_;refine ZO (Xq (tm':=[(6,.sl 1 (ys.map Zj) .any),(7,.int .i64 0)]) (j:=202) (ys.map Zj) rfl rfl sm (Zm0 ys) (hin ys) (fun p hp=>?_) hLi) ?_
   ·simp only[Ql,QA,or_false]at hp;rcases hp with rfl|rfl
    ·exact .inr ⟨1,rfl,rfl⟩
    ·exact .inl ⟨.refl _,.int _ _⟩
   refine nV ?_;unfold Q10;rw[hj,e];exact ZG (.refl _) (.refl _) (ZF _) (.int _ _) rfl
  ·refine⟨_,H,(Zr n _ H 202 _).symm,.refl _ _,?_⟩;refine aS ?_;generalize XT YU rs=U at*;refine ZO (JG (tm':=[(6,.sl 1 (U.map Zj) .any),(7,.int .i64 0)]) (j:=202) (U.map Zj++List.replicate (ys.length - U.length) zBn) rfl rfl (by simp;omega) (fun x hx=>?_) (fun c hc=>?_) (fun p hp=>?_) hLi) ?_
   ·rcases Qk.1 hx with hx|hx
    ·exact Zm0 U x hx
    ·rw[(Uk.1 hx).2];rfl
   ·obtain⟨z,hz,hc⟩:=Qx.1 hc;rcases Qk.1 hz with hz|hz
    ·obtain⟨y,_,rfl⟩:=Qi.1 hz;exact(Below.cells (Zw n y) c hc).inside
    ·rw[(Uk.1 hz).2]at hc;simp only[zBn,AV.cells,Qm]at hc;subst hc;exact inZ
   ·simp only[Ql,QA,or_false]at hp;rcases hp with rfl|rfl
    ·exact .inr (.inr ⟨0,U.length,rfl,by rw[Qab,Gv sm]⟩)
    ·exact .inl ⟨.refl _,.int _ _⟩
   refine nV ?_;unfold Q10;rw[hj];exact ZG (.refl _) (.refl _) (ZF _) (.int _ _) rfl
def Zk1(K:List Str)(i:Nat):Str:=K.getD i []
def ZlC(K:List Str):(List.range K.length).map (Zk1 K)=K:=by
 apply Gh
 ·simp
 ·intro i h1 h2;simp[Zk1,h2]
def Zpd(n ls bs:Nat)(l:List Lt)(b:Bnd)(K2 S0:List Str)(H:Za)(seen:List Nat):Zb:=
 ⟨[(78,.ptr n 78 0),(16,.sl 1 ((seen.map (Zk1 K2)).map .str) (.buf n 201)),(13,.ptr n 56 0),(10,.iptr [.map n 39]),(0,.sl 13 (l.map Lt.enc) .any)],
  [(78,.iter n 39 K2.length seen),(201,.buf 9 1 seen.length),(39,.map (encS K2)),(51,.map (encS S0)),(200,.Zg 84 1 [] 0),(56,Zfv n ls bs [b] 0)],H⟩
def Zvs(hE:ExpOK)(n:Nat)(H:Za)(hT:Tabs H)(hn:0<n)(ls bs:Nat)(hls:ls<n)(s:Sto)(hs:ZV H ls bs s)(hok:Ok s)(l:List Lt)(hl:l.length≤10)(hsm:∀x∈l,Sm x)(hop:∀x∈l,0≤x.op∧x.op≤255)(b:Bnd)(hb:b.length≤1000)(hv:l.all Yt=true)(hvb:validB b=true)
  (K2 S0:List Str) (hK:K2.Nodup) (hK2:∀x,x∈K2↔x∈Z5 l b) (hS0:∀x,x∈S0↔x∈Zp b) (B:Base):
  AKc ⟨prog,tt,⟨none,B⟩,n,Tryz.f10.ntmps⟩ [.code (ZW Tryz.f10).snd.snd.snd.snd.snd.snd.snd.snd] (PostF prog tt n Tryz.f10.results.toList (Q10 n s l b H)) (Znf n ls bs l b K2 S0 H):=by
 unfold Znf;have hKl:K2.length≤7100:=Ue (Xd hK fun x hx=>(hK2 x).1 hx) (Zha hl hsm hb);have hel:(encS K2).length=K2.length:=by simp[encS,Za5]
 have hgd:∀j (h:j<K2.length),(encS K2).getD j (.dead,.dead)=(.str K2[j],.agg []):=fun j h=>by
  rw[Qn];simp[encS,Za5,h]
 have hso:∀(q:Nat→Prop) (r:List Str),q 201→Inside n q (.sl 1 (r.map .str) (.buf n 201)):=fun q r h=>Abs.Yj (mB fun u=>.str _) h
 have hit:∀(q:Nat→Prop) (m:Nat) (z:List Nat),q 39→Ze.Inside n q (.iter n 39 m z):=fun q m z h=>⟨by simp[Ze.avs],fun q' hq=>by simp only[Ze.at_,Qm]at hq;subst hq;exact .inr ⟨rfl,h⟩⟩
 refine gh ?_;refine Xn 16 201 9 1 rfl rfl ?_;refine Zar (fun m st=>∃seen:List Nat,seen.Nodup∧(∀i∈seen,i<K2.length)∧m=K2.length - seen.length∧st=Zpd n ls bs l b K2 S0 H seen) (m0:=K2.length) (s0:=Zpd n ls bs l b K2 S0 H []) rfl ?_ ⟨[],sm,sm,sm,rfl⟩ ?_
 ·rw[hel];exact KK
 rintro m st ⟨seen,hnd,hlt,rfl,rfl⟩;refine ZQ rfl ?_;have hlen:seen.length≤K2.length:=by
  have:=Xd hnd (q:=List.range K2.length) (fun i hi=>by simpa using hlt i hi);simpa using this
 refine nR ?_;refine⟨78,n,39,encS K2,seen,rfl,by simp only[go_sem,simprocAttr,hel],sS,fun hall=>?_,fun i hi hni=>?_⟩
 ·refine aS ?_;refine gg ?_;have hp:(seen.map (Zk1 K2)).Perm K2:=by
   conv=>rhs;rw[←ZlC K2]
   refine List.Perm.map _ ((Qa7 hnd Qac).2 fun i=>?_);rw[U9];exact⟨hlt i,fun h=>hall i om⟩
  have hll:seen.length=(seen.map (Zk1 K2)).length:=sm;rw[hll];generalize seen.map (Zk1 K2)=ks at*;have hks:∀k,k∈ks↔k∈Z5 l b:=fun k=>by rw[hp.mem_iff,hK2]
  have hkl:ks.length≤7100:=by rw[hp.length_eq];exact hKl
  have hfl:XZ l ks=XZ l (Z5 l b):=Zel (fun x=>by rw[Qk,Qk,hks]) l 0;have hj26:=j26 l hl hsm ks om;rw[hfl]at hj26;obtain⟨F,hF⟩:∃F,F=XZ l (Z5 l b):=⟨_,rfl⟩
  rw[←hF]at hj26;refine nR ?_;refine cQ (Zi.args (hj26 (n+1) _ om (hT.full hn)) (args':=[.sl 13 (l.map Lt.enc) .any,.sl 1 (ks.map .str) (.buf n 201)]) ⟨.refl _,.any _ _ _,trivial⟩) ?_;refine aS ?_;have hFO:ZeI l b F:=hF▸Zrj hl hsm hop hb hv;have hFl:=hFO.len;refine YT (caps:=[]) (avs:=[.ptr n 56 0,.sl 13 (F.map Lt.enc) .any]) rfl (Zf func42 rfl rfl) (k42 (n+1) _ (hT.full hn) n 56 51 200 hn (Qr n) dc (.ptr ls bs 0) (.sl 1 ([b].map Zj) .any) S0 F hFO.sm om ⟨.ptr _ _ _ om,ZF _⟩ (by simp[full,lkb,Zfv]) (by simp[full,lkb]) (by simp[full,lkb])) sS ?_;rintro r H1 ⟨rfl,rfl⟩;generalize hP:plG F.length S0 F=P;obtain⟨D,S1,R⟩:=P;refine⟨[(78,.iter n 39 K2.length seen),(201,.buf 9 1 ks.length),(39,.map (encS K2)),(51,.map (encS S1)),(200,.Zg 84 1 (D.map (fnV n 56)) D.length),(56,Zfv n ls bs [b] D.length)],H,?_,.refl _ _,?_⟩
  ·unfold plH;rw[←Zr,←Zr,←Zr];rfl
  refine aS ?_;cases hbd:R.all (X7 S1)with
  |false=>
   refine aS ?_;refine gj ?_;have hj:YL s.A l b=([],120):=by rw[Zh3 hv hvb hS0 (hF▸hP),hbd];rfl
   unfold Q10;rw[hj];exact ZG (.any _ _ _) (.refl _) (ZF []) (.int _ _) rfl
  |true=>
   refine aS ?_;refine nF ?_;refine ZaV rfl ?_;have hj:=Zh3 (A:=s.A) hv hvb hS0 (hF▸hP);rw[hbd,if_pos rfl]at hj;have hD:∀c∈D.map (fnV n 56),Below (n+1) c:=fun c hc=>by obtain⟨q,_,rfl⟩:=Qi.1 hc;exact Zct n 56 (Qr n) q
   refine ZO (s':=ZmJ n ls bs K2 S1 D [b] H) ?_ ?_
   ·unfold ZmJ;exact KK
   exact Zvv hE n H hT hn ls bs hls s hs hok l b hb F hFO hvb K2 S1 S0 hK2 hS0 D (S1,R) hP (fun x hx=>(Zcg (Qy.1 hv x hx)).1) (Zop hS0 (hF▸hP) hbd) hj B
 ·have hi':i<K2.length:=om;have hgi:=hgd i hi';refine aq hgi ?_;refine nT ?_;obtain⟨h0,t0,het⟩:∃h0 t0,seen++[i]=h0::t0:=by
   cases seen with
   |nil=>exact⟨i,[],rfl⟩
   |cons x y=>exact⟨x,y++[i],rfl⟩
  have hgl:∀p,(h0::t0).getLast p=i:=fun p=>by
   have:∀(l:List Nat) (q:l≠[]),l=seen++[i]→l.getLast q=i:=fun l q e=>by subst e;simp
   exact this _ p het.symm
  rw[het];refine nq3 hel hgl hgi ?_;refine⟨hi',?_⟩;refine nR ?_;refine⟨by first|exact⟨rfl,dc⟩|exact rfl,⟨Zl (by have:=hKl;omega),by have:=hKl;omega⟩,?_⟩;rw[←het];refine nN ?_;have hnd':(seen++[i]).Nodup:=GK.2 ⟨hnd,sm,fun x hx y hy e=>by
   simp only[Qm]at hy;subst hy;subst e;exact hni hx⟩
  have hlt':∀x∈seen++[i],x<K2.length:=fun x hx=>by
   rcases Qk.1 hx with hx|hx
   ·exact hlt x hx
   ·simp only[Qm]at hx;subst hx;exact hi'
  have hl1:(seen++[i]).length=seen.length+1:=sm;have hle':=Xd hnd' (q:=List.range K2.length) (fun x hx=>by simpa using hlt' x hx);simp only[Qh,Qq,QB,Gp,QK]at hle';have hka:Zk1 K2 i=K2[i]:=by simp[Zk1,hi']
  refine⟨K2.length - (seen++[i]).length,Zpd n ls bs l b K2 S0 H (seen++[i]),by simp only[Qh,Qq,QB];omega,?_,seen++[i],hnd',hlt',rfl,rfl⟩;apply kZ;repeat' first|apply q0|exact xx|apply aI
  all_goals first|exact(Yf l).inside|exact(Zw n _).inside|exact Zsu rfl|exact Zq4 rfl|exact Zjz _|exact Zeu rfl|exact Inside.ptr _ _ _ (.inl hls)|exact(ZF _).inside|exact .msl _ _ _ _ (.inr ⟨rfl,rfl⟩)|exact hso _ (List.map _ _) rfl|(intro a ha;simp[Ze.avs]at ha;done)|(intro q hq;simp only[Ze.at_,Qm]at hq;subst hq;exact .inr ⟨rfl,rfl⟩)|(simp only[go_sem,simprocAttr,QC,hka];exact .refl _)|(simp only[go_sem,simprocAttr,hl1];done)
def ZwH(hE:ExpOK)(n:Nat)(H:Za)(hT:Tabs H)(hn:0<n)(ls bs:Nat)(hls:ls<n)(s:Sto)(hs:ZV H ls bs s)(hok:Ok s)(l:List Lt)(hl:l.length≤10)(hsm:∀x∈l,Sm x)(hop:∀x∈l,0≤x.op∧x.op≤255)(b:Bnd)(hb:b.length≤1000)(hv:l.all Yt=true)(hvb:validB b=true)(K1:List Str)(hK1:K1=ZP [] (l.flatMap ZA))(B:Base):
  AKc ⟨prog,tt,⟨none,B⟩,n,Tryz.f10.ntmps⟩ [.code (ZW Tryz.f10).snd.snd.snd.snd.snd.snd] (PostF prog tt n Tryz.f10.results.toList (Q10 n s l b H)) (Zm9 n ls bs l b K1 H):=by
 unfold Zm9;refine gh ?_;refine Zm (Zuo n ls bs l b K1 H) b.length rfl ?_ ?_
 ·exact KK
 intro i hi;refine ZQ rfl ?_;rcases Qe i b.length with h|h
 ·have hstep:∀S,ZP (ZP S (Zp (b.take i))) [b[i].1]=ZP S (Zp (b.take (i+1))):=fun S=>by
   rw[Qj h];unfold Zp;rw[QC,Jo];rfl
  refine nr ?_;refine aq h ?_;refine nT ?_;refine nq2 (getD_map eBd _ _ h) h ?_;refine nD o10a ?_;simp only[go_sem,simprocAttr,o10a,Zfv];refine⟨rfl,?_⟩;refine ZqC rfl (k:=51) (x:=b[i].1) (S:=ZP [] (Zp (b.take i))) rfl sS ?_;rw[hstep];simp only[go_sem,simprocAttr];refine nR ?_;refine⟨rfl,?_⟩;refine YT (caps:=[]) (avs:=[.map n 39,.sl 1 [.str b[i].1] .full]) rfl (Zf func40 rfl rfl) (Zi.args (j40 (n+1) _ n 39 (Qr n) (ZP K1 (Zp (b.take i))) [b[i].1] sm (by simp only[full,if_true];rfl)) ⟨.refl _,.any _ _ _,trivial⟩) sS ?_;rintro r H1 ⟨rfl,rfl⟩;have hs39:=hstep K1;refine⟨_,H,(Zr n _ H 39 _).symm,.refl _ _,?_⟩;rw[hs39];simp only[go_sem,simprocAttr];refine gd ?_;exact KK
 ·have hi':i=b.length:=om;subst hi';rw[QI];refine nq (QD.2 h) ?_;refine gG ?_;refine ZO (s':=Znf n ls bs l b (ZP K1 (Zp b)) (ZP [] (Zp b)) H) ?_ ?_
  ·unfold Znf;exact KK
  exact Zvs hE n H hT hn ls bs hls s hs hok l hl hsm hop b hb hv hvb (ZP K1 (Zp b)) (ZP [] (Zp b)) (addsN_nodup (hK1▸addsN_nodup .nil)) (fun x=>by rw[VG,hK1,VG];simp[Z5]) (fun x=>by rw[VG];simp) B
end
noncomputable abbrev c200:Code:=(ZW Tryz.f200).snd.snd.snd.snd.fst.snd
def JE(ls:List (List Int))(n:Nat):List (Nat×AV):=[(28,.fn (.func 257) [.iptr [.sl 1 (ls.map eIs) .any]]),(8,.ptr n 8 0),(2,.ptr n 2 0)]
def Zf8(op:Str)(n:Nat)(S:List Int):List (Nat×Ze):=[(26,.map (encI S)),(8,.box [.map n 26]),(2,.box [.str op])]
noncomputable def Zbs(op:Str)(ls:List (List Int))(n l:Nat)(σ:List Int×Bool):List (Nat×Ze):=setb (Zf8 op n σ.1) 100 (.lrec l Tryz.f200.ntmps 201 (JE ls n) #[29] c200.fst.fst c200.fst.snd (if σ.2 then .busy else .ready) none)
noncomputable def Zb1(op:Str)(ls:List (List Int))(n l:Nat)(H:Za)(σ:List Int×Bool):Za:=full n (Zbs op ls n l σ) H
def J5(op:Str)(σ:List Int×Bool)(row:List Int):Option (List Int×Bool):=(Zab op σ.1 row).map fun S=>(S,false)
theorem ZdE(op:Str):∀(l:List (List Int)) (S:List Int),l.foldlM (J5 op) (S,false)=(l.foldlM (Zab op) S).map fun T=>(T,false)
 |[],S=>rfl
 |r::l,S=>by
  rw[MQ,MQ];unfold J5;cases h:Zab op S r with
  |none=>rfl
  |some T=>exact ZdE op l T
section
variable {H:Za} {n l:Nat} {ls:List (List Int)}
def Zfe{op:Str}(o o':List Int×Bool):low (n+1) (Zb1 op ls n l H o') (Zb1 op ls n l H o)=Zb1 op ls n l H o':=by
 funext a b;by_cases h:a<n+1
 ·rw[Zc0 h]
 ·rw[J6 h];unfold Zb1 full;rw[if_neg om,if_neg om]
def Zib{k:Nat}(l:List (List Int)):Below n (.sl k (l.map eIs) .any):=ZB fun x hx=>by obtain⟨u,_,rfl⟩:=Qi.1 hx;exact Zaj n u
def Zrm{op:Str}{G:Za}{S T:List Int}{b:Bool}(hA:∀a j,a<n+1→G a j=Zb1 op ls n l H (S,false) a j):
  (((G.upd n 100 (.lrec l Tryz.f200.ntmps 201 (JE ls n) #[29] c200.fst.fst c200.fst.snd .busy none)).upd n 26 (.map (encI T))).upd n 100 (.lrec l Tryz.f200.ntmps 201 (JE ls n) #[29] c200.fst.fst c200.fst.snd (if b then .busy else .ready) none))=low (n+1) (Zb1 op ls n l H (T,b)) G:=by
 funext a j;by_cases h:a<n+1
 ·rw[Zc0 h];have h1:=hA a j h;unfold Za.upd;by_cases e:a=n
  ·subst e;by_cases e1:j=100
   ·subst e1;simp[Zb1,full,Zbs,Zf8,setb,lkb]
   ·by_cases e2:j=26
    ·subst e2;simp[Zb1,full,Zbs,Zf8,setb,lkb]
    ·simp only[e1,e2,and_false,if_false];rw[h1];simp[Zb1,full,Zbs,Zf8,setb,lkb,Ne.symm e1,Ne.symm e2]
  ·simp only[e,false_and,if_false];rw[h1];simp[Zb1,full,e]
 ·rw[J6 h];unfold Za.upd;simp only[show¬a=n from fun c=>h om,false_and,if_false]
def Yd{k:Nat}{b:Ze}(h:H l k=some b):H.upd l k b=H:=by
 funext x y;unfold Za.upd;split
 ·rename_i e;rw[e.1,e.2,h]
 ·rfl
def ZsY{cx:Cx}{dr:Bool}{o:Oper}{args:List Operand}{ts:List TypeId}{s:Zb}{F:Zb→Prop}{f:FuncId}{fn:Func}{c:Code}{r:AV}{avs:List AV}(hf:Fun cx.P f fn c)
  (h:PC cx.P (cx.n+1) f avs (full cx.n s.L s.H) r) (ha:Yn cx.T (evT s.tmps) args ts=avs) (hF:F ⟨Yk s.tmps o.dst r,s.L,s.H⟩):WO cx dr o (.func f) args ts s F:=
 Zlq hf rfl (by rw[Qs,ha];exact h) hF
def o200:Opt:=⟨false,false,fun d=>if d=41 then .heap else .auto,[]⟩
def Zob(l:List Int):∀c∈flat (l.map eInt),c.sc=true:=fun c hc=>by
 obtain⟨x,hx,hc⟩:=Qx.1 hc;obtain⟨y,_,rfl⟩:=Qi.1 hx;simp only[eInt,AV.cells,Qm]at hc;subst hc;rfl
def Zta(op:Str)(ls:List (List Int))(N:Nat)(hN:ls.length=N+1)(hl:N+1≤1000)(n l:Nat)(H:Za):ZoQ (n+1) l ls.length 3 1 eInt (Zb1 op ls n l H) (J5 op) (fun σ _=>σ.2=false∧σ.1.length≤1000):=by
 have hbt:Yg (fun p=>Below (n+1) p.2) (JE ls n):=⟨ZaP ⟨ZN (Zib _),trivial⟩,.ptr _ _ _ (Qr n),.ptr _ _ _ (Qr n),trivial⟩
 refine⟨fun m G σ row hok hm hrl hA h7=>?_,fun σ σ' a b x ha hx=>?_,fun x=>⟨rfl,fun m c hc=>by simp only[eInt,AV.cells,Qm]at hc;subst hc;exact .int _ _⟩⟩
 ·obtain⟨S,b⟩:=σ;obtain⟨hb,hS⟩:=hok;simp only at hb hS;subst hb;have h100:G n 100=some (.lrec l Tryz.f200.ntmps 201 (JE ls n) #[29] c200.fst.fst c200.fst.snd .ready none):=(hA n 100 (Qr n)).trans (by simp[Zb1,full,Zbs,Zf8,setb,lkb]);have h26:G n 26=some (.map (encI S)):=(hA n 26 (Qr n)).trans (by simp[Zb1,full,Zbs,Zf8,setb,lkb]);have h8:G n 8=some (.box [.map n 26]):=(hA n 8 (Qr n)).trans (by simp[Zb1,full,Zbs,Zf8,setb,lkb]);have h2:G n 2=some (.box [.str op]):=(hA n 2 (Qr n)).trans (by simp[Zb1,full,Zbs,Zf8,setb,lkb]);refine Zgs tt (x:=n) (y:=100) (Zf func200 rfl rfl).get h100 om rfl dc fun B'=>?_
  show AKc _ _ _ ⟨(29,.msl 1 (n+1) 7 ls.length)::JE ls n,[],G⟩;unfold JE;refine gd ?_;refine⟨rfl,h100,?_⟩;refine aS ?_;obtain⟨G1,hG1⟩:∃G1,G1=G.upd n 100 (.lrec l Tryz.f200.ntmps 201 (JE ls n) #[29] c200.fst.fst c200.fst.snd .busy none):=⟨_,rfl⟩
  have h26':G1 n 26=some (.map (encI S)):=by rw[hG1,Za.upd_ne _ _ sm];exact h26
  have h8':G1 n 8=some (.box [.map n 26]):=by rw[hG1,Za.upd_ne _ _ sm];exact h8
  have h2':G1 n 2=some (.box [.str op]):=by rw[hG1,Za.upd_ne _ _ sm];exact h2
  have h7':G1 (n+1) 7=some (.Zg 3 1 (flat (row.map eInt)) ls.length):=by rw[hG1,Za.upd_ne _ _ sm];exact h7
  have hnm:¬n=m:=om;have hnm1:¬n+1=m:=om;change AKc _ _ _ ⟨_,[],G.upd n 100 (.lrec l Tryz.f200.ntmps 201 (JE ls n) #[29] c200.fst.fst c200.fst.snd .busy none)⟩;rw[←hG1];refine nq2 h2' hnm ?_;refine ZsY (Zf func235 rfl rfl) (Zov (pre:=[.str op]) (Zwi op row om) ((Zk hm _ _ _).trans h7') om (by simp[hrl]) (Zl om) (fun x hx=>by obtain⟨y,_,rfl⟩:=Qi.1 hx;rfl) (Zob row) (by simp[AV.sc]) (by simp[AV.sc])) sS ?_;refine aS ?_;have hlow:=fun T b=>Zrm (T:=T) (b:=b) hA
  rw[←hG1]at hlow;have h100':G1 n 100=some (.lrec l Tryz.f200.ntmps 201 (JE ls n) #[29] c200.fst.fst c200.fst.snd .busy none):=by rw[hG1,Za.upd_same]
  cases hc:Wj op row with
  |none=>
   have hst:J5 op (S,false) row=some (S,false):=by unfold J5 Zab;rw[hc];rfl
   refine nr ?_;simp only[go_sem,simprocAttr,Option.isSome];refine nF ?_;refine nN ?_;refine⟨h100',(S,false),hst,rfl,?_⟩;have:=hlow S false;rw[Yd h26']at this;exact this
  |some v=>
   refine nr ?_;simp only[go_sem,simprocAttr,Option.isSome,Option.getD];refine nT ?_;refine nq3 h8' hnm h26' ?_;rw[ZrD];refine⟨⟨rfl,Zpe S⟩,.inr (Za0 _),?_⟩;obtain⟨T,hT⟩:∃T,T=ZdR S v:=⟨_,rfl⟩
   have hTl:T.length≤S.length+1:=hT▸Zqs;have hst:J5 op (S,false) row=if 1000<T.length then none else some (T,false):=by
    unfold J5 Zab;rw[hc,hT];simp only;split<;>rfl
   rw[←hT];refine Zfc 197 tok o200 rfl (pre:=[_,_]) (post:=[]) rfl rfl rfl rfl ?_;have hu8:(G1.upd n 26 (.map (encI T))) n 8=some (.box [.map n 26]):=by rw[Za.upd_ne _ _ sm];exact h8'
   have hu26:full m [] (G1.upd n 26 (.map (encI T))) n 26=some (.map (encI T)):=(Zk om _ _ _).trans (Za.upd_same ..);have hu100:(G1.upd n 26 (.map (encI T))) n 100=some (.lrec l Tryz.f200.ntmps 201 (JE ls n) #[29] c200.fst.fst c200.fst.snd .busy none):=by rw[Za.upd_ne _ _ sm];exact h100'
   simp only[go_sem,simprocAttr,o200,hnm,hu8];refine Step.look (Zmr (re:=_) tok rfl rfl rfl hu26) ?_;rw[Zj7];simp only[go_sem,simprocAttr,o200];refine JU (Zf func232 rfl rfl) (e232 (m+1) _ (T.length:Int)) sS ?_ ?_
   ·rintro r H1 ⟨hle,rfl,rfl⟩;refine⟨_,_,rfl,.refl _ _,?_⟩;rw[if_neg om]at hst;refine gO ?_;exact⟨hu100,(T,false),hst,rfl,hlow T false⟩
   ·rintro H1 ⟨hgt,rfl⟩;refine⟨_,_,rfl,.refl _ _,?_⟩;rw[if_pos om]at hst;refine⟨rfl,hst,(T,true),?_⟩;have:=hlow T true;rw[if_pos rfl,Yd hu100]at this;exact this
 ·unfold Zb1 full at hx⊢;by_cases h:a=n
  ·rw[if_pos h]at hx;have hb:Yg (fun q:Nat×Ze=>q.2.Below (n+1)) (Zbs op ls n l σ'):=
    ⟨Za0 _,Ze.ZC ⟨.map _ _ (Qr n),trivial⟩,Ze.ZC ⟨.str _,trivial⟩,Ze.Za4 hbt,trivial⟩
   exact .inr (hb.mem _ (lkb_mem hx))
  ·rw[if_neg h]at hx⊢;exact .inl hx
def Zu3(op:Str)(ps:List (List Tm))(n:Nat)(H:Za)(i:Nat):Zb:=
 ⟨[(16,.int .i64 i),(15,.int .i64 ps.length),(14,.sl 1 (ps.map eTs) .any),(5,.sl 1 (((ps.take i).map Yp).map eIs) (.buf n 200)),(2,.ptr n 2 0)],[(200,.buf 113 1 i),(2,.box [.str op])],H⟩
def ZiT(S:List Int)(i:Nat):Int:=S.getD i 0
def ZlN(S:List Int):(List.range S.length).map (ZiT S)=S:=by
 apply Gh
 ·simp
 ·intro i h1 h2;simp[ZiT,h2]
def Zpq(S:List Int)(n:Nat)(H:Za)(seen:List Nat):Zb:=
 ⟨[(44,.ptr n 44 0),(12,.msl 4 n 201 seen.length)],[(44,.iter n 26 S.length seen),(201,.Zg 40 4 (flat (((seen.map (ZiT S)).map Ye).map Tm.enc)) seen.length),(26,.map (encI S))],H⟩
def ZvI(op:Str)(ps:List (List Tm))(n:Nat)(H:Za)(S:List Int)(hS:(Z7 (ps.map Yp)).foldlM (Zab op) []=some S)(B:Base):
  AKc ⟨prog,tt,⟨none,B⟩,n,Tryz.f200.ntmps⟩ [.code (ZW Tryz.f200).snd.snd.snd.snd.snd] (Zeo prog tt 197 n Tryz.f200.results.toList (fun r H'=>∃l,Zbu op ps=some l∧r= .sl 4 (l.map Tm.enc) .any∧H'=H) (fun H'=>Zbu op ps=none∧H'=H))
   ⟨[(8,.ptr n 8 0)],[(26,.map (encI S)),(8,.box [.map n 26])],H⟩:=by
 obtain⟨hnd0,hSl,_⟩:=Zdd Qae sm hS;have hel:=Zj7 S;have hgd:∀j (h:j<S.length),(encI S).getD j (.dead,.dead)=(.int .i64 S[j],.int .i64 S[j]):=fun j h=>by
  rw[Qn];simp[encI,Za5,h,eInt]
 refine gk ?_;refine Zcq 12 201 40 4 rfl rfl ?_;refine Zar (fun m st=>∃seen:List Nat,seen.Nodup∧(∀i∈seen,i<S.length)∧m=S.length - seen.length∧st=Zpq S n H seen) (m0:=S.length) (s0:=Zpq S n H []) rfl ?_ ⟨[],sm,sm,sm,rfl⟩ ?_
 ·rw[hel];exact KK
 rintro m st ⟨seen,hnd,hlt,rfl,rfl⟩;refine ZQ rfl ?_;have hlen:seen.length≤S.length:=by
  have:=Xd hnd (q:=List.range S.length) (fun i hi=>by simpa using hlt i hi);simpa using this
 refine nR ?_;refine⟨44,n,26,encI S,seen,rfl,by simp only[go_sem,simprocAttr,hel],sS,fun hall=>?_,fun i hi hni=>?_⟩
 ·refine aS ?_;refine gg ?_;have hp:(seen.map (ZiT S)).Perm S:=by
   conv=>rhs;rw[←ZlN S]
   refine List.Perm.map _ ((Qa7 hnd Qac).2 fun i=>?_);rw[U9];exact⟨hlt i,fun h=>hall i om⟩
  obtain⟨xs,hxs⟩:∃xs,xs=(seen.map (ZiT S)).map Ye:=⟨_,rfl⟩
  have hxl:seen.length=xs.length:=by rw[hxs];simp
  rw[←hxs,hxl];obtain⟨ho1,ho2,ho3⟩:=Zom hS (hxs▸hp.map Ye);refine kK ?_;refine YA 197 tok (pre:=[_]) (post:=[_]) rfl rfl rfl rfl ?_;refine aS ?_;refine JU (Zf func236 rfl rfl) (ZvX (n+1) _ n 201 (Qr n) xs ho3 om (by simp[full,lkb])) sS ?_ ?_
  ·rintro r H1 ⟨_,hq⟩;have hLi:∀p∈[(44,Ze.iter n 26 S.length seen),(26,Ze.map (encI S))],p.2.Inside n (fun k=>k≠201):=fun p hp=>by
    simp only[Ql,QA,or_false]at hp;rcases hp with rfl|rfl
    ·exact⟨by simp[Ze.avs],fun q' hq=>by simp only[Ze.at_,Qm]at hq;subst hq;exact .inr ⟨rfl,show(26:Nat)≠201 by decide⟩⟩
    ·exact⟨fun c hc=>((Za0 (n:=n) S).1 c hc).inside,by simp[Ze.at_]⟩
   generalize XT cmpT xs=U at*;rcases hq with⟨rfl,e,rfl⟩|⟨rfl,hpos,hle,rfl⟩
   ·refine⟨_,H,(Zr n _ H 201 _).symm,.refl _ _,?_⟩;refine aS ?_;refine ZO (Xq (tm':=[(4,.sl 4 (U.map Tm.enc) .any)]) (j:=201) (U.map Tm.enc) rfl rfl (by simp[e]) (ZlQ U) (ZeR U).mem (fun p hp=>?_) hLi) ?_
    ·simp only[Ql,QA,or_false]at hp;subst hp;exact .inr ⟨4,rfl,rfl⟩
    refine nV ?_;exact Vu (Zn (.refl _) (ZH _) ⟨U,ho1,rfl,rfl⟩)
   ·refine⟨_,H,(Zr n _ H 201 _).symm,.refl _ _,?_⟩;refine aS ?_;refine ZO (JG (tm':=[(4,.sl 4 (U.map Tm.enc) .any)]) (j:=201) (U.map Tm.enc++List.replicate (xs.length - U.length) zTm) rfl rfl (by simp;omega) (fun x hx=>?_) (fun c hc=>?_) (fun p hp=>?_) hLi) ?_
    ·rcases Qk.1 hx with hx|hx
     ·exact ZlQ U x hx
     ·rw[(Uk.1 hx).2];rfl
    ·obtain⟨z,hz,hc⟩:=Qx.1 hc;rcases Qk.1 hz with hz|hz
     ·exact(ZeR U).mem c (Qx.2 ⟨z,hz,hc⟩)
     ·rw[(Uk.1 hz).2]at hc;exact Yg.mem (l:=zTm.cells) (p:=fun c=>Inside n (fun k=>k≠201) c) ⟨.int _ _,.int _ _,.str _,inZ,trivial⟩ c hc
    ·simp only[Ql,QA,or_false]at hp;subst hp;exact .inr (.inr ⟨0,U.length,rfl,by rw[Qab,Gv sm]⟩)
    refine nV ?_;exact Vu (Zn (.refl _) (ZH _) ⟨U,ho1,rfl,rfl⟩)
  ·rintro H1 ⟨hgt,_⟩;omega
 ·have hi':i<S.length:=om;have hgi:=hgd i hi';refine aq hgi ?_;refine nT ?_;obtain⟨h0,t0,het⟩:∃h0 t0,seen++[i]=h0::t0:=by
   cases seen with
   |nil=>exact⟨i,[],rfl⟩
   |cons x y=>exact⟨x,y++[i],rfl⟩
  have hgl:∀p,(h0::t0).getLast p=i:=fun p=>by
   have:∀(l:List Nat) (q:l≠[]),l=seen++[i]→l.getLast q=i:=fun l q e=>by subst e;simp
   exact this _ p het.symm
  rw[het];refine nq3 hel hgl hgi ?_;refine⟨hi',?_⟩;refine nR ?_;refine WE (Zf func233 rfl rfl) (e233 S[i]) sS ?_;refine aS ?_;refine⟨rfl,⟨Zl om,om⟩,?_⟩;rw[←het];refine nN ?_;have hnd':(seen++[i]).Nodup:=GK.2 ⟨hnd,sm,fun x hx y hy e=>by
   simp only[Qm]at hy;subst hy;subst e;exact hni hx⟩
  have hlt':∀x∈seen++[i],x<S.length:=fun x hx=>by
   rcases Qk.1 hx with hx|hx
   ·exact hlt x hx
   ·simp only[Qm]at hx;subst hx;exact hi'
  have hl1:(seen++[i]).length=seen.length+1:=sm;have hle':=Xd hnd' (q:=List.range S.length) (fun x hx=>by simpa using hlt' x hx);simp only[Qh,Qq,QB,Gp,QK]at hle';have hfl:flat (((seen.map (ZiT S)).map Ye).map Tm.enc)++flat [(Ye S[i]).enc]=flat ((((seen++[i]).map (ZiT S)).map Ye).map Tm.enc):=by
   have hka:ZiT S i=S[i]:=by simp[ZiT,hi']
   rw[←YZ,QC,QC,QC,Qv,hka];rfl
  rw[hfl];refine⟨S.length - (seen++[i]).length,Zpq S n H (seen++[i]),by simp only[Qh,Qq,QB];omega,?_,seen++[i],hnd',hlt',rfl,rfl⟩;apply kZ;repeat' first|apply q0|exact xx|apply aI
  all_goals first|exact Zk3 S|exact Zeu rfl|exact .msl _ _ _ _ (.inr ⟨rfl,rfl⟩)|(intro a ha;simp[Ze.avs]at ha;done)|(intro q hq;simp only[Ze.at_,Qm]at hq;subst hq;exact .inr ⟨rfl,rfl⟩)|exact ZeR _|(simp only[go_sem,simprocAttr,hl1];try exact .refl _)
def ZvJ(op:Str)(ps:List (List Tm))(N:Nat)(hN:ps.length=N+1)(hl:N+1≤1000)(hq:∀q∈ps,q.length≤1000000)(n:Nat)(H:Za)(hn:0<n)(hT:Tabs H):
  Yc prog 197 n 200 [.str op,.sl 1 (ps.map eTs) .any] H (fun r H'=>∃l,Zbu op ps=some l∧r= .sl 4 (l.map Tm.enc) .any∧H'=H) (fun H'=>Zbu op ps=none∧H'=H):=by
 have hso:∀(q:Nat→Prop) (r:List (List Int)),q 200→Inside n q (.sl 1 (r.map eIs) (.buf n 200)):=fun q r h=>Abs.Yj (mB fun u=>Zaj n u) h
 refine Zhg (T:=tt) tok (Zf func200 rfl rfl) sm fun B=>?_
 refine Zh2 tt (d:=(ZW Tryz.f200).snd.snd.snd.snd) [(ZW Tryz.f200).fst,(ZW Tryz.f200).snd.fst,(ZW Tryz.f200).snd.snd.fst,(ZW Tryz.f200).snd.snd.snd.fst] rfl ?_;show AKc _ [.code _,.code _,.code _,.code _] _ _;refine gz ?_;refine Xn 5 200 113 1 rfl rfl ?_;refine Zm (Zu3 op ps n H) ps.length rfl ?_ ?_
 ·exact KK
 intro i hi;refine ZQ rfl ?_;rcases Qe i ps.length with h|h
 ·refine nr ?_;simp only[go_sem,simprocAttr,h];refine nT ?_;refine nq2 (getD_map eTs _ _ h) h ?_;refine nr ?_;simp only[go_sem,simprocAttr,eTs];refine WE (Zf func199 rfl rfl) (e199 ps[i] (hq _ (Qa h))) sS ?_;have htl:(ps.take i).length=i:=by rw[QM];omega
  have hts:((ps.take i).map Yp).map eIs++[AV.sl 1 ((Yp ps[i]).map eInt) .any]=((ps.take (i+1)).map Yp).map eIs:=by rw[Qj h,QC,QC];rfl
  refine aq2 htl hts ?_;refine⟨rfl,⟨Zl om,om⟩,?_⟩;refine gd ?_;exact KK
 ·have hi':i=ps.length:=om;subst hi';refine nr ?_;simp only[go_sem,simprocAttr,QY];refine gG ?_;refine Ziw (show Zbx _ _ _ _ _ _ _ _ from ?_);have htk:(ps.take ps.length).map Yp=ps.map Yp:=by rw[QI]
  rw[htk];obtain⟨ls,hls⟩:∃ls,ls=ps.map Yp:=⟨_,rfl⟩
  have hll:ls.length=N+1:=by rw[hls,Qw,hN]
  have hlq:∀q∈ls,q.length≤1000000:=fun q hq'=>by
   rw[hls]at hq';obtain⟨u,hu,rfl⟩:=Qi.1 hq';unfold Yp;rw[Qw];exact Ue (UH _ _) (hq u hu)
  rw[←hls];refine Zeb rfl (Zeb rfl (Zrt (T:=tt) ?_));refine nR ?_;refine cQ (Zi.args (e234 ls (n+1) _) (args':=[.sl 1 (ls.map eIs) (.buf n 200)]) ⟨.any _ _ _,trivial⟩) ?_;refine aS ?_;refine Ziw (show Zbx _ _ _ _ _ _ _ _ from ?_);refine ZeO (s':=⟨JE ls n,Zf8 op n [],H⟩) ?_ ?_
  ·unfold JE Zf8;apply kZ;repeat' first|apply q0|exact xx|apply aI
   all_goals first|exact Below.inside (v:=.fn (.func 257) [.iptr [.sl 1 (ls.map eIs) .any]]) (ZaP ⟨ZN (Zib _),trivial⟩)|exact Zeu rfl
  refine Zgp rfl ?_;refine ZbM (t:=197) (T:=tt) (caps:=[.iptr [.sl 1 (ls.map eIs) .any]]) 100 rfl (by unfold JE;simp only[go_sem,simprocAttr]) (Zf func257 rfl rfl) rfl fun l=>?_
  have hok:∀pr r po σ',Z7 ls=pr++r::po→pr.foldlM (J5 op) ([],false)=some σ'→σ'.2=false∧σ'.1.length≤1000:=fun pr r po σ' e1 e2=>by
   rw[ZdE]at e2;obtain⟨T,hT,rfl⟩:=Ur.1 e2;exact⟨rfl,(Zdd Qae sm hT).2.1⟩
  refine⟨_,_,e257 (n:=n+1) (l:=l) (A:=Zb1 op ls n l H) (step:=J5 op) (ok:=fun σ _=>σ.2=false∧σ.1.length≤1000) _ ls om hlq (Zta op ls N hll hl n l H) ([],false) (fun a b _=>rfl) hok,?_,?_⟩
  ·rintro r H1 ⟨σ',hs,rfl⟩;obtain⟨S,rfl,hS⟩:∃S,σ'=(S,false)∧(Z7 ls).foldlM (Zab op) []=some S:=by
    have hs':(Z7 ls).foldlM (J5 op) ([],false)=some σ':=by unfold W9 at hs;simpa using hs
    rw[ZdE]at hs';obtain⟨T,hT,rfl⟩:=Ur.1 hs';exact⟨T,rfl,hT⟩
   refine⟨Zbs op ls n l (S,false),H,.ready,Zfe (op:=op) (ls:=ls) (n:=n) (l:=l) (H:=H) ([],false) (S,false),.refl _ _,rfl,sm,?_⟩;refine Zkx (Zrt (T:=tt) ?_);refine ZO (s':=⟨[(8,.ptr n 8 0)],[(26,.map (encI S)),(8,.box [.map n 26])],H⟩) ?_ ?_
   ·unfold JE Zbs Zf8;exact KK
   rw[hls]at hS;exact ZvI op ps n H S hS B
  ·rintro H1 ⟨hs,σ',rfl⟩;have hS:(Z7 ls).foldlM (Zab op) []=none:=by
    have hs':(Z7 ls).foldlM (J5 op) ([],false)=none:=by unfold W9 at hs;simpa using hs
    rw[ZdE]at hs';simpa using hs'
   rw[hls]at hS;exact⟨Zbs op ls n l σ',H,Zfe (op:=op) (ls:=ls) (n:=n) (l:=l) (H:=H) ([],false) σ',.refl _ _,rfl,ZoN hS,rfl⟩
end
theorem expSs_append:∀(p:List Tm) (u:Tm),expandS.expandSs (p++[u])=(expandS.expandSs p).bind fun ps=>(expandS u).bind fun q=>some (ps++[q])
 |[],u=>by
  simp only[Q5,expandS.expandSs];cases expandS u<;>rfl
 |t::r,u=>by
  simp only[Q8,expandS.expandSs,expSs_append r u];cases expandS t with
  |none=>rfl
  |some p=>
   simp only[UJ];cases expandS.expandSs r with
   |none=>rfl
   |some ps=>cases expandS u<;>rfl
theorem ZlM{l:List Tm}{i:Nat}(h:i<l.length)(e:expandS l[i]=none):expandS.expandSs l=none:=by
 cases hs:expandS.expandSs l with
 |none=>rfl
 |some ps=>
  obtain⟨q,_,hq⟩:=(expandSs_fa hs).left (Qa h);rw[e]at hq;cases hq
def Zu4(t:Tm)(ps:List (List Tm)):Option (List Tm):=if t.kind=6 then WY (Yp (ps.getD 0 [])) (Yp (ps.getD 1 []))else if t.kind=5 then Zbu t.name ps else ZcX t.name ps
def Zmh(t:Tm)(h:t.args≠[]):expandS t=(expandS.expandSs t.args).bind (Zu4 t):=by
 cases t with|mk k n s a=>
 cases a with
 |nil=>exact absurd rfl h
 |cons u r=>rw[expandS];rfl
def Zix{t:Tm}(h:t.args=[]):expandS t=some [t]:=by
 cases t with|mk k n s a=>
 simp only[Tm.args]at h;subst h;exact Vy
def ZpI(t:Tm)(ps:List (List Tm))(n:Nat)(H:Za)(i:Nat):Zb:=
 ⟨[(16,.int .i64 i),(15,.int .i64 t.args.length),(14,.sl 4 (t.args.map Tm.enc) .any),(3,.sl 1 (ps.map eTs) (.buf n 200)),(1,.ptr n 1 0)],[(200,.buf 37 1 ps.length),(1,.box t.cs)],H⟩
def Zlp{l:List Tm}(h:∀v∈l,v.all okv=true):∀x∈Yp l,-2147483648≤x∧x≤2147483648:=fun x hx=>by
 have:=ZhQ h x hx;unfold Y6 at this;rw[Qd,decide_eq_true_eq,decide_eq_true_eq]at this;omega
def Zj6(l:List Tm):(Yp l).length≤l.length:=by unfold Yp;rw[Qw];exact UH _ _
def e154(t:Tm)(ht:t.Good)(hG:t.all okG=true)(n:Nat)(H:Za)(hn:0<n)(hT:Tabs H):
  Yc prog 197 n 154 [t.enc] H (fun r H'=>∃l,expandS t=some l∧r= .sl 4 (l.map Tm.enc) .any∧H'=H) (fun H'=>expandS t=none∧H'=H):=by
 have hl:=ht.len;have ih:∀u∈t.args,∀(n:Nat) (H:Za),0<n→Tabs H→Yc prog 197 n 154 [u.enc] H (fun r H'=>∃l,expandS u=some l∧r= .sl 4 (l.map Tm.enc) .any∧H'=H) (fun H'=>expandS u=none∧H'=H):=
  fun u hu n H hn hT=>e154 u (ht.arg hu) (YV (by cases t;exact hG) hu) n H hn hT
 have ho:∀(q:Nat→Prop) (r:List (List Tm)),q 200→Inside n q (.sl 1 (r.map eTs) (.buf n 200)):=fun q r h=>Abs.Yj (mB fun u=>Zao n u) h
 refine xF func154 fun B=>?_
 refine nR ?_;by_cases h0:t.args=[]
 ·have hl0:((t.args.length:Int)==0)=true:=by rw[h0];rfl
  refine nq hl0 ?_;refine gi ?_;refine cP (Zs0 t ht) ?_;refine⟨rfl,?_⟩;refine nV ?_;exact Vu (Zn (v:=.sl 4 ([t].map Tm.enc) .any) (.any _ _ _) (ZH [t]) ⟨[t],Zix h0,rfl,rfl⟩)
 have hpos:0<t.args.length:=G9.2 h0;have hl0:((t.args.length:Int)==0)=false:=by simp;omega
 have hE:=Zmh t h0;refine nq hl0 ?_;refine nF ?_;refine gk ?_;refine Xn 3 200 37 1 rfl rfl ?_;refine Zar (fun μ st=>∃i ps,i≤t.args.length∧μ=t.args.length - i∧expandS.expandSs (t.args.take i)=some ps∧ps.length=i∧st=ZpI t ps n H i) (m0:=t.args.length) (s0:=ZpI t [] n H 0) rfl ?_ ⟨0,[],Uw _,rfl,rfl,rfl,rfl⟩ ?_
 ·exact KK
 rintro μ st ⟨i,ps,hi,rfl,hps,hpl,rfl⟩;refine ZQ rfl ?_;rcases Qe i t.args.length with h|h
 ·refine nq h ?_;refine nT ?_;refine nq2 (Tm.Zh _ _ h) h ?_;refine kK ?_;refine YA 197 tok (pre:=[_,_]) (post:=[_,_,_]) rfl rfl rfl rfl ?_;refine aS ?_;refine JU (Zf func154 rfl rfl) (ih _ (Qa h) (n+1) _ (QO _) (hT.full hn)) sS ?_ ?_
  ·rintro r H1 ⟨q,hq,rfl,rfl⟩;refine⟨_,_,rfl,.refl _ _,?_⟩;have hm:(ps.map eTs)++[eTs q]=(ps++[q]).map eTs:=by rw[QC];rfl
   refine aS ?_;refine⟨by first|exact⟨rfl,dc⟩|exact rfl,⟨Zl om,om⟩,?_⟩;change AKc _ _ _ ⟨(3,.sl 1 ((ps.map eTs)++[eTs q]) (.buf n 200))::_,_,_⟩;rw[hm];refine gd ?_;have hps':expandS.expandSs (t.args.take (i+1))=some (ps++[q]):=by
    rw[Qj h,expSs_append,hps,hq];rfl
   have hpl':(ps++[q]).length=i+1:=by simp[hpl]
   refine⟨t.args.length - (i+1),ZpI t (ps++[q]) n H (i+1),om,?_,i+1,ps++[q],h,rfl,hps',hpl',rfl⟩;apply kZ;repeat' first|apply q0|exact xx|apply aI
   all_goals first|exact(ZH _).inside|exact ho _ _ rfl|exact xI|(simp only[go_sem,simprocAttr,hpl',hpl];done)|skip
   trace_state
  ·rintro H1 ⟨hq,rfl⟩;refine⟨_,_,rfl,.refl _ _,?_⟩;refine Vm ⟨rfl,?_,rfl⟩ _;rw[hE,ZlM h hq];rfl
 ·have hi':i=t.args.length:=om;subst hi';rw[QI]at hps;rw[hps]at hE;have hfa:=expandSs_fa hps;have hpl':=hpl;have hql:∀q∈ps,q.length≤1000000:=fun q hq=>by
   obtain⟨u,hu,hue⟩:=hfa.right hq;have:=Zbb hue;omega
  have hokp:∀q∈ps,∀v∈q,v.all okv=true:=fun q hq v hv=>by
   obtain⟨u,hu,hue⟩:=hfa.right hq;exact(expand_val u (YV (by cases t;exact hG) hu) q hue v hv).1
  refine nr ?_;simp only[go_sem,simprocAttr,QY];refine gg ?_;refine gh ?_;refine nR ?_;have h0k:=ZhI (Ym hG);have hlen8:1≤t.args.length∧t.args.length≤8:=by
   rcases h0k with⟨_,_,h⟩|⟨_,_,_,_,h⟩|⟨_,h⟩|⟨_,h⟩
   ·exact absurd h h0
   ·exact h
   ·omega
   ·omega
  obtain⟨N,hN⟩:∃N,ps.length=N+1:=⟨ps.length - 1,om⟩
  rw[UJ]at hE;unfold Zu4 at hE;by_cases k6:t.kind=6
  ·have hk:(t.kind==6)=true:=by simp[k6]
   have hlen2:t.args.length=2:=by
    rcases h0k with⟨_,h,_⟩|⟨_,h,_⟩|⟨h,_⟩|⟨_,h⟩<;>omega
   obtain⟨p,q,rfl⟩:∃p q,ps=[p,q]:=by
    rw[hlen2]at hpl
    match ps,hpl with
    |[p,q],_=>exact⟨p,q,rfl⟩
   rw[if_pos k6]at hE;change expandS t=WY (Yp p) (Yp q)at hE;have hp1:=hql p sm;have hq1:=hql q sm;have h198:=fun n H=>ZvB n H (Yp p) (Yp q) (Ue (Zj6 p) hp1) (Ue (Zj6 q) hq1) (Zlp (hokp p sm)) (Zlp (hokp q sm))
   rw[hk];refine nT ?_;refine kK ?_;cases hI:WY (Yp p) (Yp q)with
   |none=>
    refine ZpP 197 tok mixed drawO rfl (pre:=[_,_,_,_,_,_,_,_]) (post:=[_]) rfl rfl rfl rfl ?_;simp only[go_sem,simprocAttr,eTs];refine cP (e199 p hp1) ?_;refine cP (e199 q hq1) ?_;refine nN ?_;refine JU (Zf func198 rfl rfl) (h198 (n+1) _) sS ?_ ?_
    ·rintro r H1 ⟨l,hl,_⟩;rw[hI]at hl;cases hl
    ·rintro H1 ⟨hl,rfl⟩;exact⟨_,_,rfl,.refl _ _,rfl,hE.trans hI,rfl⟩
   |some l=>
    refine nD drawO ?_;simp only[go_sem,simprocAttr,eTs];refine cP (e199 p hp1) ?_;refine cP (e199 q hq1) ?_;refine WE (Zf func198 rfl rfl) (r:=.sl 4 (l.map Tm.enc) .any) (fun n H=>(Yc.ret (h198 n H) (fun H' h=>by rw[hI]at h;cases h.1)).mono fun r H' h=>by
     obtain⟨l',h1,h2,h3⟩:=h;rw[hI]at h1;cases h1;exact⟨h2,h3⟩) sS ?_
    refine gw ?_;exact Vu (Zn (.refl _) (ZH _) ⟨l,hE.trans hI,rfl,rfl⟩)
  have hk:(t.kind==6)=false:=by simp[k6]
  rw[if_neg k6]at hE;rw[hk];refine gv ?_;by_cases k5:t.kind=5
  ·have hk5:(t.kind==5)=true:=by simp[k5]
   rw[if_pos k5]at hE;rw[hk5];refine nT ?_;refine kK ?_;refine YA 197 tok (pre:=[_,_,_]) (post:=[_]) rfl rfl rfl rfl ?_;refine aS ?_;refine JU (Zf func200 rfl rfl) (Yc.wk (args:=[.str t.name,.sl 1 (ps.map eTs) (.buf n 200)]) (ZvJ t.name ps N hN om hql (n+1) _ (QO _) (hT.full hn)) ⟨.refl _,.any _ _ _,trivial⟩) sS ?_ ?_
   ·rintro r H1 ⟨l,hl,rfl,rfl⟩;refine⟨_,_,rfl,.refl _ _,?_⟩;refine gw ?_;exact Vu (Zn (.refl _) (ZH _) ⟨l,hE.trans hl,rfl,rfl⟩)
   ·rintro H1 ⟨hl,rfl⟩;exact⟨_,_,rfl,.refl _ _,rfl,hE.trans hl,rfl⟩
  have hk5:(t.kind==5)=false:=by simp[k5]
  rw[if_neg k5]at hE;rw[hk5];refine gu ?_;refine YA 197 tok (pre:=[_,_,_]) (post:=[_]) rfl rfl rfl rfl ?_;refine aS ?_;refine JU (Zf func201 rfl rfl) (Yc.wk (args:=[.str t.name,.sl 1 (ps.map eTs) (.buf n 200)]) (Zv3 t.name ps N hN om hql (n+1) _ (QO _) (hT.full hn)) ⟨.refl _,.any _ _ _,trivial⟩) sS ?_ ?_
  ·rintro r H1 ⟨l,hl,rfl,rfl⟩;refine⟨_,_,rfl,.refl _ _,?_⟩;refine gw ?_;exact Vu (Zn (.refl _) (ZH _) ⟨l,hE.trans hl,rfl,rfl⟩)
  ·rintro H1 ⟨hl,rfl⟩;exact⟨_,_,rfl,.refl _ _,rfl,hE.trans hl,rfl⟩
termination_by SizeOf.sizeOf t
decreasing_by exact Tm.Y2 hu
end Go.Proofs.YtmdeagmbfhbbnaaGreatDoorR

namespace Go.Abs
def dfr(f:FuncId)(vs:List Value):Deferred:={target:=.fn (.func f) vs.toArray,args:=#[]}
def Zhn(P:Program)(m:Nat)(f:FuncId)(args:List AV)(H:Za)(u:FrameMode)(Q:Za→Prop):Prop:=
 ∀E w vs,Zt m H E w→VRs E args vs→CallsDIn Fence.wide 0 P f vs.toArray u w fun e u' w'=>(∃v,e= .returned v)∧settle u'= .returning∧ ∃H' E',Q H'∧Zt m H' E' w'∧Ext m E w E' w'
section
variable {E E':Env} {n m:Nat}
def Zrp(hnm:n≤m)(h:E.le n E'):E.le n (E'.cut m):=
 ⟨h.F,fun l k b hl hm=>by simp only[Env.cut,if_pos (Un hl hnm)];exact h.m l k b hl hm,fun l k j v hl hm=>by simp only[Env.cut,if_pos (Un hl hnm)];exact h.hist l k j v hl hm,h.qd⟩
def ZnK{b:Nat}(ho:(E.cut m).own b):E.own b:=by
 rcases ho with⟨l,k,hm⟩|⟨l,k,hm⟩
 ·simp only[Env.cut]at hm;split at hm
  ·exact .inl ⟨l,k,hm⟩
  ·cases hm
 ·simp only[Env.cut]at hm;split at hm
  ·exact .inr ⟨l,k,hm⟩
  ·cases hm
def ZkA(hnm:n≤m){w w' w2:World}(hx:Ext n E w E' w')(k2:∀b,b<w.heap.size→w2.heap[b]? =w'.heap[b]?)(k3:w2.os=w'.os)(k4:w2.tape=w'.tape)(k5:w2.output=w'.output)(k6:w2.drawn=w'.drawn)(k7:w2.heap.size=w'.heap.size):Ext n E w (E'.cut m) w2:=
 ⟨Zrp hnm hx.le,k3.trans hx.os,k4.trans hx.tape,k5.trans hx.output,fun hq=>by rw[k6];exact hx.drawn hq,by rw[k7];exact hx.size,fun b hb' ho=>by rw[k2 b hb'];exact hx.block b hb' ho,fun b hb' ho=>hx.own b hb' (ZnK ho)⟩
def VR.Zwa{a:AV}{v:Value}(h:VR E a v)(hb:Below m a)(hle:E.le m E'):VR E' a v:=
 (h.cut hb).mono (Env.Zg7 m E) ⟨hle.F,fun l k b hl hm=>hle.m l k b hl (by simp only[Env.cut,if_pos hl]at hm;exact hm),fun l k j v hl hm=>hle.hist l k j v hl (by simp only[Env.cut,if_pos hl]at hm;exact hm),hle.qd⟩
theorem Zb4{P:Program}{fn:Func}{tmps:Array Value}{R:Ending→World→Prop}{m:Nat}{H:Za}{E:Env}{u:FrameMode}(hu:u≠ .run){ds:List Deferred}{F:Fence}{n:Nat}:∀(l:List Nat) (w:World),l.Nodup→(∀D∈l,w.heap[D]? =some (.deferred (some []))∧ ¬E.own D)→Zt m H E w→
  (∀w2,Zt m H E w2→(∀b,b∉l→w2.heap[b]? =w.heap[b]?)→w2.os=w.os→w2.tape=w.tape→w2.output=w.output→w2.drawn=w.drawn→w2.heap.size=w.heap.size→LeavesInM F n P fn tmps R ds u w2)→
  LeavesInM F n P fn tmps R (l.map mark++ds) u w
 |[],w,_,_,hr,hk=>hk w hr (fun _ _=>rfl) rfl rfl rfl rfl rfl
 |D::l,w,hn,hD,hr,hk=>by
  obtain⟨h1,h2⟩:=hD D sm;obtain⟨n1,n2⟩:=GN.1 hn;refine⟨hu,.inl ⟨D,_,rfl,run_takeDeferred h1,?_⟩⟩;refine Zb4 hu l _ n2 (fun D' hD'=>?_) (hr.putObj h1 (fun _ _ _ e=>by cases e) h2) (fun w2 q1 q2 q3 q4 q5 q6 q7=>?_)
  ·obtain⟨a1,a2⟩:=hD D' (Qz _ hD');exact⟨(World.putObj_heap_other (show D'≠D from fun e=>n1 (e▸hD'))).trans a1,a2⟩
  ·refine hk w2 q1 (fun b hb=>?_) q3 q4 q5 q6 (by rw[q7,World.putObj_size]);simp only[Ql,not_or]at hb;rw[q2 b hb.2,World.putObj_heap_other hb.1]
variable {Q:AV→Prop} {caps:List AV} {f':FuncId} {T:TT} {P:Program}
theorem Zn5(hT:TOK P T){t lo1:Nat}{fn fn':Func}{c':Code}{s':Zb}{E0:Env}{w0 w':World}{a':Act}{l0:List Nat}{H:Za}{vs:List Value}{tm':List (Nat×AV)}{u:FrameMode}(hu:u≠ .run)(hf':Fun P f' fn' c')
  (hs':Yq ⟨lo1,dfr f' vs::l0.map mark⟩ (n+1) fn.ntmps s' E' a' w') (hx':Ext n E0 w0 E' w') (hl0:ZcC ⟨w0.heap.size,[]⟩ E' (l0.map mark) w') (hlo:∀D∈l0,D<lo1) (hlo0:w0.heap.size≤lo1) (hv:VRs E' caps vs) (hb:∀c∈caps,Below (n+1) c)
  (htm:∀p∈tm',lkv s'.tmps p.1=lkv tm' p.1∧Below (n+1) (lkv tm' p.1)) (hout:∀l k b,l<n→H l k=some b→b.Below n)
  (hc:Zhn P (n+1) f' caps s'.H u fun H1=>∃L2 s2,H1=full n L2 H∧AWk n fn.ntmps ⟨tm',L2,H⟩ s2∧PostF P T n fn.results.toList (fun r H'=>Q r∧H'=H) .ret s2):
  LeavesInM Fence.wide 0 P fn a'.tmps (Zht t n E0 w0 (fun r H'=>Q r∧H'=H) fun _=>False) a'.defers u w':=by
 obtain⟨g0,l,g1,g2,g3⟩:=hs'.defs;rw[g1];refine Zb4 hu l w' g2 (fun D hD=>(g3 D hD).2) hs'.heap fun w2 k1 k2 k3 k4 k5 k6 k7=>?_
 have hs2:Yq ⟨lo1,dfr f' vs::l0.map mark⟩ (n+1) fn.ntmps s' E' {a' with defers:=dfr f' vs::l0.map mark} w2:=⟨hs'.size,⟨by rw[k7];exact g0,[],rfl,Qae,fun _ h=>by cases h⟩,hs'.tmps,k1,hs'.out⟩
 have hr2:=Zt.leave hs2;have hvc:VRs (E'.cut (n+1)) caps vs:=⟨hv.1,fun i h1 h2=>(hv.2 i h1 h2).cut (hb _ (Qa h1))⟩
 refine⟨hu,.inr ⟨fun _=>by simp_all [Fence.wide],.func f',vs.toArray,f',vs.toArray,rfl,?_,fun _ _=>trivial,?_⟩⟩
 ·simp[dfr,invoke,Xa hf']
 refine(hc (E'.cut (n+1)) w2 vs hr2 hvc).mono ?_;rintro e u' w3 ⟨⟨v,rfl⟩,hst,H1,E2,⟨L2,s5,rfl,hW,hP⟩,hr3,hx3⟩;show LeavesInM _ _ _ _ _ _ (l0.map mark) (settle u') w3;rw[hst];have hx4:Ext n E0 w0 E2 w3:=(ZkA (Ul n) hx' (fun b hb=>k2 b fun hm=>by have:=(g3 b hm).1;simp only at this;omega) k3 k4 k5 k6 k7).trans (hx3.mono (Ul n));have hd2:ZcC ⟨w0.heap.size,[]⟩ (E'.cut (n+1)) (l0.map mark) w2:=by
  obtain⟨p0,l',p1,p2,p3⟩:=hl0;refine⟨by rw[k7];exact p0,l',p1,p2,fun D hD=>?_⟩;obtain⟨a1,a2,a3⟩:=p3 D hD;have hDl:D∈l0:=by
   have inj:∀(a b:List Nat),a.map mark=b.map mark→a=b:=by
    intro a;induction a with
    |nil=>intro b hb;cases b with
     |nil=>rfl
     |cons _ _=>cases hb
    |cons x a ih=>intro b hb;cases b with
     |nil=>cases hb
     |cons z b=>
      simp only[Qv,Uf,mark,Deferred.mk.injEq,Target.collected.injEq,and_true]at hb;rw[hb.1,ih b hb.2]
   rw[Qs]at p1;rw[inj _ _ p1];exact hD
  refine⟨a1,?_,fun h=>a3 (ZnK h)⟩;rw[k2 D fun hm=>by have:=(g3 D hm).1;have:=hlo D hDl;simp only at*;omega];exact a2
 have hs4:Yq ⟨w0.heap.size,[]⟩ n fn.ntmps ⟨tm',L2,H⟩ E2 {a' with defers:=l0.map mark} w3:=by
  refine⟨hs'.size,hd2.ext hx3,fun x=>?_,hr3,hout⟩;rcases lkv_mem (tm:=tm') (t:=x)with hd|hm
  ·show VR _ (lkv tm' x) _;rw[hd];exact .dead _
  ·obtain⟨e1,e2⟩:=htm _ hm;have h1:=hs'.tmps x;simp only at e1 e2;rw[e1]at h1;exact(h1.cut e2).mono hr2.norm hx3.le
 obtain⟨E5,hs5,hx5⟩:=hW _ E2 w3 _ hs4;exact Jt (a':={a' with defers:=l0.map mark}) hT rfl hs5 (hx4.trans hx5) hP
variable {pre:List Oper} {ops:Array Oper}
def ZqM(hT:TOK P T){B0 n N:Nat}{s:Zb}{E:Env}{w:World}{a:Act}{id:Nat}{o:Oper}{g:Operand}{f':FuncId}{caps:List AV}{K:Zb→Prop}
  (hl:ops.toList=pre++[o]) (hg:o.guard=none) (ho:o.op= .defer {callee:=.value g,args:=#[],argTypes:=#[]}) (hdst:o.dst=none)
  (h:XD ⟨P,T,⟨none,⟨B0,[]⟩⟩,n,N⟩ plainO ops.toList (fun s1=>evT s1.tmps g= .fn (.func f') caps∧K s1) pre s) (hd:XH N ops.toList=true) (hs:Yq ⟨B0,[]⟩ n N s E a w):
  (Code.region id ops false).wpIn (fr none) 0 P (fun e a' w'=>∃s1 E1 vs,∃l0:List Nat,e=Exit.normal∧K s1∧VRs E1 caps vs∧ZcC ⟨B0,[]⟩ E1 (l0.map mark) w'∧(∀D∈l0,D<w'.heap.size)∧B0≤w'.heap.size∧Yq ⟨w'.heap.size,dfr f' vs::l0.map mark⟩ (n+1) N ⟨s1.tmps,[],full n s1.L s1.H⟩ E1 a' w'∧Ext n E w E1 w') a w:=by
 refine wpIn_region ?_;have hd':=WU hd;have key:=VE (cx:=⟨P,T,⟨none,⟨B0,[]⟩⟩,n,N⟩) hT (op:=plainO) rfl (post:=[o]) (E0:=E) (w0:=w) (Q':=fun e a' w'=>∃s1 E1 vs,∃l0:List Nat,e=Exit.normal∧K s1∧VRs E1 caps vs∧ZcC ⟨B0,[]⟩ E1 (l0.map mark) w'∧(∀D∈l0,D<w'.heap.size)∧B0≤w'.heap.size∧Yq ⟨w'.heap.size,dfr f' vs::l0.map mark⟩ (n+1) N ⟨s1.tmps,[],full n s1.L s1.H⟩ E1 a' w'∧Ext n E w E1 w') hd' pre 0 s (by simpa using hl) h ?_ E w a hs (.refl _ _ _)
 ·simpa using key
 intro s1 E1 w1 a1 hF hs1 hx1;simp only[QK];have hlt:pre.length<ops.size:=by
  have:=congrArg List.length hl;simp at this;omega
 have hoi:ops[pre.length]? =some o:=by
  have:ops.toList[pre.length]? =some o:=by rw[hl];simp
  simpa using this
 rw[Qu (by simpa using hlt)];simp only[MZ,wpOpsIn,hoi];have hwant:Region.wanted o (yielded ops a1.tmps)=true:=by simp[Region.wanted,hg]
 rw[hwant];simp only[if_true];obtain⟨hv,hK⟩:=hF;have hgv:=ZdS hs1.tmps g;rw[hv]at hgv;generalize hy:a1.eval g=y at hgv;cases hgv with|fn _ _ vs hl2 hvs=>
 have hsem:o.semAt (fr none).round a1.eval=execOp a1.eval o:=Oper.semAt_none _ _;have hrun:(execOp a1.eval o).run P w1= .ok (.defer (dfr f' vs)) w1:=by
  simp[execOp,ho,resolve,hy,Deferred.ofValue,dfr]
 refine⟨fun _ _=>trivial,?_⟩;rw[hsem,hrun,Oper.uponIn_defer,hdst];have hsz:ops.size≤pre.length+1:=by
  have:=congrArg List.length hl;simp at this;omega
 rw[UK (by simpa using hsz)];obtain⟨g0,l0,g1,g2,g3⟩:=hs1.defs;have hlt0:∀D∈l0,D<w1.heap.size:=fun D hD=>(QX.1 (g3 D hD).2.1).1
 refine⟨s1,E1,vs,l0,rfl,hK,⟨hl2,hvs⟩,⟨g0,l0,sm,g2,g3⟩,hlt0,g0,⟨hs1.size,⟨Qg _,[],?_,Qae,fun _ h=>by cases h⟩,hs1.tmps,hs1.heap.enter,fun l k b hl hb=>hs1.heap.out hl hb⟩,hx1⟩;show dfr f' vs::a1.defers=_;rw[g1];simp
def ZnI{cx:Cx}{Q:Exit→Zb→Prop}{W:Exit→Act→World→Prop}{d:Code}{E0:Env}{w0:World}:∀(l:List Code) (s:Zb) (E:Env) (w:World) (a:Act),Yq cx.φ.B cx.n cx.N s E a w→Ext cx.n E0 w0 E w→AKc cx (l.map .code) Q s→
  (∀s' E' a' w',Q .normal s'→Yq cx.φ.B cx.n cx.N s' E' a' w'→Ext cx.n E0 w0 E' w'→d.wpIn (fr cx.φ.ro) 0 cx.P W a' w')→(∀e s' E' a' w',e≠ .normal→Q e s'→Yq cx.φ.B cx.n cx.N s' E' a' w'→Ext cx.n E0 w0 E' w'→W e a' w')→(seqs l d).wpIn (fr cx.φ.ro) 0 cx.P W a w
 |[],s,E,w,a,hs,hx,h,hn,he=>hn s E a w h hs hx
 |c::r,s,E,w,a,hs,hx,h,hn,he=>by
  refine wpIn_seq (wpIn_mono (h E w a hs) ?_);rintro e a' w' ⟨s',E',hq,hs',hx'⟩;cases e with
  |normal=>exact ZnI r s' E' w' a' hs' (hx.trans hx') hq hn he
  |_=>exact he _ s' E' a' w' sm (Zg4 (r:=r) sm hq) hs' (hx.trans hx')
def Zi9{t n:Nat}{f:FuncId}{fn fn':Func}{c':Code}{args caps:List AV}{H:Za}{Q:AV→Prop}(hT:TOK P T)(hf:Fun P f fn (ZW fn))(hN:args.length≤fn.ntmps)(hf':Fun P f' fn' c')(l:List Code){id:Nat}{o:Oper}{g:Operand}{R:Code}(tm':List (Nat×AV))(s1 S2:Zb)
  (hb:ZW fn=seqs l (.seq (.region id ops false) R)) (hl:ops.toList=pre++[o]) (hg:o.guard=none) (ho:o.op= .defer {callee:=.value g,args:=#[],argTypes:=#[]}) (hdst:o.dst=none) (hd:XH fn.ntmps ops.toList=true) (hcb:∀c∈caps,Below (n+1) c) (htm:∀p∈tm',Below (n+1) (lkv tm' p.1))
  (h1:∀B,AKc ⟨P,T,⟨none,B⟩,n,fn.ntmps⟩ (l.map .code) (fun e s'=>(e= .normal∧AWk n fn.ntmps s' s1)∨(e= .ret∧PostF P T n fn.results.toList (fun r H'=>Q r∧H'=H) .ret s')) ⟨numbered 0 args,[],H⟩)
  (h2:∀B,XD ⟨P,T,⟨none,B⟩,n,fn.ntmps⟩ plainO ops.toList (fun s2=>evT s2.tmps g= .fn (.func f') caps∧s2=S2) pre s1)
  (h3:∀B,AKc ⟨P,T,⟨none,B⟩,n+1,fn.ntmps⟩ [.code R] (fun e s'=>∃u:FrameMode,((e= .normal∧u= .returning)∨(e= .ret∧u= .returning)∨(e= .panic (ch t)∧u= .panicking (ch t)))∧(∀p∈tm',lkv s'.tmps p.1=lkv tm' p.1)∧
   Zhn P (n+1) f' caps s'.H u fun H1=>∃L2 s2,H1=full n L2 H∧AWk n fn.ntmps ⟨tm',L2,H⟩ s2∧PostF P T n fn.results.toList (fun r H'=>Q r∧H'=H) .ret s2) ⟨S2.tmps,[],full n S2.L S2.H⟩):
  Zi P n f args H fun r H'=>Q r∧H'=H:=by
 have key:Yc P t n f args H (fun r H'=>Q r∧H'=H) (fun _=>False):=fun E w vs hr hv=>by
  have hbody:fn.body=some (seqs l (.seq (.region id ops false) R)):=hb▸hf.body;refine(callsIn_wide (n:=0)).1 (callsIn_of_wp_marks hf.get hbody trivial ?_);refine ZnI (cx:=⟨P,T,⟨none,⟨w.heap.size,[]⟩⟩,n,fn.ntmps⟩) (E0:=E) (w0:=w) l _ E w _ (Yq.start hr hv hN) (.refl _ _ _) (h1 ⟨w.heap.size,[]⟩) ?_ ?_
  ·intro s' E' a' w' hq hs' hx';rcases hq with⟨_,hw⟩|⟨e,_⟩
   rotate_left
   ·cases e
   obtain⟨E1,hs1,hx1⟩:=hw _ E' w' a' hs';refine wpIn_seq (wpIn_mono (ZqM hT hl hg ho hdst (h2 _) hd hs1) ?_);rintro e2 a2 w2 ⟨s2,E2,vs2,l0,rfl,rfl,hv2,hd2,hlt,hle,hs2,hx2⟩;refine wpIn_mono (h3 ⟨w2.heap.size,dfr f' vs2::l0.map mark⟩ E2 w2 a2 hs2) ?_;rintro e3 a3 w3 ⟨s3,E3,⟨u,hu,htm3,hdef⟩,hs3,hx3⟩;have hxx:=((hx'.trans hx1).trans hx2).trans (hx3.mono (Ul n));have fin:u≠ .run→LeavesInM Fence.wide 0 P fn a3.tmps (Zht t n E w (fun r H'=>Q r∧H'=H) fun _=>False) a3.defers u w3:=fun hu=>
    Zn5 hT hu hf' hs3 hxx (hd2.ext hx3) hlt hle ⟨hv2.1,fun i h1 h2=>(hv2.2 i h1 h2).Zwa (hcb _ (Qa h1)) hx3.le⟩ hcb (fun p hp=>⟨htm3 p hp,htm p hp⟩) (fun l k b hl hb=>hr.out hl hb) hdef
   rcases hu with⟨rfl,rfl⟩|⟨rfl,rfl⟩|⟨rfl,rfl⟩
   ·exact fin sm
   ·exact fin sm
   ·exact fin sm
  ·intro e s' E' a' w' he hq hs' hx';rcases hq with⟨rfl,_⟩|⟨rfl,hp⟩
   ·exact absurd rfl he
   ·exact Jt hT rfl hs' hx' hp
 exact key.ret fun _ h=>h
end
def Zfh{P:Program}{m:Nat}{H:Za}{E:Env}{cs:List Frame}:∀(l:List Nat) (w:World) (b:Frame),b.mode≠ .run→b.defers=l.map mark→l.Nodup→(∀D∈l,w.heap[D]? =some (.deferred (some []))∧ ¬E.own D)→Zt m H E w→
  ∃w2,StepsIn (Machine.fenced P Fence.wide) P (lone b cs w) (lone {b with defers:=[]} cs w2)∧Zt m H E w2∧(∀x,x∉l→w2.heap[x]? =w.heap[x]?)∧w2.os=w.os∧w2.tape=w.tape∧w2.output=w.output∧w2.drawn=w.drawn∧w2.heap.size=w.heap.size
 |[],w,b,hb,hd,_,_,hr=>⟨w,by
   have:({b with defers:=[]}:Frame)=b:=by cases b;simp only[Ux]at hd;subst hd;rfl
   rw[this];exact StepsIn.refl _,hr,fun _ _=>rfl,rfl,rfl,rfl,rfl,rfl⟩
 |D::l,w,b,hb,hd,hn,hD,hr=>by
  obtain⟨h1,h2⟩:=hD D sm;obtain⟨n1,n2⟩:=GN.1 hn;have hs:=step_collected (cs:=cs) (P:=P) hb (d:=mark D) (ds:=l.map mark) hd rfl (run_takeDeferred h1);obtain⟨w2,q0,q1,q2,q3,q4,q5,q6,q7⟩:=Zfh (P:=P) (cs:=cs) l (w.putObj D (.deferred none)) {b with defers:=[]++l.map mark} hb rfl n2 (fun D' hD'=>by
   obtain⟨a1,a2⟩:=hD D' (Qz _ hD');exact⟨(World.putObj_heap_other (show D'≠D from fun e=>n1 (e▸hD'))).trans a1,a2⟩) (hr.putObj h1 (fun _ _ _ e=>by cases e) h2)
  refine⟨w2,.head (fenced_wide _ _) hs q0,q1,fun x hx=>?_,q3,q4,q5,q6,by rw[q7,World.putObj_size]⟩;simp only[Ql,not_or]at hx;rw[q2 x hx.2,World.putObj_heap_other hx.1]
section
variable {u:FrameMode} {P:Program}
def ZdU{f:FuncId}{fn:Func}{c:Code}{args:Array Value}{w:World}{R:Ending→FrameMode→World→Prop}(hf:P.funcs[f]? =some fn)(hb:fn.body=some c)
  (h:∀(c₀:Frame) (cs:List Frame),c₀.mode=u→c.wpSIn Fence.wide 0 P (fun e a' cs' w'=>(e= .normal∨e= .ret)∧ ∃u' m H E l,cs'={c₀ with mode:=u'}::cs∧a'.defers=List.map mark l∧l.Nodup∧(∀D∈l,w'.heap[D]? =some (.deferred (some []))∧ ¬Env.own E D)∧Zt m H E w'∧
   ∀w2,Zt m H E w2→(∀x,x∉l→w2.heap[x]? =w'.heap[x]?)→w2.os=w'.os→w2.tape=w'.tape→w2.output=w'.output→w2.drawn=w'.drawn→w2.heap.size=w'.heap.size→ ∃v,(results fn a'.tmps).run P w2= .ok v w2∧R (.returned v) u' w2)
   {tmps:=args++Array.replicate (fn.ntmps - args.size) undef,defers:=[]} (c₀::cs) w):CallsDIn Fence.wide 0 P f args u w R:=by
 refine⟨trivial,fun c₀ cs hu hroom=>?_⟩
 let b:Frame:={(default:Frame)with fn:=f,kind:=.deferred,roundOf:=none}
 have henter:Frame.enter P f args .deferred=b.atR {tmps:=args++Array.replicate (fn.ntmps - args.size) undef,defers:=[]} [.code c]:=by
  simp[Frame.enter,Frame.atR,hf,hb,b]
 obtain⟨e,a',cs',w',hl,⟨he,u',m,H,E,l,rfl,h1,h2,h3,h4,h5⟩,harr⟩:=h c₀ cs hu b [] rfl rfl trivial hroom;rw[←henter]at harr;have fin:∀todo,StepsIn (Machine.fenced P Fence.wide) P (lone (Frame.enter P f args .deferred) (c₀::cs) w) (lone {b.atR a' todo with mode:=.returning} ({c₀ with mode:=u'}::cs) w')→ ∃e u' w' fr,R e u' w'∧
   ComesIn (Machine.fenced P Fence.wide) P (lone (Frame.enter P f args .deferred) (c₀::cs) w) (lone fr ({c₀ with mode:=u'}::cs) w') e∧fr.kind= .deferred∧fr.fn=f∧fr.going P w' e:=fun todo hs=>by
  obtain⟨w2,q0,q1,q2,q3,q4,q5,q6,q7⟩:=Zfh (P:=P) (cs:={c₀ with mode:=u'}::cs) l w' {b.atR a' todo with mode:=.returning} sm h1 h2 h3 h4;obtain⟨v,hv,hR⟩:=h5 w2 q1 q2 q3 q4 q5 q6 q7;exact⟨.returned v,u',w2,_,hR,StepsIn.trans hs q0,rfl,rfl,rfl,rfl,fn,hf,hv⟩
 rcases he with rfl|rfl
 ·exact fin [] (StepsIn.trans harr (.one (fenced_calm (fr:=b.atR a' []) (n:=0) trivial (show Fence.wide.room ((_::cs).length+1+0) from hroom) rfl) (stepR_end rfl)))
 ·obtain⟨todo,hs⟩:=harr.1 rfl;exact fin todo hs
variable {ops:Array Oper}
def Zsa{P:Program}{o:Oper}{id:Nat}{Q:Exit→Act→List Frame→World→Prop}{a:Act}{cs cs1:List Frame}{w:World}{v:Value}(h0:ops[0]? =some o)(ho:o.op= .call {callee:=.builtin .recover,args:=#[],argTypes:=#[]})(hg:o.guard=none)
  (hrec:recoverD cs=some (v,cs1)∨(recoverD cs=none∧v= .nilIface∧cs1=cs))
  (h:wpOpsIn Fence.wide 0 P ops (fun e a' w'=>Q e a' cs1 w') ((List.range ops.size).drop 1) (a.put o.dst v) w):(Code.region id ops false).wpSIn Fence.wide 0 P Q a cs w:=fun b k hb hro hF hroom=>by
 have hsz:0<ops.size:=(QX.1 h0).1;obtain⟨rest,hrg,hrd⟩:∃rest,List.range ops.size=0::rest∧(List.range ops.size).drop 1=rest:=by
  obtain⟨k,hk⟩:∃k,ops.size=k+1:=⟨ops.size - 1,om⟩
  rw[hk,List.range_succ_eq_map];exact⟨_,rfl,rfl⟩
 rw[hrd]at h;have hlen:cs1.length=cs.length:=by
  rcases hrec with h|⟨_,_,rfl⟩
  ·exact recoverD_length h
  ·rfl
 have hw:Region.wanted o (yielded ops a.tmps)=true:=by simp[Region.wanted,hg]
 have hsg:=stepGR_op (P:=P) (b:=b) (a:=a) (k:=k) (cs:=cs) (w:=w) (rest:=rest) h0 hw;rw[hro,Oper.semAt_none]at hsg;have hfin:∀v,(b.atR a (.inRegion ops (0::rest)::k)).finish v=b.atR (a.put o.dst v) (.inRegion ops rest::k):=by
  intro v;rw[Frame.finish_atR,h0];rfl
 have hr:(execOp a.eval o).run P w= .ok .recover w:=by simp[execOp,ho,resolve,invoke,builtin]
 have hk:(b.atR a (.inRegion ops (0::rest)::k)).kind= .deferred:=hb;have htr:=tryRecover_deferred hk cs;have hstep:step P (lone (b.atR a (.inRegion ops (List.range ops.size)::k)) cs w)= .next (lone (b.atR (a.put o.dst v) (.inRegion ops rest::k)) cs1 w):=by
  rw[hrg];refine step_lone_go ?_;rcases hrec with h|⟨h,rfl,rfl⟩
  ·rw[hsg,←hfin];simp only[Frame.atR,hro]at htr⊢;simp[stepG.apply,hr,htr,h]
  ·rw[hsg,←hfin];simp only[Frame.atR,hro]at htr⊢;simp[stepG.apply,hr,htr,h]
 obtain⟨e,a',w',hq,harr⟩:=wp_opsIn (F:=Fence.wide) (n:=0) _ _ _ h b k cs1 hro hF (hlen▸hroom);exact⟨e,a',cs1,w',hlen,hq,.of_steps (.head (fenced_wide _ _) stepR_region (.one (fenced_wide _ _) hstep)) harr⟩
def Zkl{T:TT}{m f:Nat}{fn:Func}{args:List AV}{H:Za}{t:TypeId}{u:FrameMode}{Q:Za→Prop}{id:Nat}{o:Oper}{post:List Oper}{C:Code}{d:Tmp}{x:AV}(hT:TOK P T)(hf:Fun P f fn (.seq (.region id ops false) C))(hN:args.length≤fn.ntmps)(hres:fn.results= #[])
  (hl:ops.toList=o::post) (ho:o.op= .call {callee:=.builtin .recover,args:=#[],argTypes:=#[]}) (hg:o.guard=none) (hd:o.dst=some d) (hu:(u= .returning∧x= .nili)∨(u= .panicking (ch t)∧x= .ifc t (.agg [])))
  (h:∀B,XD ⟨P,T,⟨none,B⟩,m,fn.ntmps⟩ plainO ops.toList (AKc ⟨P,T,⟨none,B⟩,m,fn.ntmps⟩ [.code C] (fun e s'=>(e= .normal∨e= .ret)∧Q s'.H)) post ⟨(d,x)::numbered 0 args,[],H⟩)
  (hdo:XH fn.ntmps ops.toList=true:=by kernel_rfl):Zhn P m f args H u Q:=fun E w vs hr hv=>by
 have hdd:=WU hdo;refine ZdU hf.get hf.body fun c₀ cs hm=>?_
 obtain⟨v,u',hvx,hst,hrec⟩:∃v u',VR E x v∧settle u'= .returning∧(recoverD (c₀::cs)=some (v,{c₀ with mode:=u'}::cs)∨(recoverD (c₀::cs)=none∧v= .nilIface∧{c₀ with mode:=u'}::cs=c₀::cs)):=by
  rcases hu with⟨rfl,rfl⟩|⟨rfl,rfl⟩
  ·exact⟨.nilIface,.returning,.nili,rfl,.inr ⟨by simp[recoverD,hm],rfl,by rw[←hm]⟩⟩
  ·exact⟨_,_,.ifc t _ (.agg #[]) (.agg [] [] rfl fun i h=>absurd h sm),rfl,.inl (by simp[recoverD,hm,ch];rfl)⟩
 have hs0:=Yq.start (fn:=fn) hr hv hN;have h0:ops[0]? =some o:=by
  have:=congrArg (·[0]?) hl;simpa using this
 refine wpSIn_seq (Zsa h0 ho hg hrec ?_);have hmem:o∈ops.toList:=by rw[hl];simp
 rw[hd];refine VE (cx:=⟨P,T,⟨none,⟨w.heap.size,[]⟩⟩,m,fn.ntmps⟩) hT (op:=plainO) rfl (post:=[]) (E0:=E) (w0:=w) hdd post 1 ⟨(d,x)::numbered 0 args,[],H⟩ (by rw[hl];simp) (h ⟨w.heap.size,[]⟩) ?_ E w _ ⟨by rw[size_put];exact hs0.size,by rw[Ws];exact hs0.defs,fun t=>?_,hs0.heap,hs0.out⟩ (.refl _ _ _)
 ·intro s' E' w' a' hF hs' hx';have hdr:(List.range ops.size).drop (1+post.length)=[]:=UK (by
   have:=congrArg List.length hl;simp at this⊢;omega)
  rw[hdr];show C.wpSIn _ _ _ _ _ _ _;refine wpSIn_of_wpIn rfl (wpIn_mono (hF E' w' a' hs') ?_);rintro e a2 w2 ⟨s2,E2,⟨he,hQ⟩,hs2,hx2⟩;have hx3:=hx'.trans hx2;obtain⟨g0,l,g1,g2,g3⟩:=hs2.defs;refine⟨he,u',m+1,full m s2.L s2.H,E2,l,rfl,by rw[g1];simp,g2,fun D hD=>(g3 D hD).2,hs2.heap,fun w3 k1 k2 k3 k4 k5 k6 k7=>?_⟩;have hs4:Yq ⟨w.heap.size,[]⟩ m fn.ntmps s2 E2 {a2 with defers:=[]} w3:=⟨hs2.size,.nil _ (by rw[k7];exact g0),hs2.tmps,k1,hs2.out⟩
  refine⟨.tuple #[],by simp[ZcU,hres,Sem.run_pure],⟨_,rfl⟩,hst,s2.H,_,hQ,Zt.leave hs4,ZkA (Qg m) hx3 (fun b hb=>k2 b fun hm=>by have:=(g3 b hm).1;simp only at this;omega) k3 k4 k5 k6 k7⟩
 ·rw[V9 (d:=some d) hs0.size (fun x hx=>hdd o hmem x (hd.trans hx))];show VR E (lkv (Yk (numbered 0 args) (some d) x) t) _;rw[JH];split
  ·exact hvx
  ·exact hs0.tmps t
end
end Go.Abs
