/- A slice that may be written, cut off. No program, no condition. -/
import Derived.Test.YtmdeagmbfhbbnaaGreatDoorRQ07
import Derived.Test.YtmdeagmbfhbbnaaGreatDoorRQ08
import Derived.Test.YtmdeagmbfhbbnaaGreatDoorRQ05
import Derived.Test.YtmdeagmbfhbbnaaGreatDoorRQ09
import Derived.Test.YtmdeagmbfhbbnaaGreatDoorRQ06
set_option linter.all false
namespace Go.Abs
theorem ZgE{n N m:Nat}{tm tm':List (Nat×AV)}{L:List (Nat×Ze)}{H:Za}{j e sz i:Nat}{cs:List AV}(hi:0<i)(hm:m≤i)(hb:lkb L j=some (.Zg e sz cs i))(hcs:∀c∈cs,Inside n (fun k=>k≠j) c)
  (h1:∀p∈tm',(Wk (lkv tm p.1) p.2∧Inside n (fun k=>k≠j) (lkv tm p.1))∨(∃sz0 sz1,lkv tm p.1= .sub sz0 n j i 0 m∧p.2= .msl sz1 n j m)) (hL:∀p∈delb L j,p.2.Inside n (fun k=>k≠j)):
  AWk n N ⟨tm,L,H⟩ ⟨tm',setb (delb L j) j (.Zg e sz (cs.take (m*sz)) m),H⟩:=fun B E w a hs=>by
 have h:=hs.heap;obtain⟨⟨h0,v0,hv0,hj0,hr0⟩,hm0⟩:=h.Zg n j e sz cs i (Qr n) (by simp only[full,if_true];exact hb);rcases hr0 with⟨ad,q1,q2,q3⟩|⟨g,cap,cur,q1,q2,q3,q4,q5,q6,q7,q8⟩
 ·omega
 have hF':∀b o u,E.F b o=some u→(E.freeze n j none).F b o=some u:=fun b o u hu=>hu
 obtain⟨hh,hx⟩:=h.freeze (j:=j) none hL hs.out (fun b c' e=>by cases e) (fun a v ha hv=>hv.freeze hF' ha);have hgm:∀l' k' b,(E.freeze n j none).m l' k'=some b→b≠g:=fun l' k' b hm e'=>by
  subst e';simp only[Env.freeze]at hm;split at hm
  ·cases hm
  ·exact h.mg _ _ _ _ _ hm q2
 have hgg:∀l' k' b,(E.freeze n j none).g l' k'=some b→ ¬(l'=n∧k'=j)→b≠g:=fun l' k' b hm hne e'=>by
  subst e';simp only[Env.freeze]at hm;split at hm
  ·cases hm
  ·exact hne (h.injg _ _ _ _ _ hm q2)
 have hlt:g<w.heap.size:=h.lt g (.inr ⟨n,j,q2⟩);have hmi:m*sz≤i*sz:=QD _ hm;have hvs:VRs (E.freeze n j none) (cs.take (m*sz)) (cur.toList.take (m*sz)):=by
  have h2:VRs (E.freeze n j none) cs (cur.toList.take (i*sz)):=⟨q8.1,fun i x y=>(q8.2 i x y).freeze hF' (hcs _ (Qa _))⟩
  have h3:=h2.take (m*sz)
  rwa [Qax,QaI hmi]at h3
 have hle0:(E.freeze n j none).le (n+1) ((E.freeze n j none).Zy n j m (.slice (some ⟨g,0,none⟩) m cap) g []):=by
  refine⟨fun b o v hf=>?_,fun _ _ _ _ hm=>hm,fun l' k' i u _ hi=>?_,rfl⟩
  ·simp only[Env.Zy];by_cases hb:b=g
   ·subst hb;rw[show(E.freeze n j none).F b o=E.F b o from rfl,q7 o]at hf;cases hf
   ·rw[if_neg hb];exact hf
  ·simp only[Env.Zy];rw[if_neg (fun hc=>by rw[hc.1,hc.2.1]at hi;simp[Env.freeze]at hi)];exact hi
 obtain⟨hh2,hle⟩:=hh.Zjr (l:=n) (j:=j) (n:=m) (g':=g) (v:=.slice (some ⟨g,0,none⟩) m cap) (nb:=.Zg e sz (cs.take (m*sz)) m) (Qr n) (by simp[Env.freeze]) rfl [] (Qe _) (fun _ _ _=>rfl) hgm hgg hlt
  (fun o u hu=>by simp at hu) (fun o u hu=>by rw[show(E.freeze n j none).F g o=E.F g o from rfl,q7 o]at hu;cases hu)
  ⟨⟨by rw[QI,h0];exact QaI hmi,_,by simp[Env.Zy],fun i hi=>by simp only[Env.Zy,Env.freeze];rw[if_neg (fun h=>by omega)];simp,
   .inr ⟨g,cap,cur,rfl,by simp[Env.Zy],q3,om,q5,q6,fun o=>by simp[Env.Zy],hvs.mono hh.norm hle0⟩⟩,by simp[Env.Zy,Env.freeze]⟩
 have hx2:Ext n E w ((E.freeze n j none).Zy n j m (.slice (some ⟨g,0,none⟩) m cap) g []) w:=by
  refine⟨hx.le.trans ⟨hle.1,fun l k b hl hm=>hle.2 l k b (Gy hl) hm,fun l k i u hl hi=>hle.3 l k i u (Gy hl) hi,hle.4⟩,rfl,rfl,rfl,fun _=>Qe _,Qe _,fun _ _ _=>rfl,fun b _ ho=>?_⟩;rcases ho with⟨l,k,hm⟩|⟨l,k,hg⟩
  ·simp only[Env.Zy,Env.freeze]at hm;split at hm
   ·cases hm
   ·exact .inl ⟨l,k,hm⟩
  ·simp only[Env.Zy,Env.freeze]at hg;split at hg
   ·cases hg;exact .inr ⟨n,j,q2⟩
   ·exact .inr ⟨l,k,hg⟩
 refine⟨_,⟨hs.size,hs.defs.ext hx2,fun t'=>?_,by rw[Zm];exact hh2,hs.out⟩,hx2⟩;show VR _ (lkv tm' t') _;rcases lkv_mem (tm:=tm') (t:=t')with hd|hmm
 ·rw[hd];exact .dead _
 ·have ht:=hs.tmps t';rcases h1 _ hmm with⟨w1,w2⟩|⟨sz0,sz1,w1,w2⟩
  ·exact w1.vr ((ht.freeze hF' w2).mono hh.norm hle)
  ·dsimp only at w1 w2 ht;rw[w1]at ht;rw[w2];generalize a.tmps.getD t' undef=x at ht;cases ht with
   |sub _ _ _ _ _ _ g' cap' hh' hm=>
    rw[hv0,q1]at hh';simp only[Qq,Value.slice.injEq,Addr.mk.injEq]at hh';obtain⟨⟨rfl,_,_⟩,_,rfl⟩:=hh';simp only[Gq,MI];exact .msl _ _ _ _ _ _ (by simp[Env.Zy])
theorem ZbC{cx:Cx}{c:Code}{k:List Itm}{Q:Exit→Zb→Prop}{tm:List (Nat×AV)}{L:List (Nat×Ze)}{H:Za}(j l q:Nat)(x:Ze)(tm':List (Nat×AV))(hl:l<cx.n)(hfree:H l q=none)(hj:lkb L j=some x)(hb:x.Below cx.n)
  (h1:Yi (fun p=>Zgd cx.n j (lkv tm p.1)∧Wk (ren cx.n j l q (lkv tm p.1)) p.2) tm') (hL:Yi (fun p=>Yi (fun a=>Zgd cx.n j a) p.2.avs∧p.2.at_=[]∧p.2.isRec=false) (delb L j))
  (h:AKc cx (.code c::k) Q ⟨tm',Zev cx.n j l q L,H.upd l q x⟩):AKc cx (.code c::k) Q ⟨tm,L,H⟩:=
 ZK (Zi2 j l q hl hfree hj hb h1.mem (fun p hp=>by
  obtain⟨g1,g2,g3⟩:=hL.mem p hp;exact⟨g1.mem,⟨(fun r hr=>absurd (g2▸hr) (Qy)),g3⟩⟩)) h
end Go.Abs

namespace Go.Proofs.YtmdeagmbfhbbnaaGreatDoorR
open Go.Abs
set_option maxRecDepth 100000
def growO:Opt:=⟨false,false,fun d=>if d=22 then .lay true else .auto,[]⟩
theorem j129(n:Nat)(H:Za)(l q c:Nat)(hl:l<n)(hfree:H l q=none)(hc:c≤1000000000):
  Zi Tryz.prog n 129 [.sl 1 [] .full,.int .i64 c] H fun r H'=>r= .msl 1 l q 0∧H'=H.upd l q (.Zg 9 1 [] 0):=by
 have hw:IntKind.i64.wrap (c:Int)=c:=by rw[iw]
 have hw0:IntKind.i64.wrap 0=0:=rfl;refine aF Tryz.func129 fun B=>?_
 refine nR ?_;refine nR ?_;refine nF ?_;refine nr ?_;simp only[go_sem,simprocAttr,hw0,Int.sub_self,Int.sub_zero,hw];refine nr ?_;simp only[go_sem,simprocAttr,hw0,Int.sub_zero,hw];by_cases hpos:0<c
 ·have e0:decide ((0:Int)<(c:Int))=true:=by simp;omega
  refine VK rfl rfl (by simp only[go_sem,simprocAttr,e0]) ?_;repeat refine kn rfl ?_
  refine YK tok growO rfl rfl (by kernel_rfl) ?_;simp only[go_sem,simprocAttr,growO];refine⟨⟨om,Zn om,om⟩,hpos,?_⟩;repeat refine kn rfl ?_
  refine ZK (ZgE (tm':=[(0,.msl 1 n 22 0)]) (j:=22) (m:=0) hpos (Un _) rfl ?_ ?_ ?_) ?_
  ·intro x hx;simp only[flat,Qz]at hx;obtain⟨y,hy,hx⟩:=hx;rw[(Ug.1 hy).2]at hx;simp only[AV.cells,Ql]at hx;rw[hx];exact .str _
  ·intro p hp;simp only[Ql]at hp;subst hp;exact .inr ⟨1,1,rfl,rfl⟩
  ·intro p hp;cases hp
  simp only[go_sem,simprocAttr,Gq,Qas];refine nR ?_;refine kK ?_;refine ZbC 22 l q (.Zg 9 1 [] 0) [(4,.msl 1 l q 0)] hl hfree rfl ?_ ?_ ?_ ?_
  ·exact⟨fun a ha=>(by cases ha),fun p hp=>(by cases hp)⟩
  ·exact⟨⟨.inr (.inr (.inr ⟨1,0,rfl⟩)),by simp[lkv,ren,Wk.refl]⟩,trivial⟩
  ·trivial
  refine nV ?_;refine⟨by simp[XW],[.msl 1 l q 0],⟨.refl _,trivial⟩,by simp only[Ql,forall_eq];exact .msl _ _ _ _ hl,rfl,rfl⟩
 ·have e0:decide ((0:Int)<(c:Int))=false:=by simp;omega
  refine VB rfl rfl (by simp only[go_sem,simprocAttr,e0]) ?_;refine nR ?_;refine kK ?_;refine Zcc 4 300 9 1 rfl rfl ?_;refine ZbC 300 l q (.Zg 9 1 [] 0) [(4,.msl 1 l q 0)] hl hfree rfl ?_ ?_ ?_ ?_
  ·exact⟨fun a ha=>(by cases ha),fun p hp=>(by cases hp)⟩
  ·exact⟨⟨.inr (.inr (.inr ⟨1,0,rfl⟩)),by simp[lkv,ren,Wk.refl]⟩,trivial⟩
  ·trivial
  refine nV ?_;refine⟨by simp[XW],[.msl 1 l q 0],⟨.refl _,trivial⟩,by simp only[Ql,forall_eq];exact .msl _ _ _ _ hl,rfl,rfl⟩
def Zub(n:Nat)(ls:List SS)(H:Za)(i:Nat):Zb:=
 ⟨[(11,.int .i64 i),(10,.int .i64 ls.length),(9,.sl 1 (ls.map eSs) .any),(3,.int .i64 (ls.take i).flatten.length),(0,.sl 1 (ls.map eSs) .any)],[],H⟩
def Zuc(n:Nat)(ls:List SS)(H:Za)(i:Nat):Zb:=
 ⟨[(27,.int .i64 i),(26,.int .i64 ls.length),(25,.sl 1 (ls.map eSs) .any),(6,.msl 1 n 300 (ls.take i).flatten.length)],[(300,.Zg 9 1 (YP (ls.take i).flatten) (ls.take i).flatten.length)],H⟩
theorem ZdR{α:Type}(ls:List (List α))(i:Nat)(h:i<ls.length):(ls.take (i+1)).flatten=(ls.take i).flatten++ls[i]:=by
 rw[Qn h,List.flatten_append];simp
theorem Zbf{α:Type}(ls:List (List α))(i:Nat):(ls.take i).flatten.length≤ls.flatten.length:=by
 conv=>rhs;rw[←QX i ls,List.flatten_append,Qh]
 omega
theorem j82(ls:List SS)(hl:ls.length≤1000000)(hs:ls.flatten.length≤1000000):Pure Tryz.prog 82 [.sl 1 (ls.map eSs) .any] (eSs ls.flatten):=by
 intro n H;refine aF Tryz.func82 fun B=>?_
 refine nR ?_;refine nR ?_;refine nR ?_;refine kK ?_;refine Zr (Zub n ls H) ls.length rfl ?_ ?_
 ·exact KK
 intro i hi;refine Ya rfl ?_;rcases Qg i ls.length with h|h
 ·have h1:=ZdR ls i h;have h2:=Zbf ls (i+1);have h3:(ls.take (i+1)).flatten.length=(ls.take i).flatten.length+ls[i].length:=by rw[h1,Qh]
  have hw:IntKind.i64.wrap (((ls.take i).flatten.length:Int)+(ls[i].length:Int))=(((ls.take (i+1)).flatten.length:Nat):Int):=by rw[h3,iw];omega
  refine nr ?_;simp only[go_sem,simprocAttr,h];refine nT ?_;refine nr ?_;simp only[go_sem,simprocAttr,getD_map eSs _ _ h,h];refine nr ?_;simp only[go_sem,simprocAttr,eSs,hw];refine nR ?_;have hn0:decide ((((ls.take (i+1)).flatten.length:Nat):Int)<0)=false:=by simp
  refine VB rfl rfl (by simp only[go_sem,simprocAttr,hn0]) ?_;refine nR ?_;refine nN ?_;exact KK
 ·have hi':i=ls.length:=by omega
  subst hi';refine nq (QE.2 h) ?_;refine nF ?_;refine nX ?_;refine nt0 ?_;refine YW (caps:=[]) (avs:=[.sl 1 [] .full,.int .i64 ls.flatten.length]) rfl (Zf Tryz.func129 rfl rfl) (j129 (n+1) _ n 300 ls.flatten.length (Qr n) (by simp only[full,if_true];rfl) om) sS ?_;rintro r H1 ⟨rfl,rfl⟩;refine⟨[(300,.Zg 9 1 [] 0)],H,(Zm n _ H 300 _).symm,.refl _ _,?_⟩;refine aS ?_;refine nR ?_;refine kK ?_;refine Zr (Zuc n ls H) ls.length rfl ?_ ?_
  ·exact KK
  intro i hi;refine Ya rfl ?_;rcases Qg i ls.length with h|h
  ·have h1:=ZdR ls i h;have h2:=Zbf ls (i+1);have h3:(ls.take (i+1)).flatten.length=(ls.take i).flatten.length+ls[i].length:=by rw[h1,Qh]
   have hfl:YP (ls.take i).flatten++flat (ls[i].map AV.str)=YP (ls.take (i+1)).flatten:=by rw[show flat (ls[i].map AV.str)=ls[i].map AV.str from flat_aStrs _,h1,YP,YP,QG]
   have hone:∀y∈ls[i].map AV.str,y.cells.all AV.one=true:=fun y hy=>by obtain⟨u,_,rfl⟩:=Qb.1 hy;rfl
   refine nq h ?_;refine nT ?_;refine nr ?_;simp only[go_sem,simprocAttr,getD_map eSs _ _ h,h];refine nr ?_;simp only[go_sem,simprocAttr,eSs,hfl,←h3];refine⟨⟨hone,Zn om,om⟩,?_⟩;refine nR ?_;refine nN ?_;exact KK
  ·have hi':i=ls.length:=by omega
   subst hi';refine nq (QE.2 h) ?_;refine nF ?_;refine nX ?_;refine nt0 ?_;refine kK ?_;refine ZK (Xp (tm':=[(2,.sl 1 (YP ls.flatten) .any)]) (j:=300) (YP ls.flatten) rfl (flat_aStrs _) (by rw[YP,Qv]) (fun x hx=>by obtain⟨u,_,rfl⟩:=Qb.1 hx;rfl) (Xe _).mem (fun p hp=>?_) (fun p hp=>?_)) ?_
   ·simp only[Ql]at hp;subst hp;exact .inr ⟨1,rfl,rfl⟩
   ·cases hp
   refine nV ?_;exact Zc (.refl _) (Zfs n _) rfl
theorem nm_len:(∀t:Tm,(nmT t).length≤t.sz)∧ ∀l,(nmT.nms l).length≤Tm.sz.szs l:=by
 refine Ws (fun k n s l ih=>?_) (Qe _) fun t r h1 h2=>?_
 ·rw[nmT,Qh];simp only[Tm.sz];split<;>simp<;>omega
 ·rw[nmT.nms,Qh];simp only[Tm.sz.szs];omega
theorem ZfG{α:Type}(c:α→α→Int):∀l:List α,(XM c l).length≤l.length
 |[]=>Qe _
 |x::l=>by
  have h1:∀r:List α,(ZeA c x r).length≤r.length+1:=by
   intro r;induction r with
   |nil=>simp[ZeA]
   |cons y r ih=>unfold ZeA;split<;>(try split)<;>simp only[Qo]<;>omega
  have h2:=ZfG c l;have h3:=h1 (XM c l);show(ZeA c x (XM c l)).length≤_;rw[Qo];omega
theorem Zes(t:Tm):(Z8 t).length≤t.sz:=Uw (ZfG _ _) (nm_len.1 t)
theorem flatMap_vars_len:∀l:List Tm,(l.flatMap Z8).length≤Tm.sz.szs l
 |[]=>Qe _
 |t::r=>by
  have:=flatMap_vars_len r;have:=Zes t;rw[QS,Qh];simp only[Tm.sz.szs];omega
structure Sm (x:Lt):Prop where
 good:x.Good
 L:x.L.sz≤305
 R:x.R.sz≤305
 at_:Tm.sz.szs x.at_.args≤305
def V8(x:Lt):List Tm:=if x.kind=2 then [x.L,x.R]else x.at_.args
theorem Sm.tv{x:Lt}(h:Sm x):(∀t∈V8 x,t.Good∧t.sz≤305)∧(V8 x).length≤305∧(ZJ x).length≤610:=by
 unfold V8 ZJ;have h1:=h.L;have h2:=h.R;have h3:=h.at_;split
 ·refine⟨fun t ht=>?_,sm,?_⟩
  ·simp only[Qk,Qy,or_false]at ht;rcases ht with rfl|rfl
   ·exact⟨h.good.L,h.L⟩
   ·exact⟨h.good.R,h.R⟩
  ·have:=flatMap_vars_len [x.L,x.R];simp only[Tm.sz.szs]at this;omega
 ·refine⟨fun t ht=>⟨h.good.at_.arg ht,by have:=Tm.ZcJ ht;omega⟩,by have:=Tm.sz_len x.at_.args;omega,by have:=flatMap_vars_len x.at_.args;omega⟩
theorem ZuJ(l:List Tm)(hl:∀t∈l,t.Good∧t.sz≤305):Zfb 56 [] Tm.enc eSs l Z8:=
 ⟨⟨_,_,Zf Tryz.func56 rfl rfl⟩,fun t ht=>Abs.Pure.tabs (j56 t (hl t ht).1 (by have:=nm_len.1 t;have:=(hl t ht).2;omega)),fun _=>trivial⟩
theorem j41(x:Lt)(hx:Sm x):Z4 Tryz.prog 41 [x.enc] (eSs (ZJ x)):=by
 intro n H hn hT;obtain⟨h1,h2,h3⟩:=hx.tv;have hv:ZJ x=((V8 x).map Z8).flatten:=by rw[ZJ,V8,List.flatMap_def]
 have ha:=j83 (V8 x) om 56 [] Z8 (ZuJ _ h1);rw[hv]at h3⊢;have hc:=j82 ((V8 x).map Z8) (by simp;omega) om;refine aF Tryz.func41 fun B=>?_
 refine nR ?_;refine nR ?_;refine nR ?_;refine kK ?_;refine VU ⟨[(3,.sl 4 ((V8 x).map Tm.enc) .any)],[],H⟩ ?_ ?_
 ·by_cases k2:x.kind=2
  ·have e2:(x.kind==2)=true:=by simp[k2]
   have et:V8 x=[x.L,x.R]:=by rw[V8,if_pos k2]
   rw[et];refine VK rfl rfl (by simp only[go_sem,simprocAttr,e2]) ?_;refine nR ?_;refine⟨rfl,?_⟩;refine nN ?_;refine⟨rfl,?_⟩;refine Zh ?_ ?_ ?_ ?_<;>repeat' first|apply q0|exact xx|apply aI
   all_goals first|exact .any _ _ _|(simp only[go_sem,simprocAttr];exact .any _ _ _)|exact(ZC (fun y hy=>by simp only[Qk,Qy,or_false]at hy;rcases hy with rfl|rfl<;>exact Tm.blw n _)).inside|skip
  ·have e2:(x.kind==2)=false:=by simp[k2]
   have et:V8 x=x.at_.args:=by rw[V8,if_neg k2]
   rw[et];refine VB rfl rfl (by simp only[go_sem,simprocAttr,e2]) ?_;refine nN ?_;refine⟨rfl,?_⟩;exact KK
 refine nR ?_;refine cT (ha) ?_;refine cP (hc) ?_;refine nV ?_;exact Zc (.refl _) (Zfs n _) rfl
structure ZoC (m:Nat) (H0:Za) (f:Nat) (caps:List AV) (l:List Bnd) (g:Bnd→List Bnd×Int):Prop where
 fn:∃fn c,Fun Tryz.prog f fn c
 on:∀x∈l,∀n H,m≤n→ZeB m H H0→PC Tryz.prog n f (Zk x::caps) H (.tup [.sl 1 ((g x).1.map Zk) .any,eInt (g x).2])
 below:∀n,m≤n→Yi (fun c=>Below n c) caps
theorem flat_bnds:∀l:List Bnd,flat (l.map Zk)=l.map Zk
 |[]=>rfl
 |x::l=>by rw[Qs,Yt,flat_bnds l];rfl
def Zdq(g:Bnd→List Bnd×Int)(l:List Bnd)(i:Nat):List Bnd×Int:=(l.take i).foldl (fun p b=>Wl p (g b)) ([],0)
theorem ZnR(g:Bnd→List Bnd×Int)(l:List Bnd)(i:Nat)(h:i<l.length):Zdq g l (i+1)=Wl (Zdq g l i) (g l[i]):=by
 unfold Zdq;rw[Qn h,U6];rfl
theorem ZpH(g:Bnd→List Bnd×Int)(l:List Bnd)(i:Nat):(Zdq g l i).1.length≤20001:=by
 unfold Zdq;generalize l.take i=q;have:∀(q:List Bnd) (p:List Bnd×Int),p.1.length≤20001→(q.foldl (fun p b=>Wl p (g b)) p).1.length≤20001:=by
  intro q;induction q with
  |nil=>intro p h;exact h
  |cons x q ih=>
   intro p h;refine ih _ ?_;simp only[Wl,ZgP];split
   ·simp;omega
   ·omega
 exact this q _ sm
theorem V5{n:Nat}{p:Nat→Prop}(l:List Bnd):Yi (fun c=>Inside n p c) (l.map Zk):=Z5 fun c hc=>by obtain⟨u,_,rfl⟩:=Qb.1 hc;exact(Zx n u).inside
def Zpf(n l b:Nat)(now:List Bnd)(f:Nat)(caps:List AV)(acc:List Bnd×Int)(H:Za)(i:Nat):Zb:=
 ⟨[(16,.int .i64 i),(15,.int .i64 now.length),(14,.sl 1 (now.map Zk) .any),(6,.int .i64 acc.2),(5,.msl 1 n 200 acc.1.length),(1,.fn (.func f) caps),(0,.ptr l b 0)],[(200,.Zg 34 1 (acc.1.map Zk) acc.1.length)],H⟩
theorem j130(n:Nat)(H:Za)(l b:Nat)(hl:l<n)(mp sp td:AV)(now:List Bnd)(hnow:now.length≤1000000)(hbx:H l b=some (.box [mp,sp,.sl 1 (now.map Zk) .any,td]))(hmp:Below n mp∧Below n sp∧Below n td)(f:Nat)(caps:List AV)(g:Bnd→List Bnd×Int)(hf:ZoC n H f caps now g)(hg:∀x∈now,(g x).1.length≤1000000):
  Zi Tryz.prog n 130 [.ptr l b 0,.fn (.func f) caps] H fun r H'=>r=eInt (Go.Abs.Xe g now).2∧H'=H.upd l b (.box [mp,sp,.sl 1 ((Go.Abs.Xe g now).1.map Zk) .any,td]):=by
 have hne:¬l=n:=by omega
 obtain⟨⟨fn,c,hf⟩,hon,hblw⟩:=hf;have hfi:∀q,Inside n q (.fn (.func f) caps):=fun q=>(Below.fn _ _ fun i hi=>(hblw n (Qe _)).mem _ (Qa hi)).inside
 refine aF Tryz.func130 fun B=>?_
 refine nR ?_;refine nR ?_;refine nR ?_;refine nq2 hne hbx ?_;refine kK ?_;refine Zcc 5 200 34 1 rfl rfl ?_;refine Zr (fun i=>Zpf n l b now f caps (Zdq g now i) H i) now.length rfl ?_ ?_
 ·exact KK
 intro i hi;refine Ya rfl ?_;have hal:=ZpH g now i;rcases Qg i now.length with h|h
 ·have hsucc:=ZnR g now i h;have hgl:=hg _ (Qa h);refine nq h ?_;refine nT ?_;refine nr ?_;simp only[go_sem,simprocAttr,getD_map Zk _ _ h,h];refine nR ?_;refine YD (avs:=[Zk now[i]]) rfl hf (hon now[i] (Qa h) _ _ (Uj _) (fun l' k hlt=>Zj hlt _ _ _)) rfl ?_;refine aS ?_;obtain⟨r,hr⟩:∃r,r=g now[i]:=⟨_,rfl⟩
  rw[←hr]at hsucc hgl⊢;generalize hacc:Zdq g now i=acc at hal hsucc;obtain⟨A,e⟩:=acc;dsimp only at hal;have hst:Zdq g now (i+1)=(ZgP (A++r.1),if r.2=3∨e=0 then r.2 else e):=hsucc;have hwi:IntKind.i64.wrap ((i:Int)+1)=((i+1:Nat):Int):=by rw[iw];omega
  have hone:∀y∈r.1.map Zk,y.cells.all AV.one=true:=fun y hy=>by obtain⟨u,_,rfl⟩:=Qb.1 hy;rfl
  refine kK ?_;refine VU ⟨[(31,.bool (decide (r.2=3∨e=0))),(10,.int .i64 r.2),(9,.sl 1 (r.1.map Zk) .any),(16,.int .i64 i),(15,.int .i64 now.length),(14,.sl 1 (now.map Zk) .any),(6,.int .i64 e),(5,.msl 1 n 200 A.length),(1,.fn (.func f) caps),(0,.ptr l b 0)],[(200,.Zg 34 1 (A.map Zk) A.length)],H⟩ ?_ ?_
  ·cases h1:(r.2==3)with
   |true=>
    have e1:decide (r.2=3∨e=0)=true:=by simp at h1;simp[h1]
    rw[e1];refine nr ?_;simp only[go_sem,simprocAttr,eInt,h1];refine nN ?_;refine⟨rfl,?_⟩;exact KK
   |false=>
    have e1:decide (r.2=3∨e=0)=(e==0):=by
     simp only[beq_eq_false_iff_ne]at h1;by_cases hz:e=0<;>simp[h1,hz]
    rw[e1];refine nr ?_;simp only[go_sem,simprocAttr,eInt,h1];refine nN ?_;refine⟨rfl,?_⟩;exact KK
  generalize he':(if r.2=3∨e=0 then r.2 else e)=e' at hst;refine kK ?_;refine VU ⟨[(9,.sl 1 (r.1.map Zk) .any),(16,.int .i64 i),(15,.int .i64 now.length),(14,.sl 1 (now.map Zk) .any),(6,.int .i64 e'),(5,.msl 1 n 200 A.length),(1,.fn (.func f) caps),(0,.ptr l b 0)],[(200,.Zg 34 1 (A.map Zk) A.length)],H⟩ ?_ ?_
  ·by_cases hz:r.2=3∨e=0
   ·have e1:decide (r.2=3∨e=0)=true:=by simp[hz]
    rw[if_pos hz]at he';subst he';refine VK rfl rfl (by simp only[go_sem,simprocAttr,e1]) ?_;refine nR ?_;refine nN ?_;refine⟨rfl,?_⟩;exact KK
   ·have e1:decide (r.2=3∨e=0)=false:=by simp[hz]
    rw[if_neg hz]at he';subst he';refine VB rfl rfl (by simp only[go_sem,simprocAttr,e1]) ?_;refine nN ?_;refine⟨rfl,?_⟩;exact KK
  have hap:A.map Zk++flat (r.1.map Zk)=(A++r.1).map Zk:=by rw[flat_bnds,QG]
  have hal2:A.length+r.1.length=(A++r.1).length:=by rw[Qh]
  refine nq2 hap hal2 ?_;have hrl:(A++r.1).length≤1020001:=by rw[Qh];omega
  refine⟨⟨hone,Zn om,om⟩,?_⟩;generalize A++r.1=q at hst hrl⊢;refine nR ?_;by_cases hq:20000<q.length
  ·have e1:decide ((20000:Int)<(q.length:Int))=true:=by simp;omega
   have ec:ZgP q=q.take 20001:=by unfold ZgP;rw[if_pos hq]
   have etl:(q.take 20001).length=20001:=Uo om;rw[ec]at hst;refine VK rfl rfl (by simp only[go_sem,simprocAttr,e1]) ?_;refine nR ?_;refine⟨om,?_⟩;refine kK ?_;refine ZK (ZgE (tm':=[(16,.int .i64 i),(15,.int .i64 now.length),(14,.sl 1 (now.map Zk) .any),(6,.int .i64 e'),(5,.msl 1 n 200 20001),(1,.fn (.func f) caps),(0,.ptr l b 0)]) (j:=200) (m:=20001) (show 0<q.length by omega) om rfl (V5 q).mem ?_ ?_) ?_
   ·intro p hp;simp only[Qk,Qy,or_false]at hp;rcases hp with rfl|rfl|rfl|rfl|rfl|rfl|rfl
    ·exact .inl ⟨.refl _,.int _ _⟩
    ·exact .inl ⟨.refl _,.int _ _⟩
    ·exact .inl ⟨.refl _,(Zw _).inside⟩
    ·exact .inl ⟨.refl _,.int _ _⟩
    ·exact .inr ⟨1,1,rfl,rfl⟩
    ·exact .inl ⟨.refl _,hfi _⟩
    ·exact .inl ⟨.refl _,.ptr _ _ _ (.inl hl)⟩
   ·intro p hp;cases hp
   simp only[go_sem,simprocAttr,setb,delb,Qab,←List.map_take];refine nR ?_;refine nN ?_;rw[hst];unfold Zpf;rw[etl];refine Zh ?_ ?_ ?_ ?_<;>repeat' first|apply q0|exact xx|apply aI
   all_goals first|exact hfi _|exact(Zw _).inside|exact .ptr _ _ _ (.inl hl)|exact ZgI (.inr ⟨rfl,rfl⟩)|exact V5 _|(simp only[go_sem,simprocAttr,hwi];exact .refl _)
  ·have e1:decide ((20000:Int)<(q.length:Int))=false:=by simp;omega
   have ec:ZgP q=q:=by unfold ZgP;rw[if_neg hq]
   rw[ec]at hst;refine VB rfl rfl (by simp only[go_sem,simprocAttr,e1]) ?_;refine nR ?_;refine nN ?_;rw[hst];unfold Zpf;refine Zh ?_ ?_ ?_ ?_<;>repeat' first|apply q0|exact xx|apply aI
   all_goals first|exact hfi _|exact(Zw _).inside|exact .ptr _ _ _ (.inl hl)|exact ZgI (.inr ⟨rfl,rfl⟩)|exact V5 _|(simp only[go_sem,simprocAttr,hwi];exact .refl _)
 ·have hi':i=now.length:=by omega
  subst hi';have hfin:Go.Abs.Xe g now=((Zdq g now now.length).1,if(Zdq g now now.length).2=0∧20000<(Zdq g now now.length).1.length then 5 else(Zdq g now now.length).2):=by
   unfold Go.Abs.Xe Zdq;rw[QM]
  rw[hfin];generalize Zdq g now now.length=acc at hal⊢;obtain⟨A,e⟩:=acc;dsimp only at hal⊢;refine nq (QE.2 h) ?_;refine nF ?_;refine nX ?_;refine kK ?_;refine VU ⟨[(48,.bool (decide (e=0∧20000<A.length))),(6,.int .i64 e),(5,.msl 1 n 200 A.length),(0,.ptr l b 0)],[(200,.Zg 34 1 (A.map Zk) A.length)],H⟩ ?_ ?_
  ·cases h1:(e==0)with
   |true=>
    have e0:e=0:=by simpa using h1
    have e1:decide (e=0∧20000<A.length)=decide ((20000:Int)<(A.length:Int)):=by simp only[e0,true_and];apply decide_eq_decide.2;omega
    rw[e1];refine nq h1 ?_;refine nN ?_;refine⟨rfl,?_⟩;exact KK
   |false=>
    have e0:¬e=0:=by simpa using h1
    have e1:decide (e=0∧20000<A.length)=false:=by simp[e0]
    rw[e1];refine nq h1 ?_;refine nN ?_;refine⟨rfl,?_⟩;exact KK
  refine kK ?_;refine VU ⟨[(6,.int .i64 (if e=0∧20000<A.length then 5 else e)),(5,.msl 1 n 200 A.length),(0,.ptr l b 0)],[(200,.Zg 34 1 (A.map Zk) A.length)],H⟩ ?_ ?_
  ·by_cases hz:e=0∧20000<A.length
   ·have e1:decide (e=0∧20000<A.length)=true:=by simp[hz]
    rw[if_pos hz];refine VK rfl rfl (by simp only[go_sem,simprocAttr,e1]) ?_;refine nR ?_;refine nN ?_;refine⟨rfl,?_⟩;exact KK
   ·have e1:decide (e=0∧20000<A.length)=false:=by simp[hz]
    rw[if_neg hz];refine VB rfl rfl (by simp only[go_sem,simprocAttr,e1]) ?_;refine nN ?_;refine⟨rfl,?_⟩;exact KK
  generalize (if e=0∧20000<A.length then 5 else e)=e';refine ZK (Xp (tm':=[(6,.int .i64 e'),(5,.sl 1 (A.map Zk) .any),(0,.ptr l b 0)]) (j:=200) (A.map Zk) rfl (flat_bnds A) sm (fun x hx=>by obtain⟨u,_,rfl⟩:=Qb.1 hx;rfl) (V5 A).mem ?_ ?_) ?_
  ·intro p hp;simp only[Qk,Qy,or_false]at hp;rcases hp with rfl|rfl|rfl
   ·exact .inl ⟨.refl _,.int _ _⟩
   ·exact .inr ⟨1,rfl,rfl⟩
   ·exact .inl ⟨.refl _,.ptr _ _ _ (.inl hl)⟩
  ·intro p hp;cases hp
  simp only[go_sem,simprocAttr,delb];refine nr ?_;refine aq2 hne hbx ?_;refine⟨.inr (Ze.ZB ⟨hmp.1,hmp.2.1,Zw A,hmp.2.2,trivial⟩),?_⟩;refine nR ?_;refine nV ?_;exact Zo (.refl _) (.int _ _) ⟨rfl,rfl⟩
def ExpOK:Prop:=∀t:Tm,t.Good→Z4 Tryz.prog 100 [t.enc] (.tup [.sl 4 ((ZdH t).1.map Tm.enc) .any,eInt (ZdH t).2])
/-! No term has more than a thousand expansions. -/
theorem ZqE{α:Type}(c:α→α→Int)(l:List α):(XM c l).length≤l.length:=ZfG c l
theorem Zjs{α:Type}:∀(ps:List (List α)),(Ye ps).length=ps.foldr (fun p n=>p.length*n) 1
 |[]=>rfl
 |p::r=>by
  have h1:∀q:List α,(q.flatMap fun x=>(Ye r).map (x:: ·)).length=q.length*(Ye r).length:=by
   intro q;induction q with
   |nil=>simp
   |cons x q ih=>rw[QS,Qh,ih,Qv,Qo,Ue];omega
  rw[Ye,h1,Zjs r];rfl
theorem cntS_some:∀(ps:List (List Tm)) (n m:Nat),ps.foldlM (fun n p=>if 1000<n*p.length then none else some (n*p.length)) n=some m→n*ps.foldr (fun p n=>p.length*n) 1=m∧(n≤1000→m≤1000)
 |[],n,m,h=>by simp at h;subst h;simp
 |p::r,n,m,h=>by
  rw[Me]at h;by_cases hb:1000<n*p.length
  ·rw[if_pos hb]at h;cases h
  ·rw[if_neg hb]at h;obtain⟨h1,h2⟩:=cntS_some r (n*p.length) m h;refine⟨?_,fun _=>h2 om⟩;rw[List.foldr_cons,←Nat.mul_assoc];exact h1
theorem ZpB{l:List Int}{r:List Tm}(h:Zn4 l=some r):r.length≤1000:=by
 unfold Zn4 at h;split at h
 ·cases h
 ·rename_i hb;cases h;rw[Qv];omega
section
variable {t:Tm}
theorem ZcZ{l:List Tm}(h:expandS t=some l):l.length≤1000:=by
 cases t with|mk k n s a=>
 cases a with
 |nil=>rw[Za7]at h;cases h;simp
 |cons u r=>
  obtain⟨ps,hps,he⟩:=ZeW h sm;split at he
  ·unfold WI at he;split at he
   ·cases he;simp
   ·split at he
    ·cases he
    ·rename_i hb;cases he;rw[Qv,MS];omega
  ·split at he
   ·exact ZpB he
   ·unfold Zer at he;split at he
    ·cases he;simp
    ·cases hc:Znn ps with
     |none=>rw[hc]at he;cases he
     |some m=>
      rw[hc]at he;simp only[UE,Qq]at he;rw[←he,Qv,Zjs];have:=cntS_some ps 1 m hc;omega
theorem Zfw(t:Tm)(b:Bnd):(YQ t b).1.length≤1000:=by
 unfold YQ;split
 ·split
  ·rename_i l h;exact ZcZ h
  ·simp
 ·simp
structure BT (b:Bnd) (t:Tm):Prop where
 gb:ZP b
 len:b.length≤100000
 good:t.Good
 sz:t.sz≤305
 dom:∀n∈nmT t,n∈Zq b
variable {b:Bnd}
theorem BT.app(h:BT b t):(ZN b t).Good:=ZjS h.gb h.good.nm h.sz
theorem BT.gr(h:BT b t):grT (ZN b t)=true:=ZcY h.gb t h.dom
theorem BT.exp(h:BT b t):∀v∈(YQ t b).1,v.Good:=fun v hv=>YC (Zba h.gb h.dom hv)
theorem BT.ZdH{b:Bnd}{t:Tm}(h:BT b t)(hv:Xy (ZN b t)=true):ZdH (ZN b t)=YQ t b:=by
 unfold Go.Proofs.YtmdeagmbfhbbnaaGreatDoorR.ZdH YQ;rw[hv,h.gr];rfl
theorem j132(hE:ExpOK)(b:Bnd)(t:Tm)(h:BT b t):Z4 Tryz.prog 132 [t.enc,Zk b] (.tup [.sl 4 ((YQ t b).1.map Tm.enc) .any,eInt (YQ t b).2]):=by
 intro n H hn hT;refine aF Tryz.func132 fun B=>?_
 refine nR ?_;refine nR ?_;refine cT (ZrQ b h.gb.asc (by have:=h.len;omega) t h.good) ?_;refine nR ?_;refine cT (a72 (ZN b t) h.app) ?_;cases hv:Xy (ZN b t)with
 |false=>
  have e:YQ t b=([],3):=by unfold YQ;rw[if_neg (by simp[hv])]
  rw[e];refine aS ?_;refine nT ?_;refine nR ?_;refine nV ?_;exact ZG (.any _ _ _) (.refl _) (ZE []) (.int _ _) rfl
 |true=>
  refine aS ?_;refine nF ?_;refine nR ?_;refine cT (hE (ZN b t) h.app) ?_;rw[h.ZdH hv];refine nV ?_;refine ZG ?_ ?_ (ZE _) (.int _ _) rfl
  ·exact xS
  ·exact xS
theorem j134(x:Lt)(hop:0≤x.op∧x.op≤255)(v w:Tm)(hv:v.Good)(hw:w.Good):Pure Tryz.prog 134 [w.enc,.iptr x.cs,.iptr v.cs] (.bool (XL x.op v w)):=by
 intro n H;refine aF Tryz.func134 fun B=>?_
 refine nR ?_;refine nR ?_;refine cP (j101 x.op hop v w hv hw) ?_;exact pB
theorem ZoC.of{m:Nat}{H0:Za}(hm:0<m)(hT:Tabs H0){f:Nat}{caps:List AV}{l:List Bnd}{g:Bnd→List Bnd×Int}(hf:∃fn c,Fun Tryz.prog f fn c)(h:∀x∈l,Z4 Tryz.prog f (Zk x::caps) (.tup [.sl 1 ((g x).1.map Zk) .any,eInt (g x).2]))
  (hb:∀n,m≤n→Yi (fun c=>Below n c) caps):ZoC m H0 f caps l g:=
 ⟨hf,fun x hx n H hn hH=>h x hx n H om (hT.up fun k=>hH 0 k hm),hb⟩
def Ztt(b:Bnd)(x:Lt)(l r:List Tm)(H:Za)(i:Nat):Zb:=
 ⟨[(36,.int .i64 i),(35,.int .i64 l.length),(34,.sl 4 (l.map Tm.enc) .any),(7,.sl 4 (r.map Tm.enc) .any),(1,.iptr x.cs),(0,Zk b)],[],H⟩
theorem j131(hE:ExpOK)(b:Bnd)(x:Lt)(hop:0≤x.op∧x.op≤255)(hL:BT b x.L)(hR:BT b x.R):Z4 Tryz.prog 131 [Zk b,.iptr x.cs] (.tup [.sl 1 ((Jd x b).1.map Zk) .any,eInt (Jd x b).2]):=by
 intro n H hn hT;have hxi:∀p,Inside n p (.iptr x.cs):=fun p=>(Zl (Z5 fun c hc=>x.bcs.mem c hc)).inside
 have hz:Wk (.sl 1 [] .full) (.sl 1 (([]:List Bnd).map Zk) .any):=.any _ _ _;refine aF Tryz.func131 fun B=>?_
 refine nR ?_;refine nR ?_;refine cT (j132 hE b x.L hL) ?_;refine nR ?_;refine cT (j132 hE b x.R hR) ?_;have hlg:=hL.exp;have hrg:=hR.exp;have hll:=Zfw x.L b;have hrl:=Zfw x.R b;have htS:Jd x b=if(YQ x.L b).2≠0∨(YQ x.R b).2≠0 then([],V9 (YQ x.L b).2 (YQ x.R b).2)else(if(YQ x.L b).1.any (fun v=>(YQ x.R b).1.any (XL x.op v))then [b]else [],0):=rfl
 rw[htS];generalize YQ x.L b=pl at hlg hll⊢;generalize YQ x.R b=pr at hrg hrl⊢;obtain⟨l,e⟩:=pl;obtain⟨r,f⟩:=pr;dsimp only at hlg hll hrg hrl⊢;by_cases he:e=0
 ·have e1:(e !=0)=false:=by simp[he]
  by_cases hf:f=0
  ·have f1:(f !=0)=false:=by simp[hf]
   rw[if_neg (by simp[he,hf])];refine nr ?_;simp only[go_sem,simprocAttr,eInt,e1,f1];refine nF ?_;refine nR ?_;repeat refine kn rfl ?_
   refine Yc (Ztt b x l r H) (fun i=>∀j (h:j<l.length),j<i→r.any (XL x.op l[j])=false) l.length rfl ?_ (fun j _ h=>absurd h (Qm _)) ?_
   ·exact KK
   intro i hi hq;refine Ya rfl ?_;rcases Qg i l.length with h|h
   ·have hvg:=hlg _ (Qa h);refine nq h ?_;refine nT ?_;refine nr ?_;simp only[go_sem,simprocAttr,Tm.Zp _ _ h,h];refine kK ?_;refine ZY 10 (l[i]).cs [(10,.iptr (l[i]).cs),(36,.int .i64 i),(35,.int .i64 l.length),(34,.sl 4 (l.map Tm.enc) .any),(7,.sl 4 (r.map Tm.enc) .any),(1,.iptr x.cs),(0,Zk b)] rfl ?_ ?_ trivial ?_
    ·exact Z5 fun c hc=>((l[i]).bcs.mem c hc).inside
    ·exact⟨.inr ⟨0,rfl,rfl⟩,.inl ⟨.refl _,.int _ _⟩,.inl ⟨.refl _,.int _ _⟩,.inl ⟨.refl _,(ZE _).inside⟩,.inl ⟨.refl _,(ZE _).inside⟩,.inl ⟨.refl _,hxi _⟩,.inl ⟨.refl _,(Zx n b).inside⟩,trivial⟩
    refine nR ?_;refine cT (a46 r om 134 [.iptr x.cs,.iptr (l[i]).cs] (XL x.op l[i]) ⟨⟨_,_,Zf Tryz.func134 rfl rfl⟩,fun w hw=>Abs.Pure.tabs (j134 x hop l[i] w hvg (hrg w hw)),fun m=>⟨Zl (Z5 fun c hc=>x.bcs.mem c hc),Zl (l[i]).bcs,trivial⟩⟩) ?_;cases ha:r.any (XL x.op l[i])with
    |true=>
     have e2:(l.any fun v=>r.any (XL x.op v))=true:=GR.2 ⟨l[i],Qa h,ha⟩;rw[if_pos e2];refine nT ?_;refine nR ?_;refine⟨rfl,?_⟩;refine nW ?_;exact ZG (.any _ _ _) (.refl _) (Zw [b]) (.int _ _) rfl
    |false=>
     refine nF ?_;refine nR ?_;refine nN ?_;refine⟨fun j hj hji=>?_,?_⟩
     ·rcases Qg j i with h'|h'
      ·exact hq j hj h'
      ·have:j=i:=by omega
       subst this;exact ha
     ·exact KK
   ·have e2:¬(l.any fun v=>r.any (XL x.op v))=true:=by
     rw[MN,Qa1];intro v hv;obtain⟨j,hj,rfl⟩:=QJ hv;rw[hq j hj om];simp
    rw[if_neg e2];refine nq (QE.2 h) ?_;refine nF ?_;refine nX ?_;refine nR ?_;refine nV ?_;exact ZG hz (.refl _) (Zw []) (.int _ _) rfl
  ·have f1:(f !=0)=true:=by simp[hf]
   rw[if_pos (.inr hf)];refine nr ?_;simp only[go_sem,simprocAttr,eInt,e1,f1];refine nT ?_;refine nR ?_;refine cP (j133 e f) ?_;refine nV ?_;exact ZG hz (.refl _) (Zw []) (.int _ _) rfl
 ·have e1:(e !=0)=true:=by simp[he]
  rw[if_pos (.inl he)];refine nr ?_;simp only[go_sem,simprocAttr,eInt,e1];refine nT ?_;refine nR ?_;refine cP (j133 e f) ?_;refine nV ?_;exact ZG hz (.refl _) (Zw []) (.int _ _) rfl
theorem ZnV(x:Lt)(b:Bnd):(Jd x b).1.length≤1:=by
 simp only[Jd];split
 ·simp
 ·split<;>simp
def prB(mp sp:AV)(now:List Bnd)(td:AV):Ze:=.box [mp,sp,.sl 1 (now.map Zk) .any,td]
theorem j89(hE:ExpOK)(n:Nat)(H:Za)(hT:Tabs H)(hn:0<n)(l b:Nat)(hl:l<n)(mp sp td:AV)(now:List Bnd)(hnow:now.length≤1000000)(hbx:H l b=some (prB mp sp now td))(hmp:Below n mp∧Below n sp∧Below n td)(x:Lt)(hop:0≤x.op∧x.op≤255)
  (hx:∀c∈now,BT c x.L∧BT c x.R):Zi Tryz.prog n 89 [.ptr l b 0,x.enc] H fun r H'=>r=eInt (Go.Abs.Xe (Jd x) now).2∧H'=H.upd l b (prB mp sp (Go.Abs.Xe (Jd x) now).1 td):=by
 have hne:l≠n:=by omega
 refine aF Tryz.func89 fun B=>?_
 refine nR ?_;refine kK ?_;refine ZY 3 x.cs [(0,.ptr l b 0),(3,.iptr x.cs)] rfl ?_ ?_ trivial ?_
 ·exact Z5 fun c hc=>(x.bcs.mem c hc).inside
 ·exact⟨.inl ⟨.refl _,.ptr _ _ _ (.inl hl)⟩,.inr ⟨0,rfl,rfl⟩,trivial⟩
 refine nR ?_;refine YW (caps:=[]) (avs:=[.ptr l b 0,.fn (.func 131) [.iptr x.cs]]) rfl (Zf Tryz.func130 rfl rfl) (j130 (n+1) _ l b om mp sp td now hnow (by rw[Zj hl];exact hbx) ⟨hmp.1.mono om,hmp.2.1.mono om,hmp.2.2.mono om⟩ 131 [.iptr x.cs] (Jd x)
  (.of om (hT.full hn) ⟨_,_,Zf Tryz.func131 rfl rfl⟩ (fun c hc=>j131 hE c x hop (hx c hc).1 (hx c hc).2) fun m _=>⟨Zl (Z5 fun c hc=>x.bcs.mem c hc),trivial⟩) (fun c hc=>by have:=ZnV x c;omega)) sS ?_
 rintro r H1 ⟨rfl,rfl⟩;refine⟨[],H.upd l b (prB mp sp (Go.Abs.Xe (Jd x) now).1 td),(Yj n _ H l b _ hne).symm,.upd (Ze.ZB ⟨hmp.1,hmp.2.1,Zw _,hmp.2.2,trivial⟩),?_⟩;refine aS ?_;refine nV ?_;exact Zo (.refl _) (.int _ _) ⟨rfl,rfl⟩
theorem j137(b:Bnd)(hb:V7 b)(hl:b.length≤900000)(s:Str)(v:Tm):Pure Tryz.prog 137 [v.enc,.iptr [Zk b],.iptr [.str s]] (Zk (Wp s v b)):=by
 intro n H;refine aF Tryz.func137 fun B=>?_
 refine nR ?_;refine nR ?_;refine cP (j138 b hb hl s v) ?_;refine nV ?_;exact Zc (.refl _) (Zx n _) rfl
def ZbJ(s:Str)(t:Tm)(b:Bnd):List Bnd×Int:=((YQ t b).1.map fun v=>Wp s v b,(YQ t b).2)
theorem j135(hE:ExpOK)(b:Bnd)(s:Str)(t:Tm)(ht:BT b t):Z4 Tryz.prog 135 [Zk b,.iptr t.cs,.iptr [.str s]] (.tup [.sl 1 ((ZbJ s t b).1.map Zk) .any,eInt (ZbJ s t b).2]):=by
 intro n H hn hT;have hll:=Zfw t b;have hbS:ZbJ s t b=((YQ t b).1.map fun v=>Wp s v b,(YQ t b).2):=rfl;have he:=j132 hE b t ht;refine aF Tryz.func135 fun B=>?_
 refine nR ?_;refine kK ?_;refine ZY 3 [Zk b] [(3,.iptr [Zk b]),(1,.iptr t.cs),(2,.iptr [.str s])] rfl ?_ ?_ trivial ?_
 ·exact⟨(Zx n b).inside,trivial⟩
 ·exact⟨.inr ⟨0,rfl,rfl⟩,.inl ⟨.refl _,(Zl t.bcs).inside⟩,.inl ⟨.refl _,(Zl (cs:=[.str s]) ⟨.str _,trivial⟩).inside⟩,trivial⟩
 refine nR ?_;refine cT (he) ?_;rw[hbS];generalize YQ t b=p at hll⊢;obtain⟨l,e⟩:=p;dsimp only at hll⊢;refine nR ?_;refine cT (j136 l om 137 [.iptr [Zk b],.iptr [.str s]] (fun v=>Wp s v b) ⟨⟨_,_,Zf Tryz.func137 rfl rfl⟩,fun v hv=>Abs.Pure.tabs (j137 b ht.gb.asc (by have:=ht.len;omega) s v),fun m=>⟨Zl ⟨Zx m b,trivial⟩,Zl ⟨.str _,trivial⟩,trivial⟩⟩) ?_;refine nV ?_;exact ZG (.refl _) (.refl _) (Zw _) (.int _ _) rfl
theorem j91(hE:ExpOK)(n:Nat)(H:Za)(hT:Tabs H)(hn:0<n)(l b:Nat)(hl:l<n)(mp sp td:AV)(now:List Bnd)(hnow:now.length≤1000000)(hbx:H l b=some (prB mp sp now td))(hmp:Below n mp∧Below n sp∧Below n td)(s:Str)(t:Tm)(ht:∀c∈now,BT c t):
  Zi Tryz.prog n 91 [.ptr l b 0,.str s,t.enc] H fun r H'=>r=eInt (Go.Abs.Xe (ZbJ s t) now).2∧H'=H.upd l b (prB mp sp (Go.Abs.Xe (ZbJ s t) now).1 td):=by
 have hne:l≠n:=by omega
 refine aF Tryz.func91 fun B=>?_
 refine nR ?_;refine kK ?_;refine ZY 4 [.str s] [(0,.ptr l b 0),(4,.iptr [.str s]),(5,.ptr n 5 0)] rfl ⟨.str _,trivial⟩ ?_ ⟨Ze.ZA (Z5 fun c hc=>(t.bcs.mem c hc).inside),trivial⟩ ?_
 ·exact⟨.inl ⟨.refl _,.ptr _ _ _ (.inl hl)⟩,.inr ⟨0,rfl,rfl⟩,.inl ⟨.refl _,.ptr _ _ _ (.inr ⟨rfl,dc⟩)⟩,trivial⟩
 refine aS ?_;refine ZY 5 t.cs [(0,.ptr l b 0),(4,.iptr [.str s]),(5,.iptr t.cs)] rfl ?_ ?_ trivial ?_
 ·exact Z5 fun c hc=>(t.bcs.mem c hc).inside
 ·exact⟨.inl ⟨.refl _,.ptr _ _ _ (.inl hl)⟩,.inl ⟨.refl _,(Zl (cs:=[.str s]) ⟨.str _,trivial⟩).inside⟩,.inr ⟨0,rfl,rfl⟩,trivial⟩
 refine nR ?_;refine YW (caps:=[]) (avs:=[.ptr l b 0,.fn (.func 135) [.iptr t.cs,.iptr [.str s]]]) rfl (Zf Tryz.func130 rfl rfl) (j130 (n+1) _ l b om mp sp td now hnow (by rw[Zj hl];exact hbx) ⟨hmp.1.mono om,hmp.2.1.mono om,hmp.2.2.mono om⟩ 135 [.iptr t.cs,.iptr [.str s]] (ZbJ s t)
  (.of om (hT.full hn) ⟨_,_,Zf Tryz.func135 rfl rfl⟩ (fun c hc=>j135 hE c s t (ht c hc)) fun m _=>⟨Zl t.bcs,Zl ⟨.str _,trivial⟩,trivial⟩) (fun c hc=>by have:=Zfw t c;simp only[ZbJ,Qv];omega)) sS ?_
 rintro r H1 ⟨rfl,rfl⟩;refine⟨[],H.upd l b (prB mp sp (Go.Abs.Xe (ZbJ s t) now).1 td),(Yj n _ H l b _ hne).symm,.upd (Ze.ZB ⟨hmp.1,hmp.2.1,Zw _,hmp.2.2,trivial⟩),?_⟩;refine aS ?_;refine nV ?_;exact Zo (.refl _) (.int _ _) ⟨rfl,rfl⟩
end
def opP(d l k:Nat):Opt:=⟨false,false,fun x=>if x=d then .place l k true else .auto,[]⟩
structure Zkv (k l:Nat) (xs:List AV):Prop where
 len:xs.length≤1000000
 el:∀x∈xs,x.cells.length=k∧ones x=true∧Below l x
theorem XJ{l:Nat}:∀{xs:List AV},(∀x∈xs,Below l x)→Yi (fun c=>Below l c) (flat xs):=fun{xs} h=>Z5 fun c hc=>by
 obtain⟨x,hx,hc⟩:=Qz.1 hc;exact Below.cells (h x hx) c hc
theorem Zkv.blk{k l n e m:Nat}{xs:List AV}(h:Zkv k l xs)(hn:l≤n):Ze.Below n (.Zg e k (flat xs) m):=⟨(XJ fun x hx=>(h.el x hx).2.2.mono hn).mem,by simp[Ze.at_]⟩
theorem k86(n:Nat)(H:Za)(xs:List AV)(l2 k2:Nat)(hl2:l2<n)(hf:H l2 k2=none)(hx:Zkv 13 l2 xs):
  Zi Tryz.prog n 86 [.sl 13 xs .any] H fun r H'=>r= .msl 13 l2 k2 xs.length∧H'=H.upd l2 k2 (.Zg 54 13 (flat xs) xs.length):=by
 have hne:¬l2=n:=by omega
 have hle:l2≤n:=by omega
 have hlen:=hx.len;have hbb:∀m i,l2<m→Below m (.msl 13 l2 k2 i):=fun m i hm=>.msl _ _ _ _ hm
 have hb2:Ze.Below n (.Zg 54 13 (flat xs) xs.length):=hx.blk hle;have hins:Inside n (fun _=>True) (.sl 13 xs .any):=(ZC (n:=n) fun x h=>(hx.el x h).2.2.mono hle).inside;have h1:∀x∈xs,ones x=true:=fun x h=>(hx.el x h).2.1
 cases xs with
 |nil=>
  refine Zi.ZiY ?_ ?_
  ·refine aF Tryz.func86 fun B=>?_
   refine nR ?_;refine nR ?_;refine⟨⟨_,rfl⟩,?_⟩;refine nT ?_;refine nR ?_;refine kK ?_;refine ZK (Zcb (t:=2) (l:=l2) (j:=k2) 54 13 true hle rfl (by simp only[full,if_neg hne];exact hf)) ?_;simp only[Zdf,setH,if_neg hne,if_true];refine nV ?_;exact Zo (.refl _) (hbb _ _ hl2) ⟨rfl,rfl⟩
  ·refine aF Tryz.func86 fun B=>?_
   refine nR ?_;refine nR ?_;refine⟨⟨_,rfl⟩,?_⟩;refine nF ?_;refine kK ?_;refine ZK (s':=⟨[(0,.sl 13 [] .any)],[],H⟩) ?_ ?_
   ·refine Zh ⟨Wk.sln 13,trivial⟩ trivial ⟨?_,trivial⟩ trivial;exact(ZC fun x h=>by cases h).inside
   refine YK tok (opP 7 l2 k2) rfl rfl (by kernel_rfl) ?_;simp only[go_sem,simprocAttr,opP,hne];refine⟨rfl,⟨hle,hf⟩,.inr hb2,?_⟩;refine nV ?_;exact Zo (.refl _) (hbb _ _ hl2) ⟨rfl,rfl⟩
 |cons x r=>
  simp only[Qo]at hlen hb2;simp only[Qk,forall_eq_or_imp]at h1;refine aF Tryz.func86 fun B=>?_
  refine nR ?_;refine nR ?_;refine⟨⟨_,rfl⟩,?_⟩;refine nF ?_;repeat refine kn rfl ?_
  refine YK tok (opP 7 l2 k2) rfl rfl (by kernel_rfl) ?_;simp only[go_sem,simprocAttr,opP,hne];refine⟨rfl,⟨hle,hf,h1,Zn om,om⟩,.inr hb2,?_⟩;refine nV ?_;exact Zo (.refl _) (hbb _ _ hl2) ⟨rfl,rfl⟩
theorem k46(n:Nat)(H:Za)(xs:List AV)(l2 k2:Nat)(hl2:l2<n)(hf:H l2 k2=none)(hx:Zkv 5 l2 xs):
  Zi Tryz.prog n 46 [.sl 5 xs .any] H fun r H'=>r= .msl 5 l2 k2 xs.length∧H'=H.upd l2 k2 (.Zg 42 5 (flat xs) xs.length):=by
 have hne:¬l2=n:=by omega
 have hle:l2≤n:=by omega
 have hlen:=hx.len;have hbb:∀m i,l2<m→Below m (.msl 5 l2 k2 i):=fun m i hm=>.msl _ _ _ _ hm
 have hb2:Ze.Below n (.Zg 42 5 (flat xs) xs.length):=hx.blk hle;have hins:Inside n (fun _=>True) (.sl 5 xs .any):=(ZC (n:=n) fun x h=>(hx.el x h).2.2.mono hle).inside;have h1:∀x∈xs,ones x=true:=fun x h=>(hx.el x h).2.1
 cases xs with
 |nil=>
  refine Zi.ZiY ?_ ?_
  ·refine aF Tryz.func46 fun B=>?_
   refine nR ?_;refine nR ?_;refine⟨⟨_,rfl⟩,?_⟩;refine nT ?_;refine nR ?_;refine kK ?_;refine ZK (Zcb (t:=2) (l:=l2) (j:=k2) 42 5 true hle rfl (by simp only[full,if_neg hne];exact hf)) ?_;simp only[Zdf,setH,if_neg hne,if_true];refine nV ?_;exact Zo (.refl _) (hbb _ _ hl2) ⟨rfl,rfl⟩
  ·refine aF Tryz.func46 fun B=>?_
   refine nR ?_;refine nR ?_;refine⟨⟨_,rfl⟩,?_⟩;refine nF ?_;refine kK ?_;refine ZK (s':=⟨[(0,.sl 5 [] .any)],[],H⟩) ?_ ?_
   ·refine Zh ⟨Wk.sln 5,trivial⟩ trivial ⟨?_,trivial⟩ trivial;exact(ZC fun x h=>by cases h).inside
   refine YK tok (opP 7 l2 k2) rfl rfl (by kernel_rfl) ?_;simp only[go_sem,simprocAttr,opP,hne];refine⟨rfl,⟨hle,hf⟩,.inr hb2,?_⟩;refine nV ?_;exact Zo (.refl _) (hbb _ _ hl2) ⟨rfl,rfl⟩
 |cons x r=>
  simp only[Qo]at hlen hb2;simp only[Qk,forall_eq_or_imp]at h1;refine aF Tryz.func46 fun B=>?_
  refine nR ?_;refine nR ?_;refine⟨⟨_,rfl⟩,?_⟩;refine nF ?_;repeat refine kn rfl ?_
  refine YK tok (opP 7 l2 k2) rfl rfl (by kernel_rfl) ?_;simp only[go_sem,simprocAttr,opP,hne];refine⟨rfl,⟨hle,hf,h1,Zn om,om⟩,.inr hb2,?_⟩;refine nV ?_;exact Zo (.refl _) (hbb _ _ hl2) ⟨rfl,rfl⟩
theorem Zap(p q:List AV):flat (p++q)=flat p++flat q:=by unfold flat;rw[Ur]
theorem Zi5{k:Nat}{xs:List AV}(h:∀x∈xs,x.cells.length=k):(flat xs).length=xs.length*k:=flat_length h
theorem Zlc{k:Nat}{p q:List AV}{x z:AV}(hp:∀y∈p,y.cells.length=k)(hq:∀y∈q,y.cells.length=k)(hx:x.cells.length=k)(hz:z.cells.length=k):
  splice (splice (flat (p++x::q)) (p.length*k) (((flat (p++x::q)).drop ((p.length+1)*k)).take (q.length*k))) ((p.length+q.length)*k) (flat (List.replicate 1 z))=flat ((p++q)++[z]):=by
 have h1:=Zi5 hp;have h2:=Zi5 hq;have e0:flat (p++x::q)=flat p++(x.cells++flat q):=by rw[Zap];rfl
 have e1:(flat (p++x::q)).drop ((p.length+1)*k)=flat q:=by
  rw[e0,Ue,QaF,←h1,←UF,QaP,←hx,QaP]
 have e2:(flat q).take (q.length*k)=flat q:=by rw[←h2,QM]
 have e3:flat (List.replicate 1 z)=z.cells:=by simp[flat]
 rw[e1,e2,e3,e0];have e4:splice (flat p++(x.cells++flat q)) (p.length*k) (flat q)=flat p++(flat q++(x.cells++flat q).drop (flat q).length):=by
  unfold splice;rw[←h1,Gw,←UF,QaP]
 rw[e4];unfold splice;have e5:((p.length+q.length)*k)=(flat p++flat q).length:=by rw[Qh,h1,h2,Ue]
 rw[e5,←List.append_assoc (flat p) (flat q),Gw,←List.drop_drop,QaP,Zap,Zap];have e6:((x.cells++flat q).drop (flat q).length).length=z.cells.length:=by simp;omega
 rw[←e6,GX,Qu];simp[flat]
def u85:Opt:=⟨false,false,fun d=>if d=13∨d=31 then .heap else .auto,[]⟩
def u85d:Opt:=⟨true,true,fun d=>if d=22∨d=25 then .heap else if d=26 then .call else .auto,[]⟩
def zLit:AV:=.agg [.int .u8 0,.bool false,.str [],.sl 4 [] .full,.int .u8 0,.int .u8 0,.int .i64 0,.str [],.sl 4 [] .full,.int .u8 0,.int .i64 0,.str [],.sl 4 [] .full]
theorem Zjc{n:Nat}:Yi (fun c=>Below n c) zLit.cells:=⟨.int _ _,.bool _,.str _,YT (fun _ h=>by cases h) (fun _ _ e=>by cases e),.int _ _,.int _ _,.int _ _,.str _,YT (fun _ h=>by cases h) (fun _ _ e=>by cases e),.int _ _,.int _ _,.str _,YT (fun _ h=>by cases h) (fun _ _ e=>by cases e),trivial⟩
theorem k85(n:Nat)(H:Za)(l k:Nat)(hl:l<n)(p q:List AV)(x:AV)(hx:Zkv 13 l (p++x::q))(hH:H l k=some (.Zg 54 13 (flat (p++x::q)) (p++x::q).length)):
  Zi Tryz.prog n 85 [.msl 13 l k (p++x::q).length,.int .i64 p.length,.int .i64 ((p.length:Int)+1)] H fun r H'=>r= .sub 13 l k (p++x::q).length 0 (p.length+q.length)∧
   H'=H.upd l k (.Zg 54 13 (flat ((p++q)++[zLit])) (p++x::q).length):=by
 have hne:¬l=n:=by omega
 have hlen:=hx.len;have hln:(p++x::q).length=p.length+q.length+1:=by simp;omega
 have hc:∀y∈p++x::q,y.cells.length=13:=fun y hy=>(hx.el y hy).1
 have hcp:∀y∈p,y.cells.length=13:=fun y hy=>hc y (by simp[hy])
 have hcq:∀y∈q,y.cells.length=13:=fun y hy=>hc y (by simp[hy])
 have hcx:x.cells.length=13:=hc x sm;have hone:∀a∈flat (p++x::q),a.one=true:=fun a ha=>by
  obtain⟨y,hy,ha⟩:=Qz.1 ha;exact YG (hx.el y hy).2.1 a ha
 have hbc:∀c∈flat (p++x::q),Below n c:=((hx.blk (n:=n) (e:=54) (m:=0) om).1)
 rw[hln]at hH⊢;refine aF Tryz.func85 fun B=>?_
 refine nR ?_;repeat refine kn rfl ?_
 refine YK tok u85 rfl rfl (by kernel_rfl) ?_;simp only[go_sem,simprocAttr,u85];refine Step.look (Zij (a:=p.length) (h:=(p.length:Int)+1) (b:=((p.length+q.length+1:Nat):Int)) tok rfl rfl rfl rfl rfl ((Zj hl _ _ _).trans hH) rfl rfl rfl om om om om om) ?_;simp only[go_sem,simprocAttr];refine nR ?_;have hb:((p.length:Int)==(p.length:Int)+1)=false:=by simp;omega
 refine VB rfl rfl (by simp only[go_sem,simprocAttr,hb]) ?_;refine nR ?_;repeat refine kn rfl ?_
 refine Zan tok mixed u85d rfl rfl (by kernel_rfl) (by kernel_rfl) ?_;simp only[go_sem,simprocAttr,u85d];have hH0:∀L G,(∀j,G l j=H l j)→full n L G l k=some (.Zg 54 13 (flat (p++x::q)) (p.length+q.length+1)):=fun L G h=>(Zj hl _ _ _).trans ((h k).trans hH)
 refine Step.look (ZdG (h:=p.length) tok rfl rfl rfl rfl rfl (hH0 _ _ fun _=>rfl) rfl om om om) ?_;refine aS ?_;obtain⟨V,hV⟩:∃V,(if(p.length:Int)+1<((p.length+q.length+1:Nat):Int)then AV.sub 13 l k (p.length+q.length+1) (p.length+1) q.length else .sl 13 [] .any)=V:=⟨_,rfl⟩
 refine Step.look (v:=V) (XT (h:=((p.length+q.length+1:Nat):Int)) tok rfl rfl rfl rfl rfl (hH0 _ _ fun _=>rfl) rfl rfl om om om om (by
  rw[←hV,show((p.length:Int)+1).toNat=p.length+1 by omega,show(((p.length+q.length+1:Nat):Int)).toNat - (p.length+1)=q.length by omega])) ?_
 refine aS ?_;obtain⟨D,hD⟩:∃D,splice (flat (p++x::q)) (p.length*13) (((flat (p++x::q)).drop ((p.length+1)*13)).take (q.length*13))=D:=⟨_,rfl⟩
 have hdel:splice D ((p.length+q.length)*13) (flat (List.replicate 1 zLit))=flat ((p++q)++[zLit]):=by rw[←hD];exact Zlc hcp hcq hcx rfl
 have hDb:Ze.Below n (.Zg 54 13 D (p.length+q.length+1)):=by
  rw[←hD];refine⟨fun c hc=>hbc c ?_,by simp[Ze.at_]⟩;simp only[Ze.avs,splice,Qj]at hc;rcases hc with hc|hc|hc
  ·exact UM hc
  ·exact U8 (UM hc)
  ·exact U8 hc
 refine Step.turn (v:=.sub 13 l k (p.length+q.length+1) 0 (p.length+q.length)) (l:=l) (k:=k) (b:=.Zg 54 13 D (p.length+q.length+1)) ?_ (.inr hDb) ?_
 ·by_cases hq:q.length=0
  ·rw[if_neg om]at hV;have hq2:q=[]:=Gh.1 hq;have hD2:D=flat (p++x::q):=by
    rw[←hD,hq,Gq,Qas];unfold splice;simp
   have hh:((full n [] H).upd l k (.Zg 54 13 D (p.length+q.length+1)))=full n [] H:=Yd (by rw[hD2];exact hH0 _ _ fun _=>rfl);show Yq _ _ _ _ (full n [] H) _ ((full n [] H).upd l k (.Zg 54 13 D (p.length+q.length+1)));rw[hh,hq,UD];refine ZcP tok rfl rfl rfl rfl rfl hV.symm ((hH0 [] H fun _=>rfl).trans (by rw[hq])) ?_;omega
  ·rw[if_pos om]at hV;refine ZfU (i:=p.length) (off:=p.length+1) (k:=q.length) tok rfl rfl rfl rfl rfl rfl hV.symm (hH0 _ _ fun _=>rfl) ?_ ?_ ?_ hone ?_
   ·decide
   ·omega
   ·omega
   ·exact hD
 simp only[go_sem,simprocAttr,hne];repeat refine kn rfl ?_
 refine YK tok u85 rfl rfl (by kernel_rfl) ?_;simp only[go_sem,simprocAttr,u85];have hHD:∀L G,(∀j,G l j=(H.upd l k (.Zg 54 13 D (p.length+q.length+1))) l j)→full n L G l k=some (.Zg 54 13 D (p.length+q.length+1)):=fun L G h=>(Zj hl _ _ _).trans ((h k).trans (by simp[Za.upd]))
 refine Step.look (v:=.sub 13 l k (p.length+q.length+1) (p.length+q.length) 1) (Zi0 (a:=((p.length+q.length:Nat):Int)) (h:=((p.length+q.length+1:Nat):Int)) tok rfl rfl rfl rfl rfl rfl (hHD _ _ fun _=>rfl) rfl rfl ?_ ?_ ?_ ?_ ?_) ?_
 ·omega
 ·omega
 ·omega
 ·omega
 ·rw[show 0+((p.length+q.length:Nat):Int).toNat=p.length+q.length by omega,show(((p.length+q.length+1:Nat):Int)).toNat - ((p.length+q.length:Nat):Int).toNat=1 by omega]
 refine aS ?_;refine Step.turn (l:=l) (k:=k) (b:=.Zg 54 13 (flat ((p++q)++[zLit])) (p.length+q.length+1)) (Jk tok rfl rfl rfl rfl rfl rfl (hHD _ _ fun _=>rfl) ?_ rfl ?_ ?_) (.inr ?_) ?_
 ·decide
 ·decide
 ·exact hdel
 ·refine⟨fun c hc=>?_,by simp[Ze.at_]⟩;simp only[Ze.avs,Zap,Qj]at hc;rcases hc with(hc|hc)|hc
  ·exact hbc c (by rw[Zap];exact QC _ hc)
  ·exact hbc c (by rw[Zap,Yt];exact QK _ (QK _ hc))
  ·exact Below.cells (a:=zLit) (Xb Zjc.mem) c (by simpa[flat]using hc)
 refine aq hne ?_;refine nR ?_;refine nV ?_;exact Zo (.refl _) (.sub _ _ _ _ _ _ hl) ⟨rfl,Za.Zas _ _ _ _ _⟩
section
variable {k:Nat}
theorem ZiN{xs:List AV}(h:∀x∈xs,x.cells.length=k)(i:Nat)(hi:i<xs.length):((flat xs).drop (i*k)).take k=xs[i].cells:=by
 rw[←Zca h,Qw hi,Yt,MW (h _ (Qa hi))]
def mix{α:Type}(kept xs:List α):List α:=kept++xs.drop kept.length
variable {α:Type}
theorem Zfx{kept xs:List α}(h:kept.length≤xs.length):(mix kept xs).length=xs.length:=by simp[mix];omega
theorem ZdZ{kept xs:List α}(j:Nat)(h:kept.length≤j)(hj:j<(mix kept xs).length)(hj':j<xs.length):(mix kept xs)[j]=xs[j]:=by
 have:(mix kept xs)[j]? =xs[j]?:=by unfold mix;rw[MV h,UC];congr 1;omega
 rw[Qd hj,Qd hj']at this;exact UO this
theorem ZcQ(enc:α→AV)(he:∀x,(enc x).cells.length=k){kept xs:List α}(x:α)(h:kept.length<xs.length):
  splice (flat ((mix kept xs).map enc)) (kept.length*k) (enc x).cells=flat ((mix (kept++[x]) xs).map enc):=by
 have hk:(flat (kept.map enc)).length=kept.length*k:=by rw[flat_length (k:=k) (fun y hy=>by obtain⟨z,_,rfl⟩:=Qb.1 hy;exact he z),Qv]
 unfold mix splice;rw[Qw h];simp only[QG,Qs,YU,Yt,Uy,Qh,G8,flat_nil,Qu];rw[MW hk,←List.drop_drop,Qao hk,he x,Qao (he _),Q7]
theorem Zbz(enc:α→AV)(he:∀x,(enc x).cells.length=k){z:AV}(hz:z.cells.length=k){kept xs:List α}(h:kept.length≤xs.length):
  splice (flat ((mix kept xs).map enc)) (kept.length*k) (flat (List.replicate (xs.length - kept.length) z))=flat (kept.map enc++List.replicate (xs.length - kept.length) z):=by
 have hk:(flat (kept.map enc)).length=kept.length*k:=by rw[flat_length (k:=k) (fun y hy=>by obtain⟨z,_,rfl⟩:=Qb.1 hy;exact he z),Qv]
 have hr:(flat ((xs.drop kept.length).map enc)).length=(xs.length - kept.length)*k:=by rw[flat_length (k:=k) (fun y hy=>by obtain⟨z,_,rfl⟩:=Qb.1 hy;exact he z),Qv,QL]
 have hzl:(flat (List.replicate (xs.length - kept.length) z)).length=(xs.length - kept.length)*k:=by rw[flat_length (k:=k) (fun y hy=>by rw[(Ug.1 hy).2];exact hz),Gx]
 unfold mix splice;simp only[QG,YU];rw[MW hk,←List.drop_drop,Qao hk,hzl,←hr,GX,Qu]
def kpt{α:Type}(c:α→α→Int)(xs:List α):Nat→List α
 |0=>[]
 |m+1=>kpt c xs m++if h:m<xs.length then(if m=0∨c xs[m] xs[m - 1]≠0 then [xs[m]]else [])else []
theorem Za0{α:Type}(c:α→α→Int)(xs:List α):∀m,m≤xs.length→(∀i (h:i<xs.length),i<m→0<i→c xs[i] xs[i - 1]≠0)→kpt c xs m=xs.take m
 |0,_,_=>by simp[kpt]
 |m+1,hm,h=>by
  rw[kpt,Za0 c xs m om fun i hi hm=>h i hi om,dif_pos om,Qn om];rw[if_pos];by_cases h0:m=0
  ·exact .inl h0
  ·exact .inr (h m om om om)
theorem ZmL{G:α→Prop}{c:α→α→Int}(S:Zg1 G c){ys l:List α}(hg:∀x∈l,G x)(hp:ys.Perm l)(ha':∀i i' (h:i<ys.length) (h':i'<ys.length),i<i'→ ¬c ys[i'] ys[i]<0):kpt c ys ys.length=XM c l:=by
 have hgy:∀i (h:i<ys.length),G ys[i]:=fun i h=>hg _ (hp.mem_iff.1 (Qa h))
 have tri:∀{s t:α},G s→G t→ ¬c s t<0→ ¬c t s<0→s=t:=fun{s t} hs ht h h'=>by
  have:=S.anti (x:=s) (y:=t) hs ht;exact S.zero _ _ hs ht om
 have key:∀m,m≤ys.length→(∀x,x∈kpt c ys m↔ ∃j,∃h:j<ys.length,j<m∧ys[j]=x)∧(kpt c ys m).Pairwise fun x y=>c x y<0:=by
  intro m;induction m with
  |zero=>intro _;simp[kpt]
  |succ m ih=>
   intro hm;obtain⟨i1,i2⟩:=ih om;have hml:m<ys.length:=by omega
   rw[kpt,dif_pos hml];by_cases hk:m=0∨c ys[m] ys[m - 1]≠0
   ·rw[if_pos hk];refine⟨fun x=>?_,List.pairwise_append.2 ⟨i2,sm,fun x hx y hy=>?_⟩⟩
    ·simp only[Qj,i1,Ql];constructor
     ·rintro(⟨j,h,hj,rfl⟩|rfl)
      ·exact⟨j,h,om,rfl⟩
      ·exact⟨m,hml,om,rfl⟩
     ·rintro⟨j,h,hj,rfl⟩;by_cases e:j=m
      ·subst e;exact .inr rfl
      ·exact .inl ⟨j,h,om,rfl⟩
    ·simp only[Ql]at hy;subst hy;obtain⟨j,h,hj,rfl⟩:=(i1 x).1 hx;have h1:=ha' j m h hml hj;by_cases e:c ys[j] ys[m]<0
     ·exact e
     ·have e2:=tri (hgy _ h) (hgy _ hml) e h1;exfalso
      have hne:ys[m]≠ys[m - 1]:=by
       intro e;rcases hk with hk|hk
       ·omega
       ·rw[←e]at hk;exact hk (by have:=S.anti (x:=ys[m]) (y:=ys[m]) (hgy _ hml) (hgy _ hml);omega)
      by_cases e3:j=m - 1
      ·subst e3;exact hne e2.symm
      ·have a1:=ha' j (m - 1) h om om;have a2:=ha' (m - 1) m om hml om;by_cases a3:c ys[m - 1] ys[m]<0
       ·rw[←e2]at a3;exact a1 a3
       ·exact hne (tri (hgy _ hml) (hgy _ om) a2 a3)
   ·rw[if_neg hk,Qu];refine⟨fun x=>?_,i2⟩;rw[i1];constructor
    ·rintro⟨j,h,hj,rfl⟩;exact⟨j,h,om,rfl⟩
    ·rintro⟨j,h,hj,rfl⟩;by_cases e:j=m
     ·subst e;simp only[not_or,Decidable.not_not]at hk;exact⟨j - 1,om,om,(S.zero _ _ (hgy _ h) (hgy _ om) hk.2).symm⟩
     ·exact⟨j,h,om,rfl⟩
 obtain⟨h1,h2⟩:=key ys.length (Qe _);refine S.unique (fun x hx=>?_) h2 (S.set_asc fun x hx=>hg x hx) fun x=>?_
 ·obtain⟨j,h,_,rfl⟩:=(h1 x).1 hx;exact hgy _ h
 ·rw[S.set_mem fun x hx=>hg x hx,h1,←hp.mem_iff];constructor
  ·rintro⟨j,h,_,rfl⟩;exact Qa h
  ·intro hx;obtain⟨j,h,rfl⟩:=QJ hx;exact⟨j,h,h,rfl⟩
end
end Go.Proofs.YtmdeagmbfhbbnaaGreatDoorR

namespace Go.Abs
def Zlv(F:Fence)(n:Nat)(P:Program)(fn0:Func)(l:Nat)(R:Ending→World→Prop):Exit→Act→World→Prop
 | .panic c,a,w=>LeavesInM F n P fn0 a.tmps (fun e w'=>(∃c,e= .panicked c)∧R e w') a.defers (.panicking c) w
 |e,a,w=>roundPost P l R e a w
theorem ZdQ{F:Fence}{n:Nat}{P:Program}{l:Nat}{f:FuncId}{fn0:Func}{tmps:Array Value}{assign body:Code}{w:World}{R:Ending→World→Prop}(hF:F.fn f)(hf:P.funcs[f]? =some fn0)
  (h:assign.wpIn (F.inRound l) n P (Exit.then (fun a₁ w₁=>∃w₂,(Instr.beginRound l).run P w₁= .ok () w₂∧body.wpIn (F.inRound l) n P (Zlv (F.inRound l) n P fn0 l R) a₁ w₂) (fun _ _ _=>False))
   {tmps:=tmps,defers:=[]} w):
  RoundIn F n P l f tmps assign body w R:=by
 refine⟨hF,fun c cs hr=>?_⟩
 let b:Frame:={(default:Frame)with fn:=f,kind:=.normal,roundOf:=some l}
 have hb0:Frame.round l f tmps assign body .normal=b.atR {tmps:=tmps,defers:=[]} [.code assign,.beginRound,.code body]:=by
  simp[Frame.round,Frame.atR,b]
 have hr':(F.inRound l).room ((c::cs).length+1+n):=hr;have hF':(F.inRound l).fn b.fn:=hF;obtain⟨e,a1,w1,hq,harr⟩:=h b [.beginRound,.code body] (c::cs) rfl hF' hr';rw[←hb0]at harr;cases e with
 |normal=>
  obtain⟨w2,hbr,hbody⟩:=hq;have s1:StepsIn (Machine.fenced P (F.inRound l)) P (lone (b.atR a1 [.beginRound,.code body]) (c::cs) w1) (lone (b.atR a1 [.code body]) (c::cs) w2):=
   .one (fenced_calm (fr:=b.atR a1 [.beginRound,.code body]) hF' hr' rfl) (stepR_beginRound rfl hbr)
  have s2:=StepsIn.trans harr s1;obtain⟨e2,a2,w3,hq2,harr2⟩:=hbody b [] (c::cs) rfl hF' hr';cases e2 with
  |normal=>
   obtain⟨v,w4,hend,hR⟩:=hq2;exact⟨.returned v,w4,hR,s2.trans (StepsIn.trans harr2 (.one (fenced_calm (fr:=b.atR a2 []) hF' hr' rfl) (stepR_round_end rfl rfl hend)))⟩
  |ret=>
   obtain⟨v,w4,hend,hR⟩:=hq2;obtain⟨k1,hs⟩:=harr2.2 rfl;exact⟨.returned v,w4,hR,s2.trans (StepsIn.trans hs (.one (fenced_calm (fr:=b.atR a2 (.code .ret::k1)) hF' hr' rfl) (stepR_round_ret rfl rfl hend)))⟩
  |exit id=>
   obtain⟨v,w4,hend,hR⟩:=hq2;obtain⟨k1,hk,hs⟩:=harr2.2 rfl rfl;exact⟨.returned v,w4,hR,s2.trans (StepsIn.trans hs (.one (fenced_calm (fr:=b.atR a2 (.code (.exit id)::k1)) hF' hr' rfl) (stepR_round_exit rfl rfl hk hend)))⟩
  |goto t=>
   obtain⟨v,w4,hend,hR⟩:=hq2;obtain⟨k1,hk,hs⟩:=harr2.2 rfl rfl;exact⟨.returned v,w4,hR,s2.trans (StepsIn.trans hs (.one (fenced_calm (fr:=b.atR a2 (.code (.goto t)::k1)) hF' hr' rfl) (stepR_round_goto rfl rfl hk hend)))⟩
  |panic chain=>
   obtain⟨todo,hs⟩:=harr2;obtain⟨e',w4,fr',⟨⟨c',rfl⟩,hR⟩,hs',hfn,hl⟩:=leaves_stepsInM (P:=P) a2.defers (.panicking chain) w3 {b.atR a2 todo with mode:=.panicking chain} (c::cs) rfl rfl rfl hf rfl hF' hr' hq2;have hb':(F.inRound l).fn fr'.fn:=by rw[hfn];exact hF'
   exact⟨.panicked c',w4,hR,s2.trans (StepsIn.trans hs (StepsIn.trans hs' (.one (fenced_leaving hb' hr' hl) (step_leave_panicked hl))))⟩
  |outgrown=>exact hq2.elim
 |exit id=>exact hq.elim
 |goto t=>exact hq.elim
 |ret=>exact hq.elim
 |panic chain=>exact hq.elim
 |outgrown=>exact hq.elim
def ZqT(Q:AV→Za→Prop)(X:Za→Prop)(t x y l N fo:Nat)(tm:List (Nat×AV))(ps:Array Tmp)(ca cb:Code):Exit→Zb→Prop:=fun e s=>match e with
 | .panic c=>c=ch t∧X s.H
 |e=>ZiZ Q x y l N fo tm ps ca cb e s
theorem ZfH(T:TT){P:Program}{t m l:Nat}{args:List AV}{H:Za}{Q:AV→Za→Prop}{X:Za→Prop}{x y N:Nat}{f0:FuncId}{fn0:Func}{tm:List (Nat×AV)}{ps:Array Tmp}{ca cb:Code}(hf:P.funcs[f0]? =some fn0)(hH:H x y=some (.lrec l N (f0+1) tm ps ca cb .ready none))(hx:x<m)
  (hps:args.length=ps.size) (hN:∀p∈ps.toList,p<N)
  (h:∀B,AKc ⟨P,T,⟨some l,B⟩,m,N⟩ [.code ca] (fun e s=>e= .normal∧s.H x y=some (.lrec l N (f0+1) tm ps ca cb .ready none)∧
   AKc ⟨P,T,⟨some l,B⟩,m,N⟩ [.code cb] (ZqT Q X t x y l N (f0+1) tm ps ca cb) ⟨s.tmps,s.L,s.H.upd x y (.lrec l N (f0+1) tm ps ca cb .busy none)⟩) ⟨zipT ps.toList args tm,[],H⟩):Zdk P t m l args H Q X:=fun E w vs hr hv=>by
 have hfull:∀(L:List (Nat×Ze)) (H:Za),full m L H x y=H x y:=fun L H=>by simp only[full];rw[if_neg om]
 obtain⟨rc,h1,h2,h3,h4,h5,h6,h7,h8,hfo,_⟩:=hr.VG hx hH;have hfn:rc.fn=f0:=Nat.succ.inj (hfo (Nat.succ_ne_zero _));have hlen:=hv.1;have hy:=run_yield (P:=P) (args:=vs.toArray) h1 (by rw[h2,←hps,←hlen];simp);refine⟨_,_,_,_,hy,fun ro n=>?_⟩;refine ZdQ (F:=fr ro) (fn0:=fn0) trivial (by rw[hfn];exact hf) ?_;rw[h2,h3,h4];have hz:(ps.zip vs.toArray).foldl (fun tmps (p:Tmp×Value)=>tmps.setIfInBounds p.1 p.2) rc.tmps=(ps.toList.zip vs).foldl (fun a (p:Tmp×Value)=>a.setIfInBounds p.1 p.2) rc.tmps:=by
  rw[←Array.foldl_toList];simp
 have hs:Yn ⟨w.heap.size,[]⟩ m N ⟨zipT ps.toList args tm,[],H⟩ E {tmps:=(ps.zip vs.toArray).foldl (fun tmps (p:Tmp×Value)=>tmps.setIfInBounds p.1 p.2) rc.tmps,defers:=[]} w:=by
  refine⟨by rw[hz,zipT_size];exact h7,.nil _ (Qe _),fun t=>?_,hr.enter,fun l k b hl hb=>hr.out hl hb⟩;rw[hz];exact ZgQ _ _ _ _ _ hv (fun p hp=>by rw[h7];exact hN p hp) h8 t
 refine Zfj (ro:=some l) (wpIn_mono (h ⟨w.heap.size,[]⟩ E w _ hs) ?_);rintro e a1 w1 ⟨s1,E1,⟨rfl,hr1,hk⟩,hs1,hx1⟩;have hG1:full m s1.L s1.H x y=some (.lrec l N (f0+1) tm ps ca cb .ready none):=by rw[hfull];exact hr1
 obtain⟨rc1,g1,g2,g3,g4,g5,g6,g7,g8,_,g9⟩:=hs1.heap.VG (show x<m+1 by omega) hG1;obtain⟨hh,hhx⟩:=g9 .busy none;have hbe:({rc1 with state:=.busy}:Loop)={rc1 with state:=.busy,pending:=none}:=by rw[←g6]
 refine⟨_,run_beginRound g1 g5,Zfj (ro:=some l) (wpIn_mono ?_ fun _ _ _ h=>h)⟩;rw[hbe];have hbl:∀st pd,(Ze.lrec l N (f0+1) tm ps ca cb st pd).Below m:=fun st pd=>by
  have:=hs1.out x y _ hx hr1;exact⟨this.1,this.2⟩
 have hs2:Yn ⟨w.heap.size,[]⟩ m N ⟨s1.tmps,s1.L,s1.H.upd x y (.lrec l N (f0+1) tm ps ca cb .busy none)⟩ E1 a1 (w1.putObj l (.loop {rc1 with state:=.busy,pending:=none})):=by
  refine⟨hs1.size,hs1.defs.ext hhx,fun t=>(hs1.tmps t),?_,fun l' k' b hl hb=>?_⟩
  ·rw[Yj m _ _ _ _ _ om];exact hh
  ·simp only[Za.upd]at hb;split at hb
   ·cases hb;exact hbl _ _
   ·exact hs1.out l' k' b hl hb
 refine wpIn_mono (AC.run hk hs2 (hx1.trans (hhx.mono (Uj m)))) ?_;rintro e a2 w2 ⟨s2,E2,hq,hs3,hx2⟩;cases e with
 |panic c=>
  obtain⟨rfl,hX⟩:=hq;obtain⟨hl0,ml,hl1,hl2,hl3⟩:=hs3.defs;show LeavesInM _ _ _ _ _ _ a2.defers _ _;rw[hl1,Qu];refine JY ml w2 hl2 (fun D hD=>(hl3 D hD).2) hs3.heap (fun w3 k1 k2 k3 k4 k5 k6 k7=>⟨⟨_,rfl⟩,?_⟩);have hs4:Yn ⟨w.heap.size,[]⟩ m N s2 E2 {a2 with defers:=[]} w3:=⟨hs3.size,.nil _ (by rw[k7];exact hl0),hs3.tmps,k1,hs3.out⟩
  refine .inr ⟨s2.H,E2.cut m,rfl,hX,Zt.leave hs4,Zb5 hx2 (fun b hb=>k2 b (fun hm=>?_)) k3 k4 k5 k6 k7⟩;have:w.heap.size≤b:=(hl3 b hm).1;omega
 |outgrown=>exact hq.2.elim
 |normal=>
  obtain⟨hb2,hq⟩:=hq;have hG2:full m s2.L s2.H x y=some (.lrec l N (f0+1) tm ps ca cb .busy none):=by rw[hfull];exact hb2
  obtain⟨rc2,f1,f2,f3,f4,f5,f6,f7,f8,_,f9⟩:=hs3.heap.VG (show x<m+1 by omega) hG2;obtain⟨hh2,hhx2⟩:=f9 .ready none;have hs4:Yn ⟨w.heap.size,[]⟩ m N ⟨s2.tmps,s2.L,s2.H.upd x y (.lrec l N (f0+1) tm ps ca cb .ready none)⟩ E2 a2 (w2.putObj l (.loop {rc2 with state:=.ready,pending:=none})):=by
   refine⟨hs3.size,hs3.defs.ext hhx2,hs3.tmps,?_,fun l' k' b hl hb=>?_⟩
   ·rw[Yj m _ _ _ _ _ om];exact hh2
   ·simp only[Za.upd]at hb;split at hb
    ·cases hb;exact hbl _ _
    ·exact hs3.out l' k' b hl hb
  have hxx:=hx2.trans (hhx2.mono (Uj m));exact⟨_,_,run_endRound (P:=P) none f1,.inl ⟨.bool true,_,_,E2.cut m,rfl,hq,.bool _,Zt.leave hs4,Zb5 hxx (fun _ _=>rfl) rfl rfl rfl rfl rfl⟩⟩
 |ret=>
  obtain⟨hb2,hq⟩:=hq;have hG2:full m s2.L s2.H x y=some (.lrec l N (f0+1) tm ps ca cb .busy none):=by rw[hfull];exact hb2
  obtain⟨rc2,f1,f2,f3,f4,f5,f6,f7,f8,_,f9⟩:=hs3.heap.VG (show x<m+1 by omega) hG2;obtain⟨hh2,hhx2⟩:=f9 .done (some .ret);have hs4:Yn ⟨w.heap.size,[]⟩ m N ⟨s2.tmps,s2.L,s2.H.upd x y (.lrec l N (f0+1) tm ps ca cb .done (some .ret))⟩ E2 a2 (w2.putObj l (.loop {rc2 with state:=.done,pending:=some .ret})):=by
   refine⟨hs3.size,hs3.defs.ext hhx2,hs3.tmps,?_,fun l' k' b hl hb=>?_⟩
   ·rw[Yj m _ _ _ _ _ om];exact hh2
   ·simp only[Za.upd]at hb;split at hb
    ·cases hb;exact hbl _ _
    ·exact hs3.out l' k' b hl hb
  have hxx:=hx2.trans (hhx2.mono (Uj m));exact⟨_,_,run_endRound (P:=P) (some .ret) f1,.inl ⟨.bool false,_,_,E2.cut m,rfl,hq,.bool _,Zt.leave hs4,Zb5 hxx (fun _ _=>rfl) rfl rfl rfl rfl rfl⟩⟩
 |exit id=>
  obtain⟨hb2,hq⟩:=hq;have hG2:full m s2.L s2.H x y=some (.lrec l N (f0+1) tm ps ca cb .busy none):=by rw[hfull];exact hb2
  obtain⟨rc2,f1,f2,f3,f4,f5,f6,f7,f8,_,f9⟩:=hs3.heap.VG (show x<m+1 by omega) hG2;obtain⟨hh2,hhx2⟩:=f9 .done (some (.exit id));have hs4:Yn ⟨w.heap.size,[]⟩ m N ⟨s2.tmps,s2.L,s2.H.upd x y (.lrec l N (f0+1) tm ps ca cb .done (some (.exit id)))⟩ E2 a2 (w2.putObj l (.loop {rc2 with state:=.done,pending:=some (.exit id)})):=by
   refine⟨hs3.size,hs3.defs.ext hhx2,hs3.tmps,?_,fun l' k' b hl hb=>?_⟩
   ·rw[Yj m _ _ _ _ _ om];exact hh2
   ·simp only[Za.upd]at hb;split at hb
    ·cases hb;exact hbl _ _
    ·exact hs3.out l' k' b hl hb
  have hxx:=hx2.trans (hhx2.mono (Uj m));exact⟨_,_,run_endRound (P:=P) (some (.exit id)) f1,.inl ⟨.bool false,_,_,E2.cut m,rfl,hq,.bool _,Zt.leave hs4,Zb5 hxx (fun _ _=>rfl) rfl rfl rfl rfl rfl⟩⟩
 |goto l=>exact hq.2.elim
def ZaX(P:Program)(φ:Fm)(f0:FuncId)(n N:Nat)(c:Code)(Q:Exit→Zb→Prop)(s:Zb):Prop:=
 ∀E w a,Yn φ.B n N s E a w→ ∀(b:Frame) (k:List Item) (cs:List Frame),b.fn=f0→b.roundOf=φ.ro→
  ∃e a' w',(∃s' E',Q e s'∧Yn φ.B n N s' E' a' w'∧Ext n E w E' w')∧ArrivesIn (Machine.fenced P (fr φ.ro)) P (lone (b.atR a (.code c::k)) cs w) b k cs e a' w'
def Zf6(P:Program)(φ:Fm)(f0:FuncId)(n N:Nat)(Q:Exit→Zb→Prop):List Itm→Exit→Zb→Prop
 |[],e,s=>Q e s
 | .code d::k,e,s=>match e with
  | .normal=>ZaX P φ f0 n N d (Zf6 P φ f0 n N Q k) s
  |e=>Zf6 P φ f0 n N Q k e s
 | .blk id::k,e,s=>match e with
  | .exit id'=>if id'=id then Zf6 P φ f0 n N Q k .normal s else Zf6 P φ f0 n N Q k (.exit id') s
  |e=>Zf6 P φ f0 n N Q k e s
def Zbo(P:Program)(φ:Fm)(f0:FuncId)(n N:Nat)(k:List Itm)(Q:Exit→Zb→Prop)(s:Zb):Prop:=Zf6 P φ f0 n N Q k .normal s
section
variable {P:Program} {φ:Fm} {f0:FuncId} {n N:Nat} {Q Q':Exit→Zb→Prop} {s:Zb} {k:List Itm}
theorem calm{ro:Option Nat}{b:Frame}{a:Act}{todo:List Item}{cs:List Frame}{w:World}(h:(b.atR a todo).about P w=none):(lone (b.atR a todo) cs w).fenced P (fr ro):=
 fenced_calm (n:=0) trivial (Zb6 _ _) h
theorem ZaX.mono{c:Code}(h:ZaX P φ f0 n N c Q s)(hq:∀e s',Q e s'→Q' e s'):ZaX P φ f0 n N c Q' s:=fun E w a hs b k cs h1 h2=>by
 obtain⟨e,a',w',⟨s',E',hQ,r⟩,harr⟩:=h E w a hs b k cs h1 h2;exact⟨e,a',w',⟨s',E',hq _ _ hQ,r⟩,harr⟩
theorem ZmN{c:Code}(h:AC P φ n N c Q s):ZaX P φ f0 n N c Q s:=fun E w a hs b k cs _ h2=>h E w a hs b k cs h2 trivial (Zb6 _ _)
theorem ZaX.seq{x y:Code}(h:ZaX P φ f0 n N x (fun e s'=>match e with| .normal=>ZaX P φ f0 n N y Q s'|e=>Q e s') s):ZaX P φ f0 n N (.seq x y) Q s:=fun E w a hs b k cs h1 h2=>by
 have i0:(lone (b.atR a (.code (.seq x y)::k)) cs w).fenced P (fr φ.ro):=calm rfl;obtain⟨e,a1,w1,⟨s1,E1,hq,hs1,hx1⟩,harr⟩:=h E w a hs b (.code y::k) cs h1 h2;cases e with
 |normal=>
  obtain⟨e2,a2,w2,⟨s2,E2,hq2,hs2,hx2⟩,harr2⟩:=hq E1 w1 a1 hs1 b k cs h1 h2;exact⟨e2,a2,w2,⟨s2,E2,hq2,hs2,hx1.trans hx2⟩,.of_steps (.head i0 stepR_seq harr) harr2⟩
 |exit id=>exact⟨_,a1,w1,⟨s1,E1,hq,hs1,hx1⟩,.of_steps (.one i0 stepR_seq) (.pass (x:=.code y) rfl (fun _ _=>.inl sm) harr)⟩
 |goto l=>exact⟨_,a1,w1,⟨s1,E1,hq,hs1,hx1⟩,.of_steps (.one i0 stepR_seq) (.pass (x:=.code y) rfl (fun _ _=>.inl sm) harr)⟩
 |ret=>exact⟨_,a1,w1,⟨s1,E1,hq,hs1,hx1⟩,.of_steps (.one i0 stepR_seq) (.pass (x:=.code y) rfl (fun _ _=>.inl sm) harr)⟩
 |panic ch=>exact⟨_,a1,w1,⟨s1,E1,hq,hs1,hx1⟩,.of_steps (.one i0 stepR_seq) (.pass (x:=.code y) rfl (fun _ _=>.inl sm) harr)⟩
 |outgrown=>exact⟨_,a1,w1,⟨s1,E1,hq,hs1,hx1⟩,.of_steps (.one i0 stepR_seq) (.pass (x:=.code y) rfl (fun _ _=>.inl sm) harr)⟩
theorem Zdg{c:Code}(hc:c= .seq c.fst c.snd)(h:Zbo P φ f0 n N (.code c.fst:: .code c.snd::k) Q s):Zbo P φ f0 n N (.code c::k) Q s:=by
 rw[hc];exact ZaX.seq (ZaX.mono h fun e s' hq=>by cases e<;>exact hq)
theorem ZqM{T:TT}{c:Code}(h:AKc ⟨P,T,φ,n,N⟩ [.code c] (Zf6 P φ f0 n N Q k) s):Zbo P φ f0 n N (.code c::k) Q s:=ZmN (AC.mono h fun _ _ h=>h)
theorem ZcM{c:List PanicEntry}(h:Q (.panic c) s):∀k,Zf6 P φ f0 n N Q k (.panic c) s
 |[]=>h
 | .code _::k=>ZcM h k
 | .blk _::k=>ZcM h k
end
theorem ZfD{P:Program}{T:TT}{t n:Nat}{f:FuncId}{fn:Func}{c:Code}{args:List AV}{H:Za}{Q:AV→Za→Prop}{X:Za→Prop}(hT:TOK P T)(hf:Fun P f fn c)(hN:args.length≤fn.ntmps)
  (h:∀B,Zbo P ⟨none,B⟩ f n fn.ntmps [.code c] (Zec P T t n fn.results.toList Q X) ⟨numbered 0 args,[],H⟩):Z9 P t n f args H Q X:=fun E w vs hr hv=>by
 refine(callsIn_wide (n:=0)).1 ⟨trivial,fun cs hroom=>?_⟩
 let b:Frame:={(default:Frame)with fn:=f,kind:=.normal,roundOf:=none}
 have henter:Frame.enter P f vs.toArray .normal=
   b.atR {tmps:=vs.toArray++Array.replicate (fn.ntmps - vs.toArray.size) undef,defers:=[]} [.code c]:=by
  simp[Frame.enter,Frame.atR,hf.get,hf.body,b]
 obtain⟨e,a',w',⟨s',E',hQ,hs',hx⟩,harr⟩:=h ⟨w.heap.size,[]⟩ E w _ (Yn.start hr hv hN) b [] cs rfl rfl;rw[←henter]at harr;cases e with
 |normal=>
  obtain⟨e',w'',fr',hR,hs,hfn,hl⟩:=leaves_stepsInM (F:=Fence.wide) (n:=0) a'.defers .returning w' {b.atR a' []with mode:=.returning} cs rfl rfl rfl hf.get rfl trivial hroom (Jr hT rfl hs' hx hQ);exact⟨e',w'',fr',hR,ComesIn.of_steps (StepsIn.trans harr (.one (fenced_calm (fr:=b.atR a' []) (n:=0) trivial hroom rfl) (stepR_end rfl))) hs,hfn,hl⟩
 |ret=>
  obtain⟨todo,hs0⟩:=harr.1 rfl;obtain⟨e',w'',fr',hR,hs,hfn,hl⟩:=leaves_stepsInM (F:=Fence.wide) (n:=0) a'.defers .returning w' {b.atR a' todo with mode:=.returning} cs rfl rfl rfl hf.get rfl trivial hroom (Jr hT rfl hs' hx hQ);exact⟨e',w'',fr',hR,ComesIn.of_steps hs0 hs,hfn,hl⟩
 |panic chain=>
  obtain⟨rfl,hX⟩:=hQ;obtain⟨todo,hs0⟩:=harr;obtain⟨e',w'',fr',hR,hs,hfn,hl⟩:=leaves_stepsInM (F:=Fence.wide) (n:=0) a'.defers (.panicking (ch t)) w' {b.atR a' todo with mode:=.panicking (ch t)} cs rfl rfl rfl hf.get rfl trivial hroom (ZeU rfl hs' hx hX);exact⟨e',w'',fr',hR,ComesIn.of_steps hs0 hs,hfn,hl⟩
 |exit id=>exact hQ.elim
 |goto l=>exact hQ.elim
 |outgrown=>exact hQ.elim
theorem ZbM{P:Program}{T:TT}{B:Base}{t n N:Nat}{f0:FuncId}{g:Operand}{ps:Array Tmp}{c:Code}{k:List Itm}{Q:Exit→Zb→Prop}{s:Zb}{gf:FuncId}{fn:Func}{c':Code}{caps:List AV}(y:Nat)
  (hcc:c= .rangeFunc g ps c.fst c.snd) (hg:evT s.tmps g= .fn (.func gf) caps) (hf:Fun P gf fn c') (hy:lkb s.L y=none)
  (h:∀l,∃Qc Xc,Z9 P t (n+1) gf ([.fn (.yield l) []]++caps) (full n (setb s.L y (.lrec l N (f0+1) s.tmps ps c.fst c.snd .ready none)) s.H) Qc Xc∧
   (∀r H1,Qc r H1→ ∃L1 H2 st,H1=full n L1 H2∧ZL n s.H H2∧lkb L1 y=some (.lrec l N (f0+1) s.tmps ps c.fst c.snd st none)∧st≠ .busy∧
    Zbo P ⟨none,B⟩ f0 n N k Q ⟨s.tmps,setb L1 y (.lrec l N (f0+1) s.tmps ps c.fst c.snd .exhausted none),H2⟩)∧
   (∀H1,Xc H1→ ∃L1 H2,H1=full n L1 H2∧ZL n s.H H2∧Q (.panic (ch t)) ⟨s.tmps,L1,H2⟩)):
  Zbo P ⟨none,B⟩ f0 n N (.code c::k) Q s:=fun E w a hs b k0 cs hbf hro=>by
 generalize hca:c.fst=ca at*;generalize hcb:c.snd=cb at*;subst hcc;have hgv:=Zdp hs.tmps g;rw[hg]at hgv;generalize hgy:a.eval g=gy at hgv;cases hgv with|fn _ _ vs hl hvs=>
 obtain⟨W0,hW0⟩:∃W0,w.alloc (.deferred (some []))=W0:=⟨_,rfl⟩
 have hsz0:W0.heap.size=w.heap.size+1:=by rw[←hW0];simp
 have hold0:∀b,b<w.heap.size→W0.heap[b]? =w.heap[b]?:=fun b hb=>by
  rw[←hW0];simp only[World.alloc,U1];rw[if_neg om]
 have hD0:W0.heap[w.heap.size]? =some (.deferred (some [])):=by rw[←hW0];exact World.alloc_heap_new w _
 obtain⟨r0,x0⟩:=hs.heap.grow (w':=W0) (F':=E.F) (by rw[←hW0];rfl) (by rw[←hW0];rfl) (by rw[←hW0];rfl) (fun _=>by rw[←hW0];exact Qe _) om hold0 (fun _ _ _ h=>h)
  (fun b o v hf=>by
   have hlt:=hs.heap.Zco hf;have:=hs.heap.F b o v hf;simp only[World.cell?,hold0 b hlt]at this⊢;exact this) (fun _ _ _=>rfl)
 have hfree:full n s.L s.H n y=none:=by simp only[full,if_true];exact hy
 obtain⟨rc,hrc⟩:∃rc:Loop,rc={state:=.ready,pending:=none,fn:=b.fn,tmps:=a.tmps,params:=ps,assign:=ca,body:=cb,defers:=w.heap.size}:=⟨_,rfl⟩
 have hnew:(W0.alloc (.loop rc)).heap[W0.heap.size]? =some (.loop rc):=World.alloc_heap_new _ _;have hle0:E.le (n+1) (E.XZ n y W0.heap.size):=by
  refine⟨fun _ _ _ h=>h,fun l' k' b _ hm=>?_,fun _ _ _ _ _ h=>h,rfl⟩;simp only[Env.XZ];rw[if_neg (fun hc=>by rw[hc.1,hc.2,(hs.heap.dom n y (Qr n) hfree).1]at hm;cases hm)];exact hm
 obtain⟨r1,x1⟩:=r0.Zdi (l:=n) (k:=y) (Qr n) hfree (.loop rc) (.lrec W0.heap.size N (f0+1) s.tmps ps ca cb .ready none) (by
  refine⟨by simp[Env.XZ],rc,hnew,by rw[hrc],by rw[hrc],by rw[hrc],by rw[hrc],by rw[hrc],by rw[hrc];exact hs.size,fun t=>?_,fun _=>by rw[hrc];exact congrArg Nat.succ hbf⟩;rw[hrc];exact(hs.tmps t).mono hs.heap.norm hle0)
 have hx1:=(x0.trans x1)
 obtain⟨Qc,Xc,hc,hk,hX⟩:=h W0.heap.size;rw[Zm]at hc;have hl0:w.heap.size+1=W0.heap.size:=hsz0.symm;have hvs1:VRs (E.XZ n y W0.heap.size) ([.fn (.yield W0.heap.size) []]++caps) ([.func (.yield W0.heap.size) #[] #[]]++vs):=
  VRs.append (VRs.cons (VR.fn _ [] [] rfl (fun i h=>absurd h (Qm _))) (VRs.nil _)) ((show VRs E caps vs from⟨hl,hvs⟩).mono hs.heap.norm hle0)
 have hcall:=(callsIn_wide (n:=0)).2 (hc _ _ _ r1 hvs1);rw[show([Value.func (.yield W0.heap.size) #[] #[]]++vs).toArray= #[.func (.yield W0.heap.size) #[] #[]]++vs.toArray by simp]at hcall;have henter:step P (lone (b.atR a (.code (.rangeFunc g ps ca cb)::k0)) cs w)=
   .next (lone (Frame.enter P gf (#[.func (.yield W0.heap.size) #[] #[]]++vs.toArray) .normal) (b.atR {a with defers:=[mark w.heap.size]++a.defers} (.inRangeFunc W0.heap.size::k0)::cs) (W0.alloc (.loop rc))):=by
  refine stepR_rangeFunc (l:=W0.heap.size) (mark:=[mark w.heap.size]) (w₁:=W0.alloc (.loop rc)) (d:={target:=.fn (.func gf) vs.toArray,args:=#[.func (.yield W0.heap.size) #[] #[]]}) (w₁':=W0.alloc (.loop rc)) ?_ ?_ ?_
  ·rw[hro,←hl0,hrc,←hW0];exact run_enterLoop_outer _ _ _ _ _
  ·simp only[resolve,rangeCall,hgy];simp[go_sem]
  ·simp[invoke,Y4 hf]
 have i0:(lone (b.atR a (.code (.rangeFunc g ps ca cb)::k0)) cs w).fenced P (fr none):=fenced_lone (.inl trivial) (fun _ _=>trivial) (Zb6 _ _);obtain⟨e,w3,fr3,hR,hsteps,hfn,hleave⟩:=hcall.2 (b.atR {a with defers:=[mark w.heap.size]++a.defers} (.inRangeFunc W0.heap.size::k0)::cs) (room_wide _);have hlW:∀b,b<W0.heap.size→(W0.alloc (.loop rc)).heap[b]? =W0.heap[b]?:=fun b hb=>by
  simp only[World.alloc,U1];rw[if_neg om]
 have hDn:¬(E.XZ n y W0.heap.size).own w.heap.size:=by
  rintro(⟨l',k',hm⟩|⟨l',k',hm⟩)
  ·simp only[Env.XZ]at hm;split at hm
   ·simp only[Qq]at hm;omega
   ·have:=hs.heap.lt _ (.inl ⟨_,_,hm⟩);omega
  ·have:=hs.heap.lt _ (.inr ⟨_,_,hm⟩);omega
 have defs:∀E4 w4,Ext (n+1) (E.XZ n y W0.heap.size) (W0.alloc (.loop rc)) E4 w4→Zcs B E4 (mark w.heap.size::a.defers) w4:=fun E4 w4 hx4=>by
  have hxa:=hx1.trans hx4;obtain⟨e0,l2,e1,e2,e3⟩:=hs.defs.ext hxa;have hlt2:∀D∈l2,D<w.heap.size:=fun D hD=>by
   obtain⟨_,l3,c1,c2,c3⟩:=hs.defs;rw[e1,QaM]at c1;have inj:∀(a b:List Nat),a.map mark=b.map mark→a=b:=by
    intro a;induction a with
    |nil=>intro b hb;cases b with
     |nil=>rfl
     |cons _ _=>cases hb
    |cons x a ih=>intro b hb;cases b with
     |nil=>cases hb
     |cons z b=>
      simp only[Qs,Ub,mark,Deferred.mk.injEq,Target.collected.injEq,and_true]at hb;rw[hb.1,ih b hb.2]
   exact(QN.1 (c3 _ (inj _ _ c1▸hD)).2.1).1
  have hd0:w4.heap[w.heap.size]? =some (.deferred (some [])):=(hx4.block _ (by simp;omega) hDn).trans ((hlW _ om).trans hD0);refine⟨e0,w.heap.size::l2,by rw[e1];rfl,Gm.2 ⟨fun hm=>absurd (hlt2 _ hm) (Uh _),e2⟩,fun D hD=>?_⟩;rcases Qk.1 hD with rfl|hD
  ·exact⟨hs.defs.1,hd0,fun ho=>hDn (hx4.own _ (by simp;omega) ho)⟩
  ·exact e3 D hD
 rcases hR with⟨r,v,H1,E3,rfl,hq,hv3,hh3,hx3⟩|⟨H1,E3,rfl,hq,hh3,hx3⟩
 ·obtain⟨L1,H2,st,rfl,ho,hl1,hst,hkk⟩:=hk _ _ hq;have hG:full n L1 H2 n y=some (.lrec W0.heap.size N (f0+1) s.tmps ps ca cb st none):=by simp only[full,if_true];exact hl1
  obtain⟨rc3,f1,f2,f3,f4,f5,f6,f7,f8,_,f9⟩:=hh3.VG (Qr n) hG;obtain⟨hh4,hx4⟩:=f9 .exhausted none;have hend:=run_endLoop (P:=P) f1 (by rw[f5];exact hst);rw[f6]at hend;have hxa:=(hx1.trans hx3).trans hx4;have hs4:Yn B n N ⟨s.tmps,setb L1 y (.lrec W0.heap.size N (f0+1) s.tmps ps ca cb .exhausted none),H2⟩ E3 {a with defers:=[mark w.heap.size]++a.defers} (w3.putObj W0.heap.size (.loop {rc3 with state:=.exhausted,pending:=none})):=
   ⟨hs.size,defs _ _ (hx3.trans hx4),fun t=>(hs.tmps t).mono hs.heap.norm (hx1.trans hx3).le,by rw[Zm];exact hh4,Yn.Wx hs.out ho⟩
  have i1:(lone fr3 (b.atR {a with defers:=[mark w.heap.size]++a.defers} (.inRangeFunc W0.heap.size::k0)::cs) w3).fenced P (fr none):=fenced_leaving (n:=0) trivial (Zb6 _ _) hleave;have sback:StepsIn (Machine.fenced P (fr none)) P (lone (b.atR a (.code (.rangeFunc g ps ca cb)::k0)) cs w) (lone (b.atR {a with defers:=[mark w.heap.size]++a.defers} k0) cs (w3.putObj W0.heap.size (.loop {rc3 with state:=.exhausted,pending:=none}))):=by
   have hb1:=step_leave_returned (c:=b.atR {a with defers:=[mark w.heap.size]++a.defers} (.inRangeFunc W0.heap.size::k0)) (cs:=cs) hleave;rw[finish_atR_inRangeFunc]at hb1;have hb2:=stepR_endRangeFunc (P:=P) (b:=b) (a:={a with defers:=[mark w.heap.size]++a.defers}) (k:=k0) (cs:=cs) hend;simp only[Qbf,Option.toList_none,QY]at hb2;exact .head i0 henter (StepsIn.trans hsteps (.head i1 hb1 (.one (calm rfl) hb2)))
  have hsuf:∃e a' w',(∃s' E',Zf6 P ⟨none,B⟩ f0 n N Q k e s'∧Yn B n N s' E' a' w'∧Ext n E w E' w')∧ArrivesIn (Machine.fenced P (fr none)) P (lone (b.atR a (.code (.rangeFunc g ps ca cb)::k0)) cs w) b k0 cs e a' w':=
   ⟨.normal,_,_,⟨_,E3,hkk,hs4,hxa.mono (Uj n)⟩,sback⟩
  exact hsuf
 ·obtain⟨L1,H2,rfl,ho,hXQ⟩:=hX _ hq;have i1:(lone fr3 (b.atR {a with defers:=[mark w.heap.size]++a.defers} (.inRangeFunc W0.heap.size::k0)::cs) w3).fenced P (fr none):=fenced_leaving (n:=0) trivial (Zb6 _ _) hleave;have hs4:Yn B n N ⟨s.tmps,L1,H2⟩ E3 {a with defers:=[mark w.heap.size]++a.defers} w3:=
   ⟨hs.size,defs _ _ hx3,fun t=>(hs.tmps t).mono hs.heap.norm (hx1.trans hx3).le,hh3,Yn.Wx hs.out ho⟩
  refine⟨.panic (ch t),_,w3,⟨_,E3,ZcM hXQ k,hs4,(hx1.trans hx3).mono (Uj n)⟩,.inRangeFunc W0.heap.size::k0,.head i0 henter (StepsIn.trans hsteps (.one i1 ?_))⟩;rw[←Frame.raise_atR];exact step_leave_panicked hleave
end Go.Abs

namespace Go.Proofs.YtmdeagmbfhbbnaaGreatDoorR
open Go.Abs
set_option maxRecDepth 100000
def low(n:Nat)(A G:Za):Za:=fun a b=>if a<n then A a b else G a b
section
variable {A G:Za} {n:Nat}
theorem ZcN{a:Nat}(h:a<n)(b:Nat):low n A G a b=A a b:=if_pos h
theorem JF{a:Nat}(h:¬a<n)(b:Nat):low n A G a b=G a b:=if_neg h
theorem Zmv(n:Nat)(A B G:Za):low n A (low n B G)=low n A G:=by
 funext a b;unfold low;split<;>rfl
theorem Zmr(n l k:Nat)(A G:Za)(x:Ze)(h:¬l<n):low n A (G.upd l k x)=(low n A G).upd l k x:=by
 funext a b;unfold low Za.upd;by_cases ha:a<n
 ·have:¬(a=l∧b=k):=fun c=>h (c.1▸ha)
  simp[ha,this]
 ·simp[ha]
theorem ZkI(h:∀a b,a<n→G a b=A a b):low n A G=G:=by
 funext a b;unfold low;split
 ·rename_i ha;exact(h a b ha).symm
 ·rfl
variable {m:Nat}
theorem Wv(hm:n≤m)(L:List (Nat×Ze))(A G:Za):full m L (low n A G)=low n A (full m L G):=by
 funext a b;unfold full low;by_cases ha:a=m
 ·subst ha;simp[show¬a<n by omega]
 ·simp[ha]
theorem Zfm(H:Za)(l k:Nat)(x y:Ze):(H.upd l k x).upd l k y=H.upd l k y:=by
 funext a b;unfold Za.upd;split<;>rfl
theorem ZM{c:AV}(h:Below n c):Below n (.iptr [c]):=Zl (cs:=[c]) ⟨h,trivial⟩
theorem Zfg{cx:Cx}{t:Nat}{o:Oper}{g:Operand}{args:List Operand}{ts:List TypeId}{s:Zb}{F XF:Zb→Prop}{f:FuncId}{fn:Func}{c:Code}{avs caps:List AV}{Qc:AV→Za→Prop}{Xc:Za→Prop}(hg:evT s.tmps g= .fn (.func f) caps)(hf:Fun cx.P f fn c)(hc:Z9 cx.P t (cx.n+1) f avs (full cx.n s.L s.H) Qc Xc)(ha:Yo cx.T (evT s.tmps) args ts++caps=avs)
  (hq:∀r H1,Qc r H1→ ∃L' H',H1=full cx.n L' H'∧ZL cx.n s.H H'∧F ⟨Yl s.tmps o.dst r,L',H'⟩) (hx:∀H1,Xc H1→ ∃L' H',H1=full cx.n L' H'∧ZL cx.n s.H H'∧XF ⟨s.tmps,L',H'⟩):ZfX cx t o g args ts s F XF:=
 ⟨Qc,Xc,.inl ⟨f,fn,c,caps,hg,hf,by rw[ha];exact hc⟩,hq,hx⟩
def Zd8(k:Nat)(y:AV):Prop:=y.cells.length=k∧ ∀m,∀c∈y.cells,Below m c
def Zn1(k:Nat)(l:List AV)(n:Nat):Prop:=l.length=n∧ ∀y∈l,Zd8 k y
variable {l:List AV} {k i:Nat}
theorem J6{e:Nat}(h:∀y∈l,Zd8 k y):Ze.Below m (.Zg e k (flat l) i):=⟨fun c hc=>by
 obtain⟨y,hy,hc⟩:=Qz.1 hc;exact(h y hy).2 m c hc,by simp[Ze.at_]⟩
variable {α:Type}
theorem Zcg{enc:α→AV}(hk:∀x,Zd8 k (enc x)){p:List α}(h:∀y∈l,Zd8 k y):∀y∈p.map enc++l,Zd8 k y:=fun y hy=>by
 rcases Qj.1 hy with hy|hy
 ·obtain⟨x,_,rfl⟩:=Qb.1 hy;exact hk x
 ·exact h y hy
structure ZnF {St α:Type} (n l N e k:Nat) (enc:α→AV) (A:St→Za) (step:St→List α→Option St) (ok:St→List α→Prop):Prop where
 call:∀m G σ (row:List α),ok σ row→n<m→row.length=N→(∀a b,a<n→G a b=A σ a b)→G n 7=some (.Zg e k (flat (row.map enc)) N)→
  Zdk Tryz.prog 197 m l [.msl k n 7 N] G (fun r G'=>∃σ',step σ row=some σ'∧r= .bool true∧G'=low n (A σ') G) (fun G'=>step σ row=none∧ ∃σ',G'=low n (A σ') G)
 blw:∀σ σ' a b x,a<n→A σ' a b=some x→A σ a b=some x∨x.Below n
 el:∀x:α,Zd8 k (enc x)
def eIs(l:List Int):AV:=.sl 1 (l.map eInt) .any
theorem Zaa(n:Nat)(l:List Int):Below n (eIs l):=Zax l
theorem Zn0(l:List Int):(eIs l).cells=[eIs l]:=rfl
theorem Zqo(l:List Int):(eIs l).one=true:=rfl
attribute [go_sem] Zn0 Zqo
variable {St:Type}
theorem VE{A:St→Za}(hb:∀σ σ' a b x,a<n→A σ' a b=some x→A σ a b=some x∨x.Below n)(hm:n≤m){σ:St}(hA:∀a b,a<n→G a b=A σ a b)(σ':St):ZL m G (low n (A σ') G):=fun a b x ha hx=>by
 by_cases h:a<n
 ·rw[ZcN h]at hx;rcases hb σ σ' a b x h hx with h1|h1
  ·exact .inl ((hA a b h).trans h1)
  ·exact .inr ⟨fun v hv=>(h1.1 v hv).mono hm,fun q hq=>Ui (h1.2 q hq) hm⟩
 ·rw[JF h]at hx;exact .inl hx
theorem fold_at(f:St→α→Option St){q:List α}{σ τ:St}(h:i<q.length)(hf:(q.take i).foldlM f σ=some τ):q.foldlM f σ=(f τ q[i]).bind fun u=>(q.drop (i+1)).foldlM f u:=by
 conv=>lhs;rw[←QX i q,Qaq,hf,Qw h]
 rfl
theorem Zd7(f:St→α→Option St){q:List α}{σ τ:St}(h:i<q.length)(hf:(q.take i).foldlM f σ=some τ):(q.take (i+1)).foldlM f σ=f τ q[i]:=by
 rw[Qn h,Qaq,hf];show(List.foldlM f τ [q[i]])=_;rw[Me];cases f τ q[i]<;>rfl
theorem ZmK(h:∀y∈l,Zd8 k y):(flat l).length=l.length*k:=flat_length (k:=k) fun y hy=>(h y hy).1
theorem Zmh{enc:α→AV}(hk:∀x,Zd8 k (enc x))(p:List α)(y:AV)(hy:Zd8 k y)(x:α)(rs:List AV):
  (flat (p.map enc++y::rs)).take (p.length*k)++((enc x).cells++(flat (p.map enc++y::rs)).drop (p.length*k+k))=flat ((p++[x]).map enc++rs):=by
 have hl:(flat (p.map enc)).length=p.length*k:=by rw[flat_length (k:=k) (fun y hy=>by obtain⟨z,_,rfl⟩:=Qb.1 hy;exact(hk z).1),Qv]
 simp only[QG,Qs,YU,Yt,Uy,flat_nil,Qu];rw[MW hl,←List.drop_drop,Qao hl,Qao hy.1,Q7]
def WQ{St α:Type}(step:St→List α→Option St)(p:List α)(ls:List (List α))(σ:St):Option St:=(Ye ls).foldlM (fun σ r=>step σ (p++r)) σ
theorem Zb8(step:St→List α→Option St)(p:List α)(σ:St):WQ step p [] σ=step σ p:=by
 simp[WQ,Ye]
theorem JH(step:St→List α→Option St)(p q:List α)(ls:List (List α))(σ:St):WQ step p (q::ls) σ=q.foldlM (fun σ x=>WQ step (p++[x]) ls σ) σ:=by
 unfold WQ;rw[Ye];induction q generalizing σ with
 |nil=>rfl
 |cons x q ih=>
  rw[QS,Qaq,Me,List.foldlM_map];simp only[Q7,List.singleton_append]at ih⊢;cases(Ye ls).foldlM (fun σ r=>step σ (p++x::r)) σ with
  |none=>rfl
  |some τ=>exact ih τ
theorem ZlR{q:List α}(h:i<q.length){ls:List (List α)}{pr:List (List α)}{r:List α}{po:List (List α)}(e:Ye ls=pr++r::po):Ye (q::ls)=(Ye (q.take i::ls)++pr.map (q[i]:: ·))++(q[i]::r)::(po.map (q[i]:: ·)++Ye (q.drop (i+1)::ls)):=by
 have:Ye (q::ls)=Ye (q.take i::ls)++(Ye ls).map (q[i]:: ·)++Ye (q.drop (i+1)::ls):=by
  simp only[Ye]
  conv=>lhs;rw[←QX i q,Qw h]
  rw[Ur,QS];simp
 rw[this,e];simp
theorem ZpA{step:St→List α→Option St}{ok:St→List α→Prop}{p q:List α}{ls:List (List α)}{σ σi:St}(h:i<q.length)(hok:∀pr r po σ',Ye (q::ls)=pr++r::po→pr.foldlM (fun σ r=>step σ (p++r)) σ=some σ'→ok σ' (p++r))
  (hf:(q.take i).foldlM (fun σ x=>WQ step (p++[x]) ls σ) σ=some σi):∀pr r po σ',Ye ls=pr++r::po→pr.foldlM (fun σ r=>step σ (p++[q[i]]++r)) σi=some σ'→ok σ' (p++[q[i]]++r):=fun pr r po σ' e1 e2=>by
 have:=hok _ (q[i]::r) _ σ' (ZlR h e1) (by
  have h1:(Ye (q.take i::ls)).foldlM (fun σ r=>step σ (p++r)) σ=some σi:=(JH step p (q.take i) ls σ).trans hf;rw[Qaq,h1];show(pr.map (q[i]:: ·)).foldlM _ σi=_;rw[List.foldlM_map];simpa using e2)
 simpa using this
def ZoF(_:Int):List (Nat×Ze):=[]
def Zpi(x:Tm):List (Nat×Ze):=[(8,.box [.int .u8 x.kind,.int .i64 x.num,.str x.name,.sl 4 (x.args.map Tm.enc) .any])]
theorem ZoJ(x:Int)(D:List AV):(eInt x).cells++D= .int .i64 x::D:=rfl
theorem Zoz(x:Tm)(D:List AV):x.enc.cells++D= .int .u8 x.kind:: .int .i64 x.num:: .str x.name:: .sl 4 (x.args.map Tm.enc) .any::D:=by rw[Tm.Xl];rfl
def W9(ls:List (List Int))(n l N:Nat):List AV:=[.iptr [.sl 1 (ls.map eIs) .any],.iptr [.fn (.yield l) []],.iptr [.msl 1 n 7 N],.ptr n 4 0]
def Zos(p:List Int)(q:List Int)(lists:List (List Int))(n l N i:Nat)(H:Za):Zb:=⟨[(21,.int .i64 i),(20,.int .i64 q.length),(19,.sl 1 (q.map eInt) .any),(0,.int .i64 p.length),(1,.iptr [.sl 1 (lists.map eIs) .any]),(2,.iptr [.fn (.yield l) []]),(3,.iptr [.msl 1 n 7 N]),(4,.ptr n 4 0)],[],H⟩
theorem e258{St:Type}{n l N:Nat}{A:St→Za}{step:St→List Int→Option St}{ok:St→List Int→Prop}(hy:ZnF n l N 3 1 eInt A step ok)(lists:List (List Int))(hN:lists.length=N)(hlen:N≤1000000)(hl:∀q∈lists,q.length≤1000000):
  ∀(ls pre:List (List Int)) (p:List Int) (rest:List AV) (σ:St) (m:Nat) (G:Za),lists=pre++ls→pre.length=p.length→Zn1 1 rest ls.length→n<m→(∀a b,a<n→G a b=A σ a b)→G n 7=some (.Zg 3 1 (flat (p.map eInt++rest)) N)→G n 4=some (.box [.fn (.func 258) (W9 lists n l N)])→(∀pr r po σ',Ye ls=pr++r::po→pr.foldlM (fun σ r=>step σ (p++r)) σ=some σ'→ok σ' (p++r))→
   Z9 Tryz.prog 197 m 258 (.int .i64 p.length::W9 lists n l N) G
    (fun r G'=>∃σ' rest',WQ step p ls σ=some σ'∧Zn1 1 rest' ls.length∧r= .bool true∧G'=(low n (A σ') G).upd n 7 (.Zg 3 1 (flat (p.map eInt++rest')) N))
    (fun G'=>WQ step p ls σ=none∧ ∃σ' b,G'=(low n (A σ') G).upd n 7 b∧b.Below (n+1))
 |[],pre,p,rest,σ,m,G,e,hp,hr,hm,hA,h7,h4,hok=>by
  have hpl:(p.length:Nat)=N:=by rw[←hN,e,Qu,hp]
  have hrn:rest=[]:=Gh.1 hr.1;subst hrn;rw[Qu]at h7;refine ZkF tok (Zf Tryz.func258 rfl rfl) (by simp[W9]) fun B=>?_
  unfold W9;refine nR ?_;refine nR ?_;refine VK rfl rfl (by simp only[go_sem,simprocAttr,hpl,hN,beq_self_eq_true]) ?_;refine kK ?_;refine Yx 197 tok (pre:=[_,_]) (post:=[_]) rfl rfl rfl rfl ?_;refine aS ?_;refine⟨_,_,.inr ⟨l,rfl,hy.call (m+1) _ σ (p++[]) (hok [] [] [] σ rfl rfl) om (by rw[Qu];exact hpl) (fun a b ha=>by rw[Zj (by exact Qbc ha hm)];exact hA a b ha) (by rw[Zj (by exact hm),Qu];exact h7)⟩,?_,?_⟩
  ·rintro r H1 ⟨σ',hs,rfl,rfl⟩;refine⟨[],low n (A σ') G,Wv (Md hm) _ _ _|>.symm,VE hy.blw (Md hm) hA _,?_⟩;refine aS ?_;refine nV ?_;refine Vk (Zo (v:=.bool true) (.refl _) (.bool _) ⟨σ',[],by rw[Zb8,←hs,Qu],⟨rfl,fun _ h=>by cases h⟩,rfl,?_⟩);rw[Yd];rw[JF (Uh n),h7,Qu]
  ·rintro H1 ⟨hs,σ',rfl⟩;refine⟨[],low n (A σ') G,Wv (Md hm) _ _ _|>.symm,VE hy.blw (Md hm) hA _,rfl,by rw[Zb8,←hs,Qu],σ',_,(Yd (JF (Uh n) _|>.trans h7)).symm,J6 fun y h=>by obtain⟨x,_,rfl⟩:=Qb.1 h;exact hy.el x⟩
 |q::ls,pre,p,rest,σ,m,G,e,hp,hr,hm,hA,h7,h4,hok=>by
  have hpl:p.length<N:=by rw[←hN,e,Qh,hp];simp
  have hq:q.length≤1000000:=hl q (by rw[e];simp);have hne:((p.length:Int)==(lists.length:Int))=false:=by rw[hN];simp;omega
  have hgq:lists[p.length]? =some q:=by rw[e,←hp];simp
  have hgD:(lists.map eIs).getD p.length .dead= .sl 1 (q.map eInt) .any:=by rw[Qp,QZ,hgq];rfl
  have hpa:p.length<lists.length:=by omega
  refine ZkF tok (Zf Tryz.func258 rfl rfl) (by simp[W9]) fun B=>?_
  unfold W9;refine nR ?_;refine nq hne ?_;refine nF ?_;refine nq2 hgD hpa ?_;refine kK ?_;refine Zal (fun μ s=>∃i σi rest',i≤q.length∧μ=q.length - i∧Zn1 1 rest' (ls.length+1)∧(q.take i).foldlM (fun σ x=>WQ step (p++[x]) ls σ) σ=some σi∧s=Zos p q lists n l N i ((low n (A σi) G).upd n 7 (.Zg 3 1 (flat (p.map eInt++rest')) N))) (m0:=q.length) (s0:=Zos p q lists n l N 0 G) rfl ?_ ⟨0,σ,rest,Un _,rfl,hr,rfl,by rw[ZkI hA,Yd h7]⟩ ?_
  ·refine Zh ?_ ?_ ?_ ?_<;>repeat' first|apply q0|exact xx|apply aI
   all_goals first|exact(Zaa m q).inside|exact(ZM (ZC fun x hx=>by obtain⟨u,_,rfl⟩:=Qb.1 hx;exact Zaa m u)).inside|exact(ZM (Below.fn _ _ fun i h=>absurd h (Qm _))).inside|exact(ZM (.msl _ _ _ _ hm)).inside|exact(Below.ptr _ _ _ hm).inside
  rintro μ s ⟨i,σi,rest',hi,rfl,hr',hf,rfl⟩;have h7':((low n (A σi) G).upd n 7 (.Zg 3 1 (flat (p.map eInt++rest')) N)) n 7=some (.Zg 3 1 (flat (p.map eInt++rest')) N):=Za.upd_same _ _ _ _;have h4':((low n (A σi) G).upd n 7 (.Zg 3 1 (flat (p.map eInt++rest')) N)) n 4=some (.box [.fn (.func 258) (W9 lists n l N)]):=by rw[Za.upd_ne _ _ sm,JF (Uh n)];exact h4
  have hA':∀a b,a<n→((low n (A σi) G).upd n 7 (.Zg 3 1 (flat (p.map eInt++rest')) N)) a b=A σi a b:=fun a b ha=>by rw[Za.upd_ne _ _ om,ZcN ha]
  have hG':low n (A σi) G=low n (A σi) ((low n (A σi) G).upd n 7 (.Zg 3 1 (flat (p.map eInt++rest')) N))∨True:=.inr trivial;generalize hGi:(low n (A σi) G).upd n 7 (.Zg 3 1 (flat (p.map eInt++rest')) N)=Gi at*;refine Ya rfl ?_;rcases Qg i q.length with h|h
  ·have hgi:(q.map eInt).getD i .dead=eInt q[i]:=by simp[Qp,Qd h]
   have hc:(i:Int)<(q.length:Int):=by omega
   refine nq2 hc h ?_;refine nT ?_;refine nq2 hgi h ?_;obtain⟨y,rs,rfl⟩:∃y rs,rest'=y::rs:=by cases rest' with|nil=>cases hr'.1|cons y rs=>exact⟨y,rs,rfl⟩
   have hnm:¬n=m:=by omega
   have hw:=Zmh hy.el p y (hr'.2 y sm) q[i] rs;rw[ZoJ]at hw;have hwl:=ZmK (Zcg (p:=p) hy.el hr'.2);have hpl':p.length*1+1≤(flat (p.map eInt++y::rs)).length:=by rw[hwl,Qh,Qo,Qv];omega
   refine nr ?_;simp only[go_sem,simprocAttr,h7',hnm,hpl,hpl'];refine⟨om,.inr ?_,?_⟩
   ·have:Ze.Below m (.Zg 3 1 (flat ((p++[q[i]]).map eInt++rs)) N):=J6 (Zcg hy.el fun y h=>hr'.2 y (by simp[h]));rw[←hw]at this;exact this
   refine Ya (H:=Gi.upd n 7 (.Zg 3 1 (flat ((p++[q[i]]).map eInt++rs)) N)) (by rw[←hw]) ?_;have hG2:Gi.upd n 7 (.Zg 3 1 (flat ((p++[q[i]]).map eInt++rs)) N)=(low n (A σi) G).upd n 7 (.Zg 3 1 (flat ((p++[q[i]]).map eInt++rs)) N):=by rw[←hGi,Zfm]
   have h72:(Gi.upd n 7 (.Zg 3 1 (flat ((p++[q[i]]).map eInt++rs)) N)) n 7=some (.Zg 3 1 (flat ((p++[q[i]]).map eInt++rs)) N):=Za.upd_same _ _ _ _;have h42:(Gi.upd n 7 (.Zg 3 1 (flat ((p++[q[i]]).map eInt++rs)) N)) n 4=some (.box [.fn (.func 258) (W9 lists n l N)]):=by rw[Za.upd_ne _ _ sm];exact h4'
   have hA2:∀a b,a<n→(Gi.upd n 7 (.Zg 3 1 (flat ((p++[q[i]]).map eInt++rs)) N)) a b=A σi a b:=fun a b ha=>by rw[Za.upd_ne _ _ om];exact hA' a b ha
   generalize Gi.upd n 7 (.Zg 3 1 (flat ((p++[q[i]]).map eInt++rs)) N)=G2 at*;refine kK ?_;refine Yx 197 tok (pre:=[_,_,_]) (post:=[_]) rfl rfl rfl rfl ?_;refine aq2 h42 hnm ?_;have hup:∀σ' X,(low n (A σ') G2).upd n 7 X=(low n (A σ') G).upd n 7 X:=fun σ' X=>by rw[hG2,Zmr _ _ _ _ _ _ (Uh n),Zmv,Zfm]
   have hL:∀σ' X,(low n (A σ') (full m (ZoF q[i]) G2)).upd n 7 X=full m (ZoF q[i]) ((low n (A σ') G).upd n 7 X):=fun σ' X=>by rw[←hup,Yj _ _ _ _ _ _ hnm,Wv (Md hm)]
   have hO:∀σ' X,Ze.Below m X→ZL m G2 ((low n (A σ') G).upd n 7 X):=fun σ' X hX=>by rw[←hup];exact(VE hy.blw (Md hm) hA2 _).trans (.upd hX)
   have hcall:=e258 hy lists hN hlen hl ls (pre++[q]) (p++[q[i]]) rs σi (m+1) (full m (ZoF q[i]) G2) (by rw[e];simp) (by simp[hp]) ⟨by simpa using hr'.1,fun y h=>hr'.2 y (by simp[h])⟩ om (fun a b ha=>by rw[Zj (by exact Qbc ha hm)];exact hA2 a b ha) (by rw[Zj (by exact hm)];exact h72) (by rw[Zj (by exact hm)];exact h42) (ZpA h hok hf);refine Zfg (caps:=W9 lists n l N) rfl (Zf Tryz.func258 rfl rfl) hcall ?_ ?_ ?_
   ·have hi64:IntKind.i64.wrap ((p.length:Int)+1)=((p++[q[i]]).length:Int):=by rw[iw];simp
    simp only[go_sem,simprocAttr,hi64]
   ·rintro r H1 ⟨σ',rest'',hs,hrl,rfl,rfl⟩;refine⟨_,_,hL _ _,hO _ _ (J6 (Zcg hy.el hrl.2)),?_⟩;refine aS ?_;refine nF ?_;refine nR ?_;refine nN ?_;refine⟨q.length - (i+1),Zos p q lists n l N (i+1) ((low n (A σ') G).upd n 7 (.Zg 3 1 (flat (p.map eInt++eInt q[i]::rest'')) N)),om,?_,i+1,σ',eInt q[i]::rest'',h,rfl,⟨by simp[hrl.1],fun y h=>by rcases Qk.1 h with rfl|h;exact hy.el _;exact hrl.2 y h⟩,by rw[Zd7 _ h hf];exact hs,rfl⟩;rw[show p.map eInt++eInt q[i]::rest''=(p++[q[i]]).map eInt++rest'' by simp];refine Zh ?_ ?_ ?_ ?_<;>repeat' first|apply q0|exact xx|apply aI
    ·refine aS ?_;rw[iw];exact .refl _
    all_goals first|exact(Zaa m q).inside|exact(ZM (ZC fun x hx=>by obtain⟨u,_,rfl⟩:=Qb.1 hx;exact Zaa m u)).inside|exact(ZM (Below.fn _ _ fun i h=>absurd h (Qm _))).inside|exact(ZM (.msl _ _ _ _ hm)).inside|exact(Below.ptr _ _ _ hm).inside
   ·rintro H1 ⟨hs,σ',b,rfl,hb⟩;refine⟨_,_,hL _ _,hO _ _ ⟨fun v hv=>(hb.1 v hv).mono hm,fun q hq=>Ui (hb.2 q hq) hm⟩,?_⟩;refine WU ⟨rfl,?_,σ',b,rfl,hb⟩ _;rw[JH,fold_at _ h hf,hs];rfl
  ·have hi':i=q.length:=by omega
   subst hi';have hc:¬q.length<q.length:=Uh _;rw[QM]at hf;refine nq hc ?_;refine nF ?_;refine nX ?_;refine nq hc ?_;refine nV ?_;subst hGi;refine Vk (Zo (v:=.bool true) (.refl _) (.bool _) ⟨σi,rest',by rw[JH,hf],hr',rfl,rfl⟩)
def Vb(ls:List (List Tm))(n l N:Nat):List AV:=[.iptr [.sl 1 (ls.map eTs) .any],.iptr [.fn (.yield l) []],.iptr [.msl 4 n 7 N],.ptr n 4 0]
def ZoG(p:List Tm)(q:List Tm)(lists:List (List Tm))(n l N i:Nat)(H:Za):Zb:=⟨[(21,.int .i64 i),(20,.int .i64 q.length),(19,.sl 4 (q.map Tm.enc) .any),(0,.int .i64 p.length),(1,.iptr [.sl 1 (lists.map eTs) .any]),(2,.iptr [.fn (.yield l) []]),(3,.iptr [.msl 4 n 7 N]),(4,.ptr n 4 0)],[],H⟩
theorem e268{St:Type}{n l N:Nat}{A:St→Za}{step:St→List Tm→Option St}{ok:St→List Tm→Prop}(hy:ZnF n l N 40 4 Tm.enc A step ok)(lists:List (List Tm))(hN:lists.length=N)(hlen:N≤1000000)(hl:∀q∈lists,q.length≤1000000):
  ∀(ls pre:List (List Tm)) (p:List Tm) (rest:List AV) (σ:St) (m:Nat) (G:Za),lists=pre++ls→pre.length=p.length→Zn1 4 rest ls.length→n<m→(∀a b,a<n→G a b=A σ a b)→G n 7=some (.Zg 40 4 (flat (p.map Tm.enc++rest)) N)→G n 4=some (.box [.fn (.func 268) (Vb lists n l N)])→(∀pr r po σ',Ye ls=pr++r::po→pr.foldlM (fun σ r=>step σ (p++r)) σ=some σ'→ok σ' (p++r))→
   Z9 Tryz.prog 197 m 268 (.int .i64 p.length::Vb lists n l N) G
    (fun r G'=>∃σ' rest',WQ step p ls σ=some σ'∧Zn1 4 rest' ls.length∧r= .bool true∧G'=(low n (A σ') G).upd n 7 (.Zg 40 4 (flat (p.map Tm.enc++rest')) N))
    (fun G'=>WQ step p ls σ=none∧ ∃σ' b,G'=(low n (A σ') G).upd n 7 b∧b.Below (n+1))
 |[],pre,p,rest,σ,m,G,e,hp,hr,hm,hA,h7,h4,hok=>by
  have hpl:(p.length:Nat)=N:=by rw[←hN,e,Qu,hp]
  have hrn:rest=[]:=Gh.1 hr.1;subst hrn;rw[Qu]at h7;refine ZkF tok (Zf Tryz.func268 rfl rfl) (by simp[Vb]) fun B=>?_
  unfold Vb;refine nR ?_;refine nR ?_;refine VK rfl rfl (by simp only[go_sem,simprocAttr,hpl,hN,beq_self_eq_true]) ?_;refine kK ?_;refine Yx 197 tok (pre:=[_,_]) (post:=[_]) rfl rfl rfl rfl ?_;refine aS ?_;refine⟨_,_,.inr ⟨l,rfl,hy.call (m+1) _ σ (p++[]) (hok [] [] [] σ rfl rfl) om (by rw[Qu];exact hpl) (fun a b ha=>by rw[Zj (by exact Qbc ha hm)];exact hA a b ha) (by rw[Zj (by exact hm),Qu];exact h7)⟩,?_,?_⟩
  ·rintro r H1 ⟨σ',hs,rfl,rfl⟩;refine⟨[],low n (A σ') G,Wv (Md hm) _ _ _|>.symm,VE hy.blw (Md hm) hA _,?_⟩;refine aS ?_;refine nV ?_;refine Vk (Zo (v:=.bool true) (.refl _) (.bool _) ⟨σ',[],by rw[Zb8,←hs,Qu],⟨rfl,fun _ h=>by cases h⟩,rfl,?_⟩);rw[Yd];rw[JF (Uh n),h7,Qu]
  ·rintro H1 ⟨hs,σ',rfl⟩;refine⟨[],low n (A σ') G,Wv (Md hm) _ _ _|>.symm,VE hy.blw (Md hm) hA _,rfl,by rw[Zb8,←hs,Qu],σ',_,(Yd (JF (Uh n) _|>.trans h7)).symm,J6 fun y h=>by obtain⟨x,_,rfl⟩:=Qb.1 h;exact hy.el x⟩
 |q::ls,pre,p,rest,σ,m,G,e,hp,hr,hm,hA,h7,h4,hok=>by
  have hpl:p.length<N:=by rw[←hN,e,Qh,hp];simp
  have hq:q.length≤1000000:=hl q (by rw[e];simp);have hne:((p.length:Int)==(lists.length:Int))=false:=by rw[hN];simp;omega
  have hgq:lists[p.length]? =some q:=by rw[e,←hp];simp
  have hgD:(lists.map eTs).getD p.length .dead= .sl 4 (q.map Tm.enc) .any:=by rw[Qp,QZ,hgq];rfl
  have hpa:p.length<lists.length:=by omega
  refine ZkF tok (Zf Tryz.func268 rfl rfl) (by simp[Vb]) fun B=>?_
  unfold Vb;refine nR ?_;refine nq hne ?_;refine nF ?_;refine nq2 hgD hpa ?_;refine kK ?_;refine Zal (fun μ s=>∃i σi rest',i≤q.length∧μ=q.length - i∧Zn1 4 rest' (ls.length+1)∧(q.take i).foldlM (fun σ x=>WQ step (p++[x]) ls σ) σ=some σi∧s=ZoG p q lists n l N i ((low n (A σi) G).upd n 7 (.Zg 40 4 (flat (p.map Tm.enc++rest')) N))) (m0:=q.length) (s0:=ZoG p q lists n l N 0 G) rfl ?_ ⟨0,σ,rest,Un _,rfl,hr,rfl,by rw[ZkI hA,Yd h7]⟩ ?_
  ·refine Zh ?_ ?_ ?_ ?_<;>repeat' first|apply q0|exact xx|apply aI
   all_goals first|exact(Zae m q).inside|exact(ZM (ZC fun x hx=>by obtain⟨u,_,rfl⟩:=Qb.1 hx;exact Zae m u)).inside|exact(ZM (Below.fn _ _ fun i h=>absurd h (Qm _))).inside|exact(ZM (.msl _ _ _ _ hm)).inside|exact(Below.ptr _ _ _ hm).inside
  rintro μ s ⟨i,σi,rest',hi,rfl,hr',hf,rfl⟩;have h7':((low n (A σi) G).upd n 7 (.Zg 40 4 (flat (p.map Tm.enc++rest')) N)) n 7=some (.Zg 40 4 (flat (p.map Tm.enc++rest')) N):=Za.upd_same _ _ _ _;have h4':((low n (A σi) G).upd n 7 (.Zg 40 4 (flat (p.map Tm.enc++rest')) N)) n 4=some (.box [.fn (.func 268) (Vb lists n l N)]):=by rw[Za.upd_ne _ _ sm,JF (Uh n)];exact h4
  have hA':∀a b,a<n→((low n (A σi) G).upd n 7 (.Zg 40 4 (flat (p.map Tm.enc++rest')) N)) a b=A σi a b:=fun a b ha=>by rw[Za.upd_ne _ _ om,ZcN ha]
  have hG':low n (A σi) G=low n (A σi) ((low n (A σi) G).upd n 7 (.Zg 40 4 (flat (p.map Tm.enc++rest')) N))∨True:=.inr trivial;generalize hGi:(low n (A σi) G).upd n 7 (.Zg 40 4 (flat (p.map Tm.enc++rest')) N)=Gi at*;refine Ya rfl ?_;rcases Qg i q.length with h|h
  ·have hgi:(q.map Tm.enc).getD i .dead=Tm.enc q[i]:=by simp[Qp,Qd h]
   have hc:(i:Int)<(q.length:Int):=by omega
   refine nq2 hc h ?_;refine nT ?_;refine nq2 hgi h ?_;obtain⟨y,rs,rfl⟩:∃y rs,rest'=y::rs:=by cases rest' with|nil=>cases hr'.1|cons y rs=>exact⟨y,rs,rfl⟩
   have hnm:¬n=m:=by omega
   have hw:=Zmh hy.el p y (hr'.2 y sm) q[i] rs;rw[Zoz]at hw;have hwl:=ZmK (Zcg (p:=p) hy.el hr'.2);have hpl':p.length*4+4≤(flat (p.map Tm.enc++y::rs)).length:=by rw[hwl,Qh,Qo,Qv];omega
   refine nr ?_;simp only[go_sem,simprocAttr,h7',hnm,hpl,hpl'];refine⟨om,.inr ?_,?_⟩
   ·have:Ze.Below m (.Zg 40 4 (flat ((p++[q[i]]).map Tm.enc++rs)) N):=J6 (Zcg hy.el fun y h=>hr'.2 y (by simp[h]));rw[←hw]at this;exact this
   refine Ya (H:=Gi.upd n 7 (.Zg 40 4 (flat ((p++[q[i]]).map Tm.enc++rs)) N)) (by rw[←hw]) ?_;have hG2:Gi.upd n 7 (.Zg 40 4 (flat ((p++[q[i]]).map Tm.enc++rs)) N)=(low n (A σi) G).upd n 7 (.Zg 40 4 (flat ((p++[q[i]]).map Tm.enc++rs)) N):=by rw[←hGi,Zfm]
   have h72:(Gi.upd n 7 (.Zg 40 4 (flat ((p++[q[i]]).map Tm.enc++rs)) N)) n 7=some (.Zg 40 4 (flat ((p++[q[i]]).map Tm.enc++rs)) N):=Za.upd_same _ _ _ _;have h42:(Gi.upd n 7 (.Zg 40 4 (flat ((p++[q[i]]).map Tm.enc++rs)) N)) n 4=some (.box [.fn (.func 268) (Vb lists n l N)]):=by rw[Za.upd_ne _ _ sm];exact h4'
   have hA2:∀a b,a<n→(Gi.upd n 7 (.Zg 40 4 (flat ((p++[q[i]]).map Tm.enc++rs)) N)) a b=A σi a b:=fun a b ha=>by rw[Za.upd_ne _ _ om];exact hA' a b ha
   generalize Gi.upd n 7 (.Zg 40 4 (flat ((p++[q[i]]).map Tm.enc++rs)) N)=G2 at*;refine kK ?_;refine Yx 197 tok (pre:=[_,_,_]) (post:=[_]) rfl rfl rfl rfl ?_;refine aq2 h42 hnm ?_;have hup:∀σ' X,(low n (A σ') G2).upd n 7 X=(low n (A σ') G).upd n 7 X:=fun σ' X=>by rw[hG2,Zmr _ _ _ _ _ _ (Uh n),Zmv,Zfm]
   have hL:∀σ' X,(low n (A σ') (full m (Zpi q[i]) G2)).upd n 7 X=full m (Zpi q[i]) ((low n (A σ') G).upd n 7 X):=fun σ' X=>by rw[←hup,Yj _ _ _ _ _ _ hnm,Wv (Md hm)]
   have hO:∀σ' X,Ze.Below m X→ZL m G2 ((low n (A σ') G).upd n 7 X):=fun σ' X hX=>by rw[←hup];exact(VE hy.blw (Md hm) hA2 _).trans (.upd hX)
   have hcall:=e268 hy lists hN hlen hl ls (pre++[q]) (p++[q[i]]) rs σi (m+1) (full m (Zpi q[i]) G2) (by rw[e];simp) (by simp[hp]) ⟨by simpa using hr'.1,fun y h=>hr'.2 y (by simp[h])⟩ om (fun a b ha=>by rw[Zj (by exact Qbc ha hm)];exact hA2 a b ha) (by rw[Zj (by exact hm)];exact h72) (by rw[Zj (by exact hm)];exact h42) (ZpA h hok hf);refine Zfg (caps:=Vb lists n l N) rfl (Zf Tryz.func268 rfl rfl) hcall ?_ ?_ ?_
   ·have hi64:IntKind.i64.wrap ((p.length:Int)+1)=((p++[q[i]]).length:Int):=by rw[iw];simp
    simp only[go_sem,simprocAttr,hi64]
   ·rintro r H1 ⟨σ',rest'',hs,hrl,rfl,rfl⟩;refine⟨_,_,hL _ _,hO _ _ (J6 (Zcg hy.el hrl.2)),?_⟩;refine aS ?_;refine nF ?_;refine nR ?_;refine nN ?_;refine⟨q.length - (i+1),ZoG p q lists n l N (i+1) ((low n (A σ') G).upd n 7 (.Zg 40 4 (flat (p.map Tm.enc++Tm.enc q[i]::rest'')) N)),om,?_,i+1,σ',Tm.enc q[i]::rest'',h,rfl,⟨by simp[hrl.1],fun y h=>by rcases Qk.1 h with rfl|h;exact hy.el _;exact hrl.2 y h⟩,by rw[Zd7 _ h hf];exact hs,rfl⟩;rw[show p.map Tm.enc++Tm.enc q[i]::rest''=(p++[q[i]]).map Tm.enc++rest'' by simp];refine Zh ?_ ?_ ?_ ?_<;>repeat' first|apply q0|exact xx|apply aI
    ·refine aS ?_;rw[iw];exact .refl _
    all_goals first|exact(Zae m q).inside|exact(ZM (ZC fun x hx=>by obtain⟨u,_,rfl⟩:=Qb.1 hx;exact Zae m u)).inside|exact(ZM (Below.fn _ _ fun i h=>absurd h (Qm _))).inside|exact(ZM (.msl _ _ _ _ hm)).inside|exact(Below.ptr _ _ _ hm).inside
   ·rintro H1 ⟨hs,σ',b,rfl,hb⟩;refine⟨_,_,hL _ _,hO _ _ ⟨fun v hv=>(hb.1 v hv).mono hm,fun q hq=>Ui (hb.2 q hq) hm⟩,?_⟩;refine WU ⟨rfl,?_,σ',b,rfl,hb⟩ _;rw[JH,fold_at _ h hf,hs];rfl
  ·have hi':i=q.length:=by omega
   subst hi';have hc:¬q.length<q.length:=Uh _;rw[QM]at hf;refine nq hc ?_;refine nF ?_;refine nX ?_;refine nq hc ?_;refine nV ?_;subst hGi;refine Vk (Zo (v:=.bool true) (.refl _) (.bool _) ⟨σi,rest',by rw[JH,hf],hr',rfl,rfl⟩)
abbrev z257:AV:=.int .i64 0
abbrev z267:AV:=.agg [.int .u8 0,.int .i64 0,.str [],.sl 4 [] .full]
theorem zrow257:Zd8 1 z257:=⟨rfl,fun m c hc=>by rw[Ql.1 hc];exact .int _ _⟩
theorem zrow267:Zd8 4 z267:=⟨rfl,fun m=>(Yi.mem (l:=[AV.int .u8 0,.int .i64 0,.str [],.sl 4 [] .full]) (p:=fun c=>Below m c) ⟨.int _ _,.int _ _,.str _,YT (fun _ h=>by cases h) (fun _ _ e=>by cases e),trivial⟩)⟩
theorem e257{l:Nat}{A:St→Za}{step:St→List Int→Option St}{ok:St→List Int→Prop}(H:Za)(lists:List (List Int))(hlen:lists.length≤1000000)(hl:∀q∈lists,q.length≤1000000)(hy:ZnF n l lists.length 3 1 eInt A step ok)(σ:St)(hA:∀a b,a<n→H a b=A σ a b)(hok:∀pr r po σ',Ye lists=pr++r::po→pr.foldlM step σ=some σ'→ok σ' r):
  Z9 Tryz.prog 197 n 257 [.fn (.yield l) [],.iptr [.sl 1 (lists.map eIs) .any]] H (fun _ H'=>∃σ',WQ step [] lists σ=some σ'∧H'=low n (A σ') H) (fun H'=>WQ step [] lists σ=none∧ ∃σ',H'=low n (A σ') H):=by
 refine xF Tryz.func257 fun B=>?_
 refine nR ?_;refine nR ?_;refine⟨⟨Zn om,om⟩,?_⟩;refine nR ?_;refine kK ?_;have hfn:∀q,Inside n q (.fn (.yield l) []):=fun q=>(Below.fn _ _ fun i h=>absurd h (Qm _)).inside
 have hli:∀q,Inside n q (.iptr [.sl 1 (lists.map eIs) .any]):=fun q=>(ZM (ZC fun x hx=>by obtain⟨u,_,rfl⟩:=Qb.1 hx;exact Zaa n u)).inside
 have hz:∀y∈List.replicate lists.length z257,Zd8 1 y:=fun y hy=>by rw[(Ug.1 hy).2];exact zrow257
 have hmb:∀q i,(Ze.Zg 3 1 (flat (List.replicate lists.length z257)) i).Inside n q:=fun q i=>(J6 hz).inside
 refine ZY 2 [.fn (.yield l) []] [(4,.ptr n 4 0),(3,.ptr n 3 0),(2,.iptr [.fn (.yield l) []]),(1,.iptr [.sl 1 (lists.map eIs) .any])] rfl ⟨hfn _,trivial⟩ ⟨.inl ⟨.refl _,.ptr _ _ _ (.inr ⟨rfl,dc⟩)⟩,.inl ⟨.refl _,.ptr _ _ _ (.inr ⟨rfl,dc⟩)⟩,.inr ⟨0,rfl,rfl⟩,.inl ⟨.refl _,hli _⟩,trivial⟩ ?_ ?_
 ·exact⟨hmb _ _,Ze.ZA ⟨.msl _ _ _ _ (.inr ⟨rfl,dc⟩),trivial⟩,Ze.ZA ⟨Below.inside .nilf,trivial⟩,trivial⟩
 refine ZY 3 [.msl 1 n 7 lists.length] [(4,.ptr n 4 0),(3,.iptr [.msl 1 n 7 lists.length]),(2,.iptr [.fn (.yield l) []]),(1,.iptr [.sl 1 (lists.map eIs) .any])] rfl ⟨.msl _ _ _ _ (.inr ⟨rfl,dc⟩),trivial⟩ ⟨.inl ⟨.refl _,.ptr _ _ _ (.inr ⟨rfl,dc⟩)⟩,.inr ⟨0,rfl,rfl⟩,.inl ⟨.refl _,(ZM (Below.fn _ _ fun i h=>absurd h (Qm _))).inside⟩,.inl ⟨.refl _,hli _⟩,trivial⟩ ?_ ?_
 ·exact⟨hmb _ _,Ze.ZA ⟨Below.inside .nilf,trivial⟩,trivial⟩
 refine nR ?_;refine kK ?_;refine Yx 197 tok (pre:=[_]) (post:=[]) rfl rfl rfl rfl ?_;refine aS ?_;refine Zfg (caps:=W9 lists n l lists.length) rfl (Zf Tryz.func258 rfl rfl) (e258 hy lists rfl hlen hl lists [] [] (List.replicate lists.length z257) σ (n+1) _ rfl rfl ⟨sm,hz⟩ (Qr n) (fun a b ha=>by rw[Zj ha];exact hA a b ha) (by simp[full,lkb]) (by simp[full,lkb,W9]) hok) sS ?_ ?_
 ·rintro r H1 ⟨σ',rest',hs,hrq,rfl,rfl⟩;refine⟨_,_,by rw[←Wv (Qe n),←Zm],VE hy.blw (Qe n) hA _,?_⟩;refine aS ?_;refine nN ?_;exact⟨fun x h=>by simp[Tryz.f257]at h,[],trivial,fun v h=>absurd h sm,σ',hs,rfl⟩
 ·rintro H1 ⟨hs,σ',b,rfl,hb⟩;refine⟨_,_,by rw[←Wv (Qe n),←Zm],VE hy.blw (Qe n) hA _,?_⟩;exact⟨rfl,hs,σ',rfl⟩
theorem e267{l:Nat}{A:St→Za}{step:St→List Tm→Option St}{ok:St→List Tm→Prop}(H:Za)(lists:List (List Tm))(hlen:lists.length≤1000000)(hl:∀q∈lists,q.length≤1000000)(hy:ZnF n l lists.length 40 4 Tm.enc A step ok)(σ:St)(hA:∀a b,a<n→H a b=A σ a b)(hok:∀pr r po σ',Ye lists=pr++r::po→pr.foldlM step σ=some σ'→ok σ' r):
  Z9 Tryz.prog 197 n 267 [.fn (.yield l) [],.iptr [.sl 1 (lists.map eTs) .any]] H (fun _ H'=>∃σ',WQ step [] lists σ=some σ'∧H'=low n (A σ') H) (fun H'=>WQ step [] lists σ=none∧ ∃σ',H'=low n (A σ') H):=by
 refine xF Tryz.func267 fun B=>?_
 refine nR ?_;refine nR ?_;refine⟨⟨Zn om,om⟩,?_⟩;refine nR ?_;refine kK ?_;have hfn:∀q,Inside n q (.fn (.yield l) []):=fun q=>(Below.fn _ _ fun i h=>absurd h (Qm _)).inside
 have hli:∀q,Inside n q (.iptr [.sl 1 (lists.map eTs) .any]):=fun q=>(ZM (ZC fun x hx=>by obtain⟨u,_,rfl⟩:=Qb.1 hx;exact Zae n u)).inside
 have hz:∀y∈List.replicate lists.length z267,Zd8 4 y:=fun y hy=>by rw[(Ug.1 hy).2];exact zrow267
 have hmb:∀q i,(Ze.Zg 40 4 (flat (List.replicate lists.length z267)) i).Inside n q:=fun q i=>(J6 hz).inside
 refine ZY 2 [.fn (.yield l) []] [(4,.ptr n 4 0),(3,.ptr n 3 0),(2,.iptr [.fn (.yield l) []]),(1,.iptr [.sl 1 (lists.map eTs) .any])] rfl ⟨hfn _,trivial⟩ ⟨.inl ⟨.refl _,.ptr _ _ _ (.inr ⟨rfl,dc⟩)⟩,.inl ⟨.refl _,.ptr _ _ _ (.inr ⟨rfl,dc⟩)⟩,.inr ⟨0,rfl,rfl⟩,.inl ⟨.refl _,hli _⟩,trivial⟩ ?_ ?_
 ·exact⟨hmb _ _,Ze.ZA ⟨.msl _ _ _ _ (.inr ⟨rfl,dc⟩),trivial⟩,Ze.ZA ⟨Below.inside .nilf,trivial⟩,trivial⟩
 refine ZY 3 [.msl 4 n 7 lists.length] [(4,.ptr n 4 0),(3,.iptr [.msl 4 n 7 lists.length]),(2,.iptr [.fn (.yield l) []]),(1,.iptr [.sl 1 (lists.map eTs) .any])] rfl ⟨.msl _ _ _ _ (.inr ⟨rfl,dc⟩),trivial⟩ ⟨.inl ⟨.refl _,.ptr _ _ _ (.inr ⟨rfl,dc⟩)⟩,.inr ⟨0,rfl,rfl⟩,.inl ⟨.refl _,(ZM (Below.fn _ _ fun i h=>absurd h (Qm _))).inside⟩,.inl ⟨.refl _,hli _⟩,trivial⟩ ?_ ?_
 ·exact⟨hmb _ _,Ze.ZA ⟨Below.inside .nilf,trivial⟩,trivial⟩
 refine nR ?_;refine kK ?_;refine Yx 197 tok (pre:=[_]) (post:=[]) rfl rfl rfl rfl ?_;refine aS ?_;refine Zfg (caps:=Vb lists n l lists.length) rfl (Zf Tryz.func268 rfl rfl) (e268 hy lists rfl hlen hl lists [] [] (List.replicate lists.length z267) σ (n+1) _ rfl rfl ⟨sm,hz⟩ (Qr n) (fun a b ha=>by rw[Zj ha];exact hA a b ha) (by simp[full,lkb]) (by simp[full,lkb,Vb]) hok) sS ?_ ?_
 ·rintro r H1 ⟨σ',rest',hs,hrq,rfl,rfl⟩;refine⟨_,_,by rw[←Wv (Qe n),←Zm],VE hy.blw (Qe n) hA _,?_⟩;refine aS ?_;refine nN ?_;exact⟨fun x h=>by simp[Tryz.f267]at h,[],trivial,fun v h=>absurd h sm,σ',hs,rfl⟩
 ·rintro H1 ⟨hs,σ',b,rfl,hb⟩;refine⟨_,_,by rw[←Wv (Qe n),←Zm],VE hy.blw (Qe n) hA _,?_⟩;exact⟨rfl,hs,σ',rfl⟩
theorem e234(lists:List (List Int)):Pure Tryz.prog 234 [.sl 1 (lists.map eIs) .any] (.fn (.func 257) [.iptr [.sl 1 (lists.map eIs) .any]]):=by
 intro n H;refine aF Tryz.func234 fun B=>?_
 have hb:Below n (.sl 1 (lists.map eIs) .any):=ZC fun x hx=>by obtain⟨u,_,rfl⟩:=Qb.1 hx;exact Zaa n u
 refine nR ?_;refine kK ?_;refine ZY 1 [.sl 1 (lists.map eIs) .any] [(2,.nilf),(1,.iptr [.sl 1 (lists.map eIs) .any])] rfl ⟨hb.inside,trivial⟩ ⟨.inl ⟨.refl _,Below.inside .nilf⟩,.inr ⟨0,rfl,rfl⟩,trivial⟩ trivial ?_;refine nR ?_;refine nV ?_;exact Zc (.refl _) (Below.fn _ _ fun i h=>by
  have:i=0:=by simp at h;omega
  subst this;exact ZM hb) rfl
theorem Zuu(lists:List (List Tm)):Pure Tryz.prog 239 [.sl 1 (lists.map eTs) .any] (.fn (.func 267) [.iptr [.sl 1 (lists.map eTs) .any]]):=by
 intro n H;refine aF Tryz.func239 fun B=>?_
 have hb:Below n (.sl 1 (lists.map eTs) .any):=ZC fun x hx=>by obtain⟨u,_,rfl⟩:=Qb.1 hx;exact Zae n u
 refine nR ?_;refine kK ?_;refine ZY 1 [.sl 1 (lists.map eTs) .any] [(2,.nilf),(1,.iptr [.sl 1 (lists.map eTs) .any])] rfl ⟨hb.inside,trivial⟩ ⟨.inl ⟨.refl _,Below.inside .nilf⟩,.inr ⟨0,rfl,rfl⟩,trivial⟩ trivial ?_;refine nR ?_;refine nV ?_;exact Zc (.refl _) (Below.fn _ _ fun i h=>by
  have:i=0:=by simp at h;omega
  subst this;exact ZM hb) rfl
end
theorem cmps_len:∀{p q:List Tm},cmpT.cmps p q=0→p.length=q.length
 |[],[],_=>rfl
 |[],_::_,h=>by rw[cmpT.cmps]at h;cases h
 |_::_,[],h=>by rw[cmpT.cmps]at h;cases h
 |a::p,b::q,h=>by
  rw[cmpT.cmps]at h;unfold thn at h;split at h
  ·rw[Qo,Qo,cmps_len h]
  ·rename_i hh;exact absurd h hh
theorem Zn2(b c:Bnd):YJ b c=cmpT.cmps (b.map Prod.snd) (c.map Prod.snd):=by
 unfold YJ thn;split
 ·rename_i h;have:=cmps_len h;simp only[Qv]at this;rw[h,this];simp[YA]
 ·rfl
theorem k99(p q:Str×Tm)(hp:p.2.Good)(hq:q.2.Good):Pure Tryz.prog 99 [eBd p,eBd q] (.int .i64 (cmpT p.2 q.2)):=by
 intro n H;refine aF Tryz.func99 fun B=>?_
 refine nR ?_;refine nR ?_;refine cP (a53 p.2 q.2 hp hq) ?_;refine nV ?_;exact Zc (.refl _) (.int _ _) rfl
def Zur(p q:Bnd)(H:Za)(i:Nat):Zb:=
 ⟨[(13,.int .i64 i),(12,.int .i64 p.length),(11,.sl 5 (p.map eBd) .any),(0,.sl 5 (p.map eBd) .any),(1,.sl 5 (q.map eBd) .any),(2,.fn (.func 99) [])],[],H⟩
theorem k98(p q:Bnd)(hp:p.length≤1000000)(hq:q.length≤1000000)(gp:∀x∈p,x.2.Good)(gq:∀x∈q,x.2.Good):Pure Tryz.prog 98 [.sl 5 (p.map eBd) .any,.sl 5 (q.map eBd) .any,.fn (.func 99) []] (.int .i64 (YJ p q)):=by
 intro n H;rw[Zn2];have hfi:∀r,Inside n r (.fn (.func 99) []):=fun r=>Inside.fn _ _ (fun i h=>absurd h (Qm _))
 refine aF Tryz.func98 fun B=>?_
 refine nR ?_;refine nR ?_;refine kK ?_;refine Yc (Zur p q H) (fun i=>cmpT.cmps (p.map Prod.snd) (q.map Prod.snd)=cmpT.cmps ((p.map Prod.snd).drop i) ((q.map Prod.snd).drop i)) p.length rfl ?_ rfl ?_
 ·exact KK
 intro i hi hc;refine Ya rfl ?_;rcases Qg i p.length with h|h
 ·refine nq h ?_;refine nT ?_;have hlp:i<(p.map Prod.snd).length:=by simpa using h
  refine nr ?_;simp only[go_sem,simprocAttr,getD_map eBd _ _ h,h];rcases Qg i q.length with h'|h'
  ·have hlq:i<(q.map Prod.snd).length:=by simpa using h'
   refine nq2 h' (Qbt.2 h') ?_;refine nF ?_;refine nr ?_;simp only[go_sem,simprocAttr,getD_map eBd _ _ h',h'];refine nR ?_;refine cP (k99 p[i] q[i] (gp _ (Qa h)) (gq _ (Qa h'))) ?_;have hd:=Zek (p.map Prod.snd) (q.map Prod.snd) i hlp hlq;simp only[QO]at hd;rw[hd]at hc;cases h5:(cmpT p[i].2 q[i].2==0)with
   |false=>
    refine nr ?_;simp only[go_sem,simprocAttr,bne,h5];refine nT ?_;refine nR ?_;refine nW ?_;refine Zc ?_ (.int _ _) rfl;rw[hc,ZaV (by simpa using h5)];exact .refl _
   |true=>
    refine nr ?_;simp only[go_sem,simprocAttr,bne,h5];refine nF ?_;refine nR ?_;refine nN ?_;refine⟨?_,?_⟩
    ·rw[hc,(by simpa using h5:cmpT p[i].2 q[i].2=0),YS]
    ·refine Zh ?_ ?_ ?_ ?_<;>repeat' first|apply q0|exact xx|apply aI
     ·refine aS ?_;rw[iw];exact .refl _
     all_goals exact(Zx n _).inside
  ·refine nq h' ?_;refine nT ?_;refine nR ?_;refine nW ?_;refine Zc ?_ (.int _ _) rfl;rw[hc,show(q.map Prod.snd).drop i=[] from Uk (by simpa using h'),Qw hlp];exact .refl _
 ·refine nq (QE.2 h) ?_;refine nF ?_;refine nX ?_;have hi':i=p.length:=by omega
  subst hi';rw[show(p.map Prod.snd).drop p.length=[] from Uk sm]at hc;cases h1:decide (p.length<q.length)with
  |true=>
   refine nq h1 ?_;refine nT ?_;refine nR ?_;refine nV ?_;refine Zc ?_ (.int _ _) rfl;have:=of_decide_eq_true h1;rw[hc,Qw (by simpa using this)];exact .refl _
  |false=>
   refine nq h1 ?_;refine nF ?_;refine nR ?_;refine nV ?_;refine Zc ?_ (.int _ _) rfl;have:=of_decide_eq_false h1;rw[hc,show(q.map Prod.snd).drop p.length=[] from Uk (by simp;omega)];exact .refl _
theorem k51(p q:Bnd)(hp:p.length≤1000000)(hq:q.length≤1000000)(gp:∀x∈p,x.2.Good)(gq:∀x∈q,x.2.Good):Pure Tryz.prog 51 [Zk p,Zk q] (.int .i64 (YJ p q)):=by
 intro n H;have hc:=k98 p q hp hq gp gq;refine aF Tryz.func51 fun B=>?_
 refine nR ?_;refine nR ?_;refine WM (Zf Tryz.func98 rfl rfl) (hc) (by simp only[go_sem,simprocAttr,Zk]) ?_;simp only[go_sem,simprocAttr,Zk];refine nV ?_;exact Zc (.refl _) (.int _ _) rfl
theorem k53(p q:Bnd)(hp:p.length≤1000000)(hq:q.length≤1000000)(gp:∀x∈p,x.2.Good)(gq:∀x∈q,x.2.Good):Pure Tryz.prog 53 [Zk p,Zk q] (.bool (YJ p q==0)):=by
 intro n H;refine aF Tryz.func53 fun B=>?_
 refine nR ?_;refine nR ?_;refine cP (k51 p q hp hq gp gq) ?_;exact pB
end Go.Proofs.YtmdeagmbfhbbnaaGreatDoorR
