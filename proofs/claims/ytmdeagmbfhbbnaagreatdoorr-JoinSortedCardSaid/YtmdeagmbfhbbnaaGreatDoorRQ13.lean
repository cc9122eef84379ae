/- Join, from the loop over the given binding on. -/
import Derived.Test.YtmdeagmbfhbbnaaGreatDoorRQ12
import Derived.Test.YtmdeagmbfhbbnaaGreatDoorRQ11
import Derived.RecoverIn
import Derived.Test.YtmdeagmbfhbbnaaGreatDoorRQ09
import Derived.Test.YtmdeagmbfhbbnaaGreatDoorRQ05
import Derived.Test.YtmdeagmbfhbbnaaGreatDoorRTie
import Derived.Test.YtmdeagmbfhbbnaaGreatDoorRCards
import Derived.LaidSub
import Derived.Shelf.Vars
set_option linter.all false
namespace Go.Proofs.YtmdeagmbfhbbnaaGreatDoorR
open Go.Abs
set_option maxRecDepth 100000
section
variable {L:List (Nat×Ze)} {tm:List (Nat×AV)} {n:Nat}
theorem ZkM{N:Nat}{H:Za}{j0 i:Nat}{av av':AV}{cs:List AV}(hj0:lkb L j0=some (.box cs))(hi:cs[i]? =some av)(hw:Wk av av'):AWk n N ⟨tm,L,H⟩ ⟨tm,setb L j0 (.box (cs.set i av')),H⟩:=fun B E w a hs=>by
 have h:=hs.heap;obtain⟨b0,hm0,c,t,hc,hv⟩:=h.box n j0 cs (Qr n) (by simp only[full,if_true];exact hj0);obtain⟨hil,hie⟩:=Q8.1 hi;obtain⟨hh2,hx2⟩:=h.turn (w':=w) (.inl hm0) (.box (cs.set i av')) (fun hg=>absurd (h.m_g hm0) hg) rfl rfl rfl (fun _=>Qe _) rfl (fun _ _=>rfl) (fun o=>h.mF _ _ _ o hm0)
  ⟨b0,hm0,c,t,hc,by rw[Mc];exact hv.1,fun i' g1 g2=>by
   rw[Gf];split
   ·rename_i e;subst e;have:=hv.2 i hil g2;rw[hie]at this;exact hw.vr this
   ·exact hv.2 i' (by simpa using g1) g2⟩
 rw[←Zm]at hh2;exact⟨E,⟨hs.size,hs.defs,hs.tmps,hh2,hs.out⟩,.refl _ _ _⟩
theorem Zp2{cx:Cx}(hP:cx.P=Tryz.prog){o:Oper}{args:List Operand}{ts:List TypeId}{H:Za}{k:Nat}{S:List Str}{x:Str}{K:Zb→Prop}(hk:lkb L k=some (.map (encS S)))
  (ha:Yo cx.T (evT tm) args ts=[.map cx.n k,.sl 1 [.str x] .full]) (h:K ⟨Yl tm o.dst (.tup []),setb L k (.map (encS (ZO S [x]))),H⟩):Zet cx o (.func 40) args ts ⟨tm,L,H⟩ K:=by
 obtain⟨P,T,φ,n,N⟩:=cx;dsimp only at hP ha h;subst hP;refine⟨40,_,_,[],.tup [],setb L k (.map (encS (ZO S [x]))),H,rfl,Zf Tryz.func40 rfl rfl,?_,.refl _ _,h⟩;rw[Qu,ha,Zm];exact Zi.args (j40 (n+1) _ n k (Qr n) S [x] sm (by simp only[full,if_true];exact hk)) ⟨.refl _,.any _ _ _,trivial⟩
def o10a:Opt:=⟨true,true,fun d=>if d=48 then .heap else if d=49∨d=70 then .call else .auto,[]⟩
variable {p:Nat→Prop}
theorem Zkj{j:Nat}(h:p j):Inside n p (.iptr [.map n j]):=.iptr _ fun i hi=>Yi.mem (l:=[.map n j]) (p:=fun c=>Inside n p c) ⟨.map _ _ (.inr ⟨rfl,h⟩),trivial⟩ _ (Qa hi)
def Ze8(n ls bs:Nat)(now:List Bnd)(m:Nat):Ze:=.box [.map n 51,.ptr ls bs 0,.sl 1 (now.map Zk) .any,.msl 1 n 200 m]
def Zm0(n ls bs:Nat)(l:List Lt)(b:Bnd)(K1:List Str)(H:Za):Zb:=
 ⟨[(13,.ptr n 56 0),(10,.iptr [.map n 39]),(0,.sl 13 (l.map Lt.enc) .any),(2,.sl 5 (b.map eBd) .any)],[(39,.map (encS K1)),(51,.map []),(200,.Zg 84 1 [] 0),(56,Ze8 n ls bs [b] 0)],H⟩
def Zs2(n ls bs:Nat)(l:List Lt)(b:Bnd)(K1:List Str)(H:Za)(i:Nat):Zb:=
 ⟨[(59,.int .i64 i),(58,.int .i64 b.length),(57,.sl 5 (b.map eBd) .any),(13,.ptr n 56 0),(10,.iptr [.map n 39]),(0,.sl 13 (l.map Lt.enc) .any)],
  [(39,.map (encS (ZO K1 (Zq (b.take i))))),(51,.map (encS (ZO [] (Zq (b.take i))))),(200,.Zg 84 1 [] 0),(56,Ze8 n ls bs [b] 0)],H⟩
theorem Zhe{j:Nat}(h:p j):Inside n p (.ptr n j 0):=.ptr _ _ _ (.inr ⟨rfl,h⟩)
theorem ZtB{ls bs:Nat}(hls:ls<n)(h:p 51)(h2:p 200)(now:List Bnd)(m:Nat):Yi (fun c=>Inside n p c) [.map n 51,.ptr ls bs 0,.sl 1 (now.map Zk) .any,.msl 1 n 200 m]:=
 ⟨ZaZ h,.ptr _ _ _ (.inl hls),(Zw now).inside,.msl _ _ _ _ (.inr ⟨rfl,h2⟩),trivial⟩
def Q10(n:Nat)(s:Sto)(l:List Lt)(b:Bnd)(H:Za):AV→Za→Prop:=fun r' H'=>r'= .tup [.sl 1 ((Xf s.A l b).1.map Zk) .any,eInt (Xf s.A l b).2]∧H'=H
def Zmn(n ls bs:Nat)(l:List Lt)(b:Bnd)(K2 S0:List Str)(H:Za):Zb:=
 ⟨[(16,.sl 1 [] .full),(13,.ptr n 56 0),(10,.iptr [.map n 39]),(0,.sl 13 (l.map Lt.enc) .any)],[(39,.map (encS K2)),(51,.map (encS S0)),(200,.Zg 84 1 [] 0),(56,Ze8 n ls bs [b] 0)],H⟩
theorem Zn9(A:List Am)(p:List Stp)(now:List Bnd):Zcq A p now 0=now:=by cases p<;>rfl
def Zmc(n ls bs:Nat)(K2 S1:List Str)(D:List (Stp×Lt))(now:List Bnd)(H:Za):Zb:=
 ⟨[(13,.ptr n 56 0),(10,.iptr [.map n 39])],[(39,.map (encS K2)),(51,.map (encS S1)),(200,.Zg 84 1 (D.map (fnV n 56)) D.length),(56,Ze8 n ls bs now D.length)],H⟩
theorem ZrO(l bx:Nat)(q:Stp×Lt):fnV l bx q= .fn (.func (fnF q)) (fnC l bx q):=by
 obtain⟨s,x⟩:=q;cases s<;>rfl
theorem Zsn(h:p 56)(q:Stp×Lt):Inside n p (fnV n 56 q):=by
 have hp:Inside n p (.iptr [.ptr n 56 0]):=.iptr _ fun i hi=>Yi.mem (l:=[.ptr n 56 0]) (p:=fun c=>Inside n p c) ⟨Zhe h,trivial⟩ _ (Qa hi)
 have key:∀f cs,Yi (fun c=>Inside n p c) cs→Inside n p (.fn f cs):=fun f cs h=>Inside.fn _ _ fun i hi=>h.mem _ (Qa hi)
 obtain⟨s,x⟩:=q;cases s with
 |test y=>exact key _ _ ⟨hp,(Zl y.bcs).inside,trivial⟩
 |bind s t=>exact key _ _ ⟨hp,(Zl (cs:=[.str s]) ⟨.str _,trivial⟩).inside,(Zl t.bcs).inside,trivial⟩
 |atom a=>exact key _ _ ⟨hp,(Zl x.bcs).inside,trivial⟩
theorem Zdm(h:p 56)(D:List (Stp×Lt)):Yi (fun c=>Inside n p c) (D.map (fnV n 56)):=Z5 fun c hc=>by
 obtain⟨q,_,rfl⟩:=Qb.1 hc;exact Zsn h q
def ZsS(n ls bs:Nat)(K2 S1:List Str)(D:List (Stp×Lt))(now:List Bnd)(H:Za)(i:Nat):Zb:=
 ⟨[(98,.int .i64 i),(97,.int .i64 D.length),(96,.msl 1 n 200 D.length),(13,.ptr n 56 0),(10,.iptr [.map n 39])],[(39,.map (encS K2)),(51,.map (encS S1)),(200,.Zg 84 1 (D.map (fnV n 56)) D.length),(56,Ze8 n ls bs now D.length)],H⟩
theorem Zvx(hE:ExpOK)(n:Nat)(H:Za)(hT:Tabs H)(hn:0<n)(ls bs:Nat)(hls:ls<n)(s:Sto)(hs:Yf H ls bs s)(hok:Ok s)(l:List Lt)(b:Bnd)(hb:b.length≤1000)(F:List Lt)(hF:Zee l b F)(hvb:validB b=true)
  (K2 S1 S0:List Str) (hK2:∀x,x∈K2↔x∈Z7 l b) (hS0:∀x,x∈S0↔x∈Zq b) (D:List (Stp×Lt)) (X:List Str×List Lt) (hP:plG F.length S0 F=(D,X)) (ho:∀x∈l,okX x) (hpl:VP (Zq b) (XQ l (Z7 l b))=some (D.map Prod.fst))
  (hj:Xf s.A l b=if(WZ s.A (D.map Prod.fst) [b]).2=0 then(XM YJ ((WZ s.A (D.map Prod.fst) [b]).1.map (Jb (Z7 l b))),0)else([],(WZ s.A (D.map Prod.fst) [b]).2)) (B:Base):
  AKc ⟨Tryz.prog,tt,⟨none,B⟩,n,Tryz.f10.ntmps⟩ [.code (ZQ Tryz.f10).snd.snd.snd.snd.snd.snd.snd.snd.snd.snd] (PostF Tryz.prog tt n Tryz.f10.results.toList (Q10 n s l b H)) (Zmc n ls bs K2 S1 D [b] H):=by
 obtain⟨r0,hD,hDl,hDv⟩:=ZnK (A:=s.A) hF hvb hS0 hP;have hFl:=hF.len;unfold Zmc;refine nr ?_;simp only[go_sem,simprocAttr,Ze8];repeat refine kn rfl ?_
 refine Yc (fun i=>ZsS n ls bs K2 S1 D (Zcq s.A (D.map Prod.fst) [b] i) H i) (fun i=>Zi7 s.A (D.map Prod.fst) (Zq b) [b] i) D.length rfl ?_ r0 ?_
 ·rw[Zn9];exact KK
 intro i hi hr;refine Ya rfl ?_;rcases Qg i D.length with h|h
 ·have hil:i<(D.map Prod.fst).length:=by simpa using h
  have huse:=hr.use hF hb hDv hil;have hnl:=hr.len;have hns:=Zeq s.A (D.map Prod.fst) [b] i hil;have hstep:=hr.step (fun a ha=>hok.v a ha) hil;rw[QO]at huse hns hstep;obtain⟨q,hq⟩:∃q,q=D[i]:=⟨_,rfl⟩
  rw[←hq]at huse hns hstep;obtain⟨hqF,hqM⟩:=hD q (hq▸Qa h);have h1:((D.map (fnV n 56)).drop (i*1)).getD 0 .dead=fnV n 56 q:=by rw[Qab,hq];simp[h]
  have h2:i*1+1≤(D.map (fnV n 56)).length:=by simp;omega
  have hre:=hr.eq;rw[Qw hil,QO,←hq,WZ]at hre;generalize hN:Zcq s.A (D.map Prod.fst) [b] i=now at*;refine nq h ?_;refine nT ?_;refine nq2 h h1 ?_;refine⟨⟨om,om,om⟩,?_⟩;refine nR ?_;obtain⟨fn,cd,hfun⟩:=Zqp q;refine YW (caps:=fnC n 56 q) (avs:=[]) (ZrO n 56 q) hfun (ZtK hE (n+1) _ (hT.full hn) om n 56 ls bs (Qr n) hls (.map n 51) (.msl 1 n 200 D.length) now om (by simp[full,lkb,Ze8,prB]) ⟨.map _ _ om,.msl _ _ _ _ om⟩ s (hs.full hls _) hok q hqM (hF.sm _ hqF) (hF.op _ hqF) huse) rfl ?_;rintro r H1 ⟨rfl,rfl⟩;refine⟨_,H,(Zm n _ H 56 _).symm,.refl _ _,?_⟩;refine aS ?_;cases he:((Go.Abs.Xe (stepS s.A q.1) now).2 !=0)with
  |true=>
   have he':¬(Go.Abs.Xe (stepS s.A q.1) now).2=0:=by simpa using he
   rw[if_neg he']at hre;refine nq he ?_;refine nT ?_;refine nR ?_;refine nW ?_;unfold Q10;rw[hj,hre,if_neg he'];exact ZG (.any _ _ _) (.refl _) (Zw []) (.int _ _) rfl
  |false=>
   have he':(Go.Abs.Xe (stepS s.A q.1) now).2=0:=by simpa using he
   refine nq he ?_;refine nF ?_;refine nR ?_;refine nN ?_;refine⟨hstep he',?_⟩;rw[hns];exact KK
 ·have hi':i=D.length:=by omega
  subst hi';have hre:=hr.eq;rw[Uk sm,WZ]at hre;have hok2:=hr.ok;have hnl:=hr.len;have hln:=ZmR hF hb hDv hr;generalize Zcq s.A (D.map Prod.fst) [b] D.length=out at*;rw[hre,if_pos rfl]at hj;have hsame:∀c∈out,XY (Z7 l b) (Jb (Z7 l b) c):=fun c hc=>Zow ho hpl (hok2 c hc).1 fun n=>by
   have:=(hok2 c hc).2 n
   rwa [Q5 sm]at this
  have hSD:∀c∈out.map (Jb (Z7 l b)),SD (Z7 l b) c:=fun c hc=>by
   obtain⟨x,hx,rfl⟩:=Qb.1 hc;exact⟨hsame x hx,Uw (UH _ _) (by have:=hln x hx;omega)⟩
  refine nr ?_;simp only[go_sem,simprocAttr,QE.2 h];refine nF ?_;refine nX ?_;refine nr ?_;simp only[go_sem,simprocAttr,Ze8];refine YW (caps:=[]) (avs:=[.sl 1 (out.map Zk) .any,.fn (.func 44) [.iptr [.map n 39]]]) rfl (Zf Tryz.func43 rfl rfl) (k43 (n+1) _ out om 44 [.iptr [.map n 39]] (Jb (Z7 l b)) ⟨⟨_,_,Zf Tryz.func44 rfl rfl⟩,fun x hx m G hm hG=>?_,fun m hm=>⟨Zl (cs:=[.map n 39]) ⟨.map _ _ om,trivial⟩,trivial⟩⟩ n 202 (Qr n) (by simp[full,lkb])) sS ?_
  ·rw[←Zl6 hK2];exact k44 m G (hT.up fun k=>by rw[hG 0 k om,Zj hn]) om n 39 om K2 (by rw[hG _ _ om];simp[full,lkb]) x (by have:=hln x hx;omega) fun q hq=>YC ((hok2 x hx).1.val q hq)
  rintro r H1 ⟨rfl,rfl⟩;refine⟨_,H,(Zm n _ H 202 _).symm,.refl _ _,?_⟩;obtain⟨rs,hrs⟩:∃rs,rs=out.map (Jb (Z7 l b)):=⟨_,rfl⟩
  have hrl:out.length=rs.length:=by rw[hrs,Qv]
  rw[←hrs,hrl];rw[←hrs]at hSD hj;refine aS ?_;refine nR ?_;refine YW (caps:=[]) (avs:=[.msl 1 n 202 rs.length,.fn (.func 51) []]) rfl (Zf Tryz.func50 rfl rfl) (k50 (n+1) _ n 202 (Z7 l b) rs hSD om (by simp[full,lkb,flat_bnds])) sS ?_;rintro r H1 ⟨rfl,ys,hp,ha,rfl⟩;refine⟨_,H,(Zm n _ H 202 _).symm,.refl _ _,?_⟩;have hyl:rs.length=ys.length:=hp.length_eq.symm;have hyg:∀c∈ys,SD (Z7 l b) c:=fun c hc=>hSD c (hp.mem_iff.1 hc)
  have hkp:kpt YJ ys ys.length=XM YJ rs:=ZmL (Zts _) hSD hp ha;refine aq hyl ?_;refine nR ?_;refine YW (caps:=[]) (avs:=[.msl 1 n 202 ys.length,.fn (.func 53) []]) rfl (Zf Tryz.func52 rfl rfl) (k52 (n+1) _ n 202 (Qr n) ys om (fun c hc=>⟨(hyg c hc).2,fun q hq=>YC ((hyg c hc).1.1.val q hq)⟩) (by simp[full,lkb])) sS ?_;rintro r H1 hq;unfold Zul at hq;rw[hkp]at hq;have hin:∀q:List Bnd,∀c∈flat (q.map Zk),Inside n (fun k=>k≠202) c:=fun q c hc=>((ZhJ (n:=n) (m:=0) q).1 c hc).inside
  have hLi:∀p∈[(39,Ze.map (encS K2)),(51,.map (encS S1)),(200,.Zg 84 1 (D.map (fnV n 56)) D.length),(56,.box [.map n 51,.ptr ls bs 0,.sl 1 (out.map Zk) .any,.msl 1 n 200 D.length])],p.2.Inside n (fun k=>k≠202):=fun p hp=>by
   simp only[Qk,Qy,or_false]at hp;rcases hp with rfl|rfl|rfl|rfl
   ·exact⟨fun c hc=>((WE (n:=n) K2).1 c hc).inside,by simp[Ze.at_]⟩
   ·exact⟨fun c hc=>((WE (n:=n) S1).1 c hc).inside,by simp[Ze.at_]⟩
   ·exact⟨fun c hc=>(Zdm (p:=fun k=>k≠202) dc D).mem c hc,by simp[Ze.at_]⟩
   ·exact Ze.ZA (ZtB hls dc dc out D.length)
  rcases hq with⟨rfl,rfl,e⟩|⟨rfl,hpos,hle,rfl⟩
  ·rw[e]at hkp;refine⟨_,H,rfl,.refl _ _,?_⟩;refine aS ?_;refine ZK (Xp (tm':=[(6,.sl 1 (ys.map Zk) .any),(7,.int .i64 0)]) (j:=202) (ys.map Zk) rfl rfl sm (ZmG ys) (hin ys) (fun p hp=>?_) hLi) ?_
   ·simp only[Qk,Qy,or_false]at hp;rcases hp with rfl|rfl
    ·exact .inr ⟨1,rfl,rfl⟩
    ·exact .inl ⟨.refl _,.int _ _⟩
   refine nV ?_;unfold Q10;rw[hj,e];exact ZG (.refl _) (.refl _) (Zw _) (.int _ _) rfl
  ·refine⟨_,H,(Zm n _ H 202 _).symm,.refl _ _,?_⟩;refine aS ?_;generalize XM YJ rs=U at*;refine ZK (JR (tm':=[(6,.sl 1 (U.map Zk) .any),(7,.int .i64 0)]) (j:=202) (U.map Zk++List.replicate (ys.length - U.length) zBn) rfl rfl (by simp;omega) (fun x hx=>?_) (fun c hc=>?_) (fun p hp=>?_) hLi) ?_
   ·rcases Qj.1 hx with hx|hx
    ·exact ZmG U x hx
    ·rw[(Ug.1 hx).2];rfl
   ·obtain⟨z,hz,hc⟩:=Qz.1 hc;rcases Qj.1 hz with hz|hz
    ·obtain⟨y,_,rfl⟩:=Qb.1 hz;exact(Below.cells (Zx n y) c hc).inside
    ·rw[(Ug.1 hz).2]at hc;simp only[zBn,AV.cells,Ql]at hc;subst hc;exact inZ
   ·simp only[Qk,Qy,or_false]at hp;rcases hp with rfl|rfl
    ·exact .inr (.inr ⟨0,U.length,rfl,by rw[GV,MW sm]⟩)
    ·exact .inl ⟨.refl _,.int _ _⟩
   refine nV ?_;unfold Q10;rw[hj];exact ZG (.refl _) (.refl _) (Zw _) (.int _ _) rfl
def Zkd(K:List Str)(i:Nat):Str:=K.getD i []
theorem Zlp(K:List Str):(List.range K.length).map (Zkd K)=K:=by
 apply MZ
 ·simp
 ·intro i h1 h2;simp[Zkd,h2]
def Zpr(n ls bs:Nat)(l:List Lt)(b:Bnd)(K2 S0:List Str)(H:Za)(seen:List Nat):Zb:=
 ⟨[(78,.ptr n 78 0),(16,.sl 1 ((seen.map (Zkd K2)).map .str) (.buf n 201)),(13,.ptr n 56 0),(10,.iptr [.map n 39]),(0,.sl 13 (l.map Lt.enc) .any)],
  [(78,.iter n 39 K2.length seen),(201,.buf 9 1 seen.length),(39,.map (encS K2)),(51,.map (encS S0)),(200,.Zg 84 1 [] 0),(56,Ze8 n ls bs [b] 0)],H⟩
theorem ZuV(hE:ExpOK)(n:Nat)(H:Za)(hT:Tabs H)(hn:0<n)(ls bs:Nat)(hls:ls<n)(s:Sto)(hs:Yf H ls bs s)(hok:Ok s)(l:List Lt)(hl:l.length≤10)(hsm:∀x∈l,Sm x)(hop:∀x∈l,0≤x.op∧x.op≤255)(b:Bnd)(hb:b.length≤1000)(hv:l.all Y7=true)(hvb:validB b=true)
  (K2 S0:List Str) (hK:K2.Nodup) (hK2:∀x,x∈K2↔x∈Z7 l b) (hS0:∀x,x∈S0↔x∈Zq b) (B:Base):
  AKc ⟨Tryz.prog,tt,⟨none,B⟩,n,Tryz.f10.ntmps⟩ [.code (ZQ Tryz.f10).snd.snd.snd.snd.snd.snd.snd.snd] (PostF Tryz.prog tt n Tryz.f10.results.toList (Q10 n s l b H)) (Zmn n ls bs l b K2 S0 H):=by
 unfold Zmn;have hKl:K2.length≤7100:=Uw (Xq hK fun x hx=>(hK2 x).1 hx) (Zgk hl hsm hb);have hel:(encS K2).length=K2.length:=by simp[encS,Zbb]
 have hgd:∀j (h:j<K2.length),(encS K2).getD j (.dead,.dead)=(.str K2[j],.agg []):=fun j h=>by
  rw[Qp];simp[encS,Zbb,h]
 have hso:∀(q:Nat→Prop) (r:List Str),q 201→Inside n q (.sl 1 (r.map .str) (.buf n 201)):=fun q r h=>Abs.ZW (fun x hx=>by obtain⟨u,_,rfl⟩:=Qb.1 hx;exact .str _) h
 have hit:∀(q:Nat→Prop) (m:Nat) (z:List Nat),q 39→Ze.Inside n q (.iter n 39 m z):=fun q m z h=>⟨by simp[Ze.avs],fun q' hq=>by simp only[Ze.at_,Ql]at hq;subst hq;exact .inr ⟨rfl,h⟩⟩
 refine nR ?_;refine kK ?_;refine XB 16 201 9 1 rfl rfl ?_;refine Zal (fun m st=>∃seen:List Nat,seen.Nodup∧(∀i∈seen,i<K2.length)∧m=K2.length - seen.length∧st=Zpr n ls bs l b K2 S0 H seen) (m0:=K2.length) (s0:=Zpr n ls bs l b K2 S0 H []) rfl ?_ ⟨[],sm,sm,sm,rfl⟩ ?_
 ·rw[hel];exact KK
 rintro m st ⟨seen,hnd,hlt,rfl,rfl⟩;refine Ya rfl ?_;have hlen:seen.length≤K2.length:=by
  have:=Xq hnd (q:=List.range K2.length) (fun i hi=>by simpa using hlt i hi);simpa using this
 refine nR ?_;refine⟨78,n,39,encS K2,seen,rfl,by simp only[go_sem,simprocAttr,hel],sS,fun hall=>?_,fun i hi hni=>?_⟩
 ·refine aS ?_;refine nF ?_;refine nX ?_;have hp:(seen.map (Zkd K2)).Perm K2:=by
   conv=>rhs;rw[←Zlp K2]
   refine List.Perm.map _ ((QaO hnd Qaz).2 fun i=>?_);rw[Gg];exact⟨hlt i,fun h=>hall i om⟩
  have hll:seen.length=(seen.map (Zkd K2)).length:=by simp
  rw[hll];generalize seen.map (Zkd K2)=ks at*;have hks:∀k,k∈ks↔k∈Z7 l b:=fun k=>by rw[hp.mem_iff,hK2]
  have hkl:ks.length≤7100:=by rw[hp.length_eq];exact hKl
  have hfl:XQ l ks=XQ l (Z7 l b):=Zem (fun x=>by rw[Qj,Qj,hks]) l 0;have hj26:=j26 l hl hsm ks om;rw[hfl]at hj26;obtain⟨F,hF⟩:∃F,F=XQ l (Z7 l b):=⟨_,rfl⟩
  rw[←hF]at hj26;refine nR ?_;refine cQ (Zi.args (hj26 (n+1) _ om (hT.full hn)) (args':=[.sl 13 (l.map Lt.enc) .any,.sl 1 (ks.map .str) (.buf n 201)]) ⟨.refl _,.any _ _ _,trivial⟩) ?_;refine aS ?_;have hFO:Zee l b F:=hF▸Zrm hl hsm hop hb hv;have hFl:=hFO.len;refine YW (caps:=[]) (avs:=[.ptr n 56 0,.sl 13 (F.map Lt.enc) .any]) rfl (Zf Tryz.func42 rfl rfl) (k42 (n+1) _ (hT.full hn) n 56 51 200 hn (Qr n) dc (.ptr ls bs 0) (.sl 1 ([b].map Zk) .any) S0 F hFO.sm om ⟨.ptr _ _ _ om,Zw _⟩ (by simp[full,lkb,Ze8]) (by simp[full,lkb]) (by simp[full,lkb])) sS ?_;rintro r H1 ⟨rfl,rfl⟩;generalize hP:plG F.length S0 F=P;obtain⟨D,S1,R⟩:=P;refine⟨[(78,.iter n 39 K2.length seen),(201,.buf 9 1 ks.length),(39,.map (encS K2)),(51,.map (encS S1)),(200,.Zg 84 1 (D.map (fnV n 56)) D.length),(56,Ze8 n ls bs [b] D.length)],H,?_,.refl _ _,?_⟩
  ·unfold plH;rw[←Zm,←Zm,←Zm];rfl
  refine aS ?_;cases hbd:R.all (XV S1)with
  |false=>
   refine aS ?_;refine nT ?_;refine nR ?_;refine nV ?_;have hj:Xf s.A l b=([],120):=by rw[ZhN hv hvb hS0 (hF▸hP),hbd];rfl
   unfold Q10;rw[hj];exact ZG (.any _ _ _) (.refl _) (Zw []) (.int _ _) rfl
  |true=>
   refine aS ?_;refine nF ?_;refine Wq rfl ?_;have hj:=ZhN (A:=s.A) hv hvb hS0 (hF▸hP);rw[hbd,if_pos rfl]at hj;have hD:∀c∈D.map (fnV n 56),Below (n+1) c:=fun c hc=>by obtain⟨q,_,rfl⟩:=Qb.1 hc;exact Zcl n 56 (Qr n) q
   refine ZK (s':=Zmc n ls bs K2 S1 D [b] H) ?_ ?_
   ·unfold Zmc;exact KK
   exact Zvx hE n H hT hn ls bs hls s hs hok l b hb F hFO hvb K2 S1 S0 hK2 hS0 D (S1,R) hP (fun x hx=>(Zch (QA.1 hv x hx)).1) (Zoi hS0 (hF▸hP) hbd) hj B
 ·have hi':i<K2.length:=by omega
  have hgi:=hgd i hi';refine aq hgi ?_;refine nT ?_;obtain⟨h0,t0,het⟩:∃h0 t0,seen++[i]=h0::t0:=by
   cases seen with
   |nil=>exact⟨i,[],rfl⟩
   |cons x y=>exact⟨x,y++[i],rfl⟩
  have hgl:∀p,(h0::t0).getLast p=i:=fun p=>by
   have:∀(l:List Nat) (q:l≠[]),l=seen++[i]→l.getLast q=i:=fun l q e=>by subst e;simp
   exact this _ p het.symm
  rw[het];refine nq3 hel hgl hgi ?_;refine⟨hi',?_⟩;refine nR ?_;refine⟨by first|exact⟨rfl,dc⟩|exact rfl,⟨Zn (by have:=hKl;omega),by have:=hKl;omega⟩,?_⟩;rw[←het];refine nN ?_;have hnd':(seen++[i]).Nodup:=GH.2 ⟨hnd,sm,fun x hx y hy e=>by
   simp only[Ql]at hy;subst hy;subst e;exact hni hx⟩
  have hlt':∀x∈seen++[i],x<K2.length:=fun x hx=>by
   rcases Qj.1 hx with hx|hx
   ·exact hlt x hx
   ·simp only[Ql]at hx;subst hx;exact hi'
  have hl1:(seen++[i]).length=seen.length+1:=by simp
  have hle':=Xq hnd' (q:=List.range K2.length) (fun x hx=>by simpa using hlt' x hx);simp only[Qh,Qo,QB,MS,QF]at hle';have hka:Zkd K2 i=K2[i]:=by simp[Zkd,hi']
  refine⟨K2.length - (seen++[i]).length,Zpr n ls bs l b K2 S0 H (seen++[i]),by simp only[Qh,Qo,QB];omega,?_,seen++[i],hnd',hlt',rfl,rfl⟩;refine Zh ?_ ?_ ?_ ?_<;>repeat' first|apply q0|exact xx|apply aI
  all_goals first|exact(Yb l).inside|exact(Zx n _).inside|exact Zkj rfl|exact Zhe rfl|exact ZbE _|exact ZaZ rfl|exact Inside.ptr _ _ _ (.inl hls)|exact(Zw _).inside|exact .msl _ _ _ _ (.inr ⟨rfl,rfl⟩)|exact hso _ (List.map _ _) rfl|(intro a ha;simp[Ze.avs]at ha;done)|(intro q hq;simp only[Ze.at_,Ql]at hq;subst hq;exact .inr ⟨rfl,rfl⟩)|(simp only[go_sem,simprocAttr,QG,hka];exact .refl _)|(simp only[go_sem,simprocAttr,hl1];done)
theorem ZuW(hE:ExpOK)(n:Nat)(H:Za)(hT:Tabs H)(hn:0<n)(ls bs:Nat)(hls:ls<n)(s:Sto)(hs:Yf H ls bs s)(hok:Ok s)(l:List Lt)(hl:l.length≤10)(hsm:∀x∈l,Sm x)(hop:∀x∈l,0≤x.op∧x.op≤255)(b:Bnd)(hb:b.length≤1000)(hv:l.all Y7=true)(hvb:validB b=true)(K1:List Str)(hK1:K1=ZO [] (l.flatMap ZJ))(B:Base):
  AKc ⟨Tryz.prog,tt,⟨none,B⟩,n,Tryz.f10.ntmps⟩ [.code (ZQ Tryz.f10).snd.snd.snd.snd.snd.snd] (PostF Tryz.prog tt n Tryz.f10.results.toList (Q10 n s l b H)) (Zm0 n ls bs l b K1 H):=by
 unfold Zm0;refine nR ?_;refine kK ?_;refine Zr (Zs2 n ls bs l b K1 H) b.length rfl ?_ ?_
 ·exact KK
 intro i hi;refine Ya rfl ?_;rcases Qg i b.length with h|h
 ·have hstep:∀S,ZO (ZO S (Zq (b.take i))) [b[i].1]=ZO S (Zq (b.take (i+1))):=fun S=>by
   rw[Qn h];unfold Zq;rw[QG,Jh];rfl
  refine nr ?_;refine aq h ?_;refine nT ?_;refine nr ?_;simp only[go_sem,simprocAttr,getD_map eBd _ _ h,h];refine nD o10a ?_;simp only[go_sem,simprocAttr,o10a,Ze8];refine⟨rfl,?_⟩;refine Zp2 rfl (k:=51) (x:=b[i].1) (S:=ZO [] (Zq (b.take i))) rfl sS ?_;rw[hstep];simp only[go_sem,simprocAttr];refine nR ?_;refine⟨rfl,?_⟩;refine YW (caps:=[]) (avs:=[.map n 39,.sl 1 [.str b[i].1] .full]) rfl (Zf Tryz.func40 rfl rfl) (Zi.args (j40 (n+1) _ n 39 (Qr n) (ZO K1 (Zq (b.take i))) [b[i].1] sm (by simp only[full,if_true];rfl)) ⟨.refl _,.any _ _ _,trivial⟩) sS ?_;rintro r H1 ⟨rfl,rfl⟩;have hs39:=hstep K1;refine⟨_,H,(Zm n _ H 39 _).symm,.refl _ _,?_⟩;rw[hs39];simp only[go_sem,simprocAttr];refine nR ?_;refine nN ?_;exact KK
 ·have hi':i=b.length:=by omega
  subst hi';rw[QM];refine nq (QE.2 h) ?_;refine nF ?_;refine nX ?_;refine nR ?_;refine ZK (s':=Zmn n ls bs l b (ZO K1 (Zq b)) (ZO [] (Zq b)) H) ?_ ?_
  ·unfold Zmn;exact KK
  exact ZuV hE n H hT hn ls bs hls s hs hok l hl hsm hop b hb hv hvb (ZO K1 (Zq b)) (ZO [] (Zq b)) (addsN_nodup (hK1▸addsN_nodup .nil)) (fun x=>by rw[Vz,hK1,Vz];simp[Z7]) (fun x=>by rw[Vz];simp) B
end
noncomputable abbrev c200:Code:=(ZQ Tryz.f200).snd.snd.snd.snd.fst.snd
def Jz(ls:List (List Int))(n:Nat):List (Nat×AV):=[(28,.fn (.func 257) [.iptr [.sl 1 (ls.map eIs) .any]]),(8,.ptr n 8 0),(2,.ptr n 2 0)]
def Zga(op:Str)(n:Nat)(S:List Int):List (Nat×Ze):=[(26,.map (encI S)),(8,.box [.map n 26]),(2,.box [.str op])]
noncomputable def Zbk(op:Str)(ls:List (List Int))(n l:Nat)(σ:List Int×Bool):List (Nat×Ze):=setb (Zga op n σ.1) 100 (.lrec l Tryz.f200.ntmps 201 (Jz ls n) #[29] c200.fst.fst c200.fst.snd (if σ.2 then .busy else .ready) none)
noncomputable def Zbs(op:Str)(ls:List (List Int))(n l:Nat)(H:Za)(σ:List Int×Bool):Za:=full n (Zbk op ls n l σ) H
def JV(op:Str)(σ:List Int×Bool)(row:List Int):Option (List Int×Bool):=(Zac op σ.1 row).map fun S=>(S,false)
theorem ZdW(op:Str):∀(l:List (List Int)) (S:List Int),l.foldlM (JV op) (S,false)=(l.foldlM (Zac op) S).map fun T=>(T,false)
 |[],S=>rfl
 |r::l,S=>by
  rw[Me,Me];unfold JV;cases h:Zac op S r with
  |none=>rfl
  |some T=>exact ZdW op l T
section
variable {H:Za} {n l:Nat} {ls:List (List Int)}
theorem ZeZ{op:Str}(o o':List Int×Bool):low (n+1) (Zbs op ls n l H o') (Zbs op ls n l H o)=Zbs op ls n l H o':=by
 funext a b;by_cases h:a<n+1
 ·rw[ZcN h]
 ·rw[JF h];unfold Zbs full;rw[if_neg om,if_neg om]
theorem ZhK{k:Nat}(l:List (List Int)):Below n (.sl k (l.map eIs) .any):=ZC fun x hx=>by obtain⟨u,_,rfl⟩:=Qb.1 hx;exact Zaa n u
theorem Zqx{op:Str}{G:Za}{S T:List Int}{b:Bool}(hA:∀a j,a<n+1→G a j=Zbs op ls n l H (S,false) a j):
  (((G.upd n 100 (.lrec l Tryz.f200.ntmps 201 (Jz ls n) #[29] c200.fst.fst c200.fst.snd .busy none)).upd n 26 (.map (encI T))).upd n 100 (.lrec l Tryz.f200.ntmps 201 (Jz ls n) #[29] c200.fst.fst c200.fst.snd (if b then .busy else .ready) none))=low (n+1) (Zbs op ls n l H (T,b)) G:=by
 funext a j;by_cases h:a<n+1
 ·rw[ZcN h];have h1:=hA a j h;unfold Za.upd;by_cases e:a=n
  ·subst e;by_cases e1:j=100
   ·subst e1;simp[Zbs,full,Zbk,Zga,setb,lkb]
   ·by_cases e2:j=26
    ·subst e2;simp[Zbs,full,Zbk,Zga,setb,lkb]
    ·simp only[e1,e2,and_false,if_false];rw[h1];simp[Zbs,full,Zbk,Zga,setb,lkb,Ne.symm e1,Ne.symm e2]
  ·simp only[e,false_and,if_false];rw[h1];simp[Zbs,full,e]
 ·rw[JF h];unfold Za.upd;simp only[show¬a=n from fun c=>h om,false_and,if_false]
theorem Yd{k:Nat}{b:Ze}(h:H l k=some b):H.upd l k b=H:=by
 funext x y;unfold Za.upd;split
 ·rename_i e;rw[e.1,e.2,h]
 ·rfl
theorem ZsK{cx:Cx}{dr:Bool}{o:Oper}{args:List Operand}{ts:List TypeId}{s:Zb}{F:Zb→Prop}{f:FuncId}{fn:Func}{c:Code}{r:AV}{avs:List AV}(hf:Fun cx.P f fn c)
  (h:PC cx.P (cx.n+1) f avs (full cx.n s.L s.H) r) (ha:Yo cx.T (evT s.tmps) args ts=avs) (hF:F ⟨Yl s.tmps o.dst r,s.L,s.H⟩):Vg cx dr o (.func f) args ts s F:=
 ZkL hf rfl (by rw[Qu,ha];exact h) hF
def o200:Opt:=⟨false,false,fun d=>if d=41 then .heap else .auto,[]⟩
theorem ZnE(l:List Int):∀c∈flat (l.map eInt),c.sc=true:=fun c hc=>by
 obtain⟨x,hx,hc⟩:=Qz.1 hc;obtain⟨y,_,rfl⟩:=Qb.1 hx;simp only[eInt,AV.cells,Ql]at hc;subst hc;rfl
theorem ZsF(op:Str)(ls:List (List Int))(N:Nat)(hN:ls.length=N+1)(hl:N+1≤1000)(n l:Nat)(H:Za):ZnF (n+1) l ls.length 3 1 eInt (Zbs op ls n l H) (JV op) (fun σ _=>σ.2=false∧σ.1.length≤1000):=by
 have hbt:Yi (fun p=>Below (n+1) p.2) (Jz ls n):=⟨Ja ⟨ZM (ZhK _),trivial⟩,.ptr _ _ _ (Qr n),.ptr _ _ _ (Qr n),trivial⟩
 refine⟨fun m G σ row hok hm hrl hA h7=>?_,fun σ σ' a b x ha hx=>?_,fun x=>⟨rfl,fun m c hc=>by simp only[eInt,AV.cells,Ql]at hc;subst hc;exact .int _ _⟩⟩
 ·obtain⟨S,b⟩:=σ;obtain⟨hb,hS⟩:=hok;simp only at hb hS;subst hb;have h100:G n 100=some (.lrec l Tryz.f200.ntmps 201 (Jz ls n) #[29] c200.fst.fst c200.fst.snd .ready none):=(hA n 100 (Qr n)).trans (by simp[Zbs,full,Zbk,Zga,setb,lkb]);have h26:G n 26=some (.map (encI S)):=(hA n 26 (Qr n)).trans (by simp[Zbs,full,Zbk,Zga,setb,lkb]);have h8:G n 8=some (.box [.map n 26]):=(hA n 8 (Qr n)).trans (by simp[Zbs,full,Zbk,Zga,setb,lkb]);have h2:G n 2=some (.box [.str op]):=(hA n 2 (Qr n)).trans (by simp[Zbs,full,Zbk,Zga,setb,lkb]);refine ZfH tt (x:=n) (y:=100) (Zf Tryz.func200 rfl rfl).get h100 om rfl dc fun B'=>?_
  show AKc _ _ _ ⟨(29,.msl 1 (n+1) 7 ls.length)::Jz ls n,[],G⟩;unfold Jz;refine nR ?_;refine nN ?_;refine⟨rfl,h100,?_⟩;refine aS ?_;obtain⟨G1,hG1⟩:∃G1,G1=G.upd n 100 (.lrec l Tryz.f200.ntmps 201 (Jz ls n) #[29] c200.fst.fst c200.fst.snd .busy none):=⟨_,rfl⟩
  have h26':G1 n 26=some (.map (encI S)):=by rw[hG1,Za.upd_ne _ _ sm];exact h26
  have h8':G1 n 8=some (.box [.map n 26]):=by rw[hG1,Za.upd_ne _ _ sm];exact h8
  have h2':G1 n 2=some (.box [.str op]):=by rw[hG1,Za.upd_ne _ _ sm];exact h2
  have h7':G1 (n+1) 7=some (.Zg 3 1 (flat (row.map eInt)) ls.length):=by rw[hG1,Za.upd_ne _ _ sm];exact h7
  have hnm:¬n=m:=by omega
  have hnm1:¬n+1=m:=by omega
  change AKc _ _ _ ⟨_,[],G.upd n 100 (.lrec l Tryz.f200.ntmps 201 (Jz ls n) #[29] c200.fst.fst c200.fst.snd .busy none)⟩;rw[←hG1];refine nq2 h2' hnm ?_;refine ZsK (Zf Tryz.func235 rfl rfl) (Znk (pre:=[.str op]) (Zvm op row om) ((Zj hm _ _ _).trans h7') om (by simp[hrl]) (Zn om) (fun x hx=>by obtain⟨y,_,rfl⟩:=Qb.1 hx;rfl) (ZnE row) (by simp[AV.sc]) (by simp[AV.sc])) sS ?_;refine aS ?_;have hlow:=fun T b=>Zqx (T:=T) (b:=b) hA
  rw[←hG1]at hlow;have h100':G1 n 100=some (.lrec l Tryz.f200.ntmps 201 (Jz ls n) #[29] c200.fst.fst c200.fst.snd .busy none):=by rw[hG1,Za.upd_same]
  cases hc:X6 op row with
  |none=>
   have hst:JV op (S,false) row=some (S,false):=by unfold JV Zac;rw[hc];rfl
   refine nr ?_;simp only[go_sem,simprocAttr,Option.isSome];refine nF ?_;refine Wq rfl ?_;refine nN ?_;refine⟨h100',(S,false),hst,rfl,?_⟩;have:=hlow S false;rw[Yd h26']at this;exact this
  |some v=>
   refine nr ?_;simp only[go_sem,simprocAttr,Option.isSome,Option.getD];refine nT ?_;refine nq3 h8' hnm h26' ?_;rw[Zqu];refine⟨⟨rfl,Zph S⟩,.inr (Za3 _),?_⟩;obtain⟨T,hT⟩:∃T,T=Zdy S v:=⟨_,rfl⟩
   have hTl:T.length≤S.length+1:=hT▸ZpE;have hst:JV op (S,false) row=if 1000<T.length then none else some (T,false):=by
    unfold JV Zac;rw[hc,hT];simp only;split<;>rfl
   rw[←hT];refine ZeL 197 tok o200 rfl (pre:=[_,_]) (post:=[]) rfl rfl rfl rfl ?_;have hu8:(G1.upd n 26 (.map (encI T))) n 8=some (.box [.map n 26]):=by rw[Za.upd_ne _ _ sm];exact h8'
   have hu26:full m [] (G1.upd n 26 (.map (encI T))) n 26=some (.map (encI T)):=(Zj om _ _ _).trans (Za.upd_same ..);have hu100:(G1.upd n 26 (.map (encI T))) n 100=some (.lrec l Tryz.f200.ntmps 201 (Jz ls n) #[29] c200.fst.fst c200.fst.snd .busy none):=by rw[Za.upd_ne _ _ sm];exact h100'
   simp only[go_sem,simprocAttr,o200,hnm,hu8];refine Step.look (ZlA (re:=_) tok rfl rfl rfl hu26) ?_;rw[Zj6];simp only[go_sem,simprocAttr,o200];refine JL (Zf Tryz.func232 rfl rfl) (e232 (m+1) _ (T.length:Int)) sS ?_ ?_
   ·rintro r H1 ⟨hle,rfl,rfl⟩;refine⟨_,_,rfl,.refl _ _,?_⟩;rw[if_neg om]at hst;refine aS ?_;refine nN ?_;exact⟨hu100,(T,false),hst,rfl,hlow T false⟩
   ·rintro H1 ⟨hgt,rfl⟩;refine⟨_,_,rfl,.refl _ _,?_⟩;rw[if_pos om]at hst;refine⟨rfl,hst,(T,true),?_⟩;have:=hlow T true;rw[if_pos rfl,Yd hu100]at this;exact this
 ·unfold Zbs full at hx⊢;by_cases h:a=n
  ·rw[if_pos h]at hx;have hb:Yi (fun q:Nat×Ze=>q.2.Below (n+1)) (Zbk op ls n l σ'):=
    ⟨Za3 _,Ze.ZB ⟨.map _ _ (Qr n),trivial⟩,Ze.ZB ⟨.str _,trivial⟩,Ze.ZaL hbt,trivial⟩
   exact .inr (hb.mem _ (lkb_mem hx))
  ·rw[if_neg h]at hx⊢;exact .inl hx
def ZtC(op:Str)(ps:List (List Tm))(n:Nat)(H:Za)(i:Nat):Zb:=
 ⟨[(16,.int .i64 i),(15,.int .i64 ps.length),(14,.sl 1 (ps.map eTs) .any),(5,.sl 1 (((ps.take i).map Ym).map eIs) (.buf n 200)),(2,.ptr n 2 0)],[(200,.buf 113 1 i),(2,.box [.str op])],H⟩
def Zh0(S:List Int)(i:Nat):Int:=S.getD i 0
theorem Zlb(S:List Int):(List.range S.length).map (Zh0 S)=S:=by
 apply MZ
 ·simp
 ·intro i h1 h2;simp[Zh0,h2]
def Zo1(S:List Int)(n:Nat)(H:Za)(seen:List Nat):Zb:=
 ⟨[(44,.ptr n 44 0),(12,.msl 4 n 201 seen.length)],[(44,.iter n 26 S.length seen),(201,.Zg 40 4 (flat (((seen.map (Zh0 S)).map Yg).map Tm.enc)) seen.length),(26,.map (encI S))],H⟩
theorem ZuF(op:Str)(ps:List (List Tm))(n:Nat)(H:Za)(S:List Int)(hS:(Ye (ps.map Ym)).foldlM (Zac op) []=some S)(B:Base):
  AKc ⟨Tryz.prog,tt,⟨none,B⟩,n,Tryz.f200.ntmps⟩ [.code (ZQ Tryz.f200).snd.snd.snd.snd.snd] (Zec Tryz.prog tt 197 n Tryz.f200.results.toList (fun r H'=>∃l,Zbm op ps=some l∧r= .sl 4 (l.map Tm.enc) .any∧H'=H) (fun H'=>Zbm op ps=none∧H'=H))
   ⟨[(8,.ptr n 8 0)],[(26,.map (encI S)),(8,.box [.map n 26])],H⟩:=by
 obtain⟨hnd0,hSl,_⟩:=ZdJ GU sm hS;have hel:=Zj6 S;have hgd:∀j (h:j<S.length),(encI S).getD j (.dead,.dead)=(.int .i64 S[j],.int .i64 S[j]):=fun j h=>by
  rw[Qp];simp[encI,Zbb,h,eInt]
 refine nR ?_;refine nR ?_;refine kK ?_;refine Zcc 12 201 40 4 rfl rfl ?_;refine Zal (fun m st=>∃seen:List Nat,seen.Nodup∧(∀i∈seen,i<S.length)∧m=S.length - seen.length∧st=Zo1 S n H seen) (m0:=S.length) (s0:=Zo1 S n H []) rfl ?_ ⟨[],sm,sm,sm,rfl⟩ ?_
 ·rw[hel];exact KK
 rintro m st ⟨seen,hnd,hlt,rfl,rfl⟩;refine Ya rfl ?_;have hlen:seen.length≤S.length:=by
  have:=Xq hnd (q:=List.range S.length) (fun i hi=>by simpa using hlt i hi);simpa using this
 refine nR ?_;refine⟨44,n,26,encI S,seen,rfl,by simp only[go_sem,simprocAttr,hel],sS,fun hall=>?_,fun i hi hni=>?_⟩
 ·refine aS ?_;refine nF ?_;refine nX ?_;have hp:(seen.map (Zh0 S)).Perm S:=by
   conv=>rhs;rw[←Zlb S]
   refine List.Perm.map _ ((QaO hnd Qaz).2 fun i=>?_);rw[Gg];exact⟨hlt i,fun h=>hall i om⟩
  obtain⟨xs,hxs⟩:∃xs,xs=(seen.map (Zh0 S)).map Yg:=⟨_,rfl⟩
  have hxl:seen.length=xs.length:=by rw[hxs];simp
  rw[←hxs,hxl];obtain⟨ho1,ho2,ho3⟩:=Zna hS (hxs▸hp.map Yg);refine kK ?_;refine Yx 197 tok (pre:=[_]) (post:=[_]) rfl rfl rfl rfl ?_;refine aS ?_;refine JL (Zf Tryz.func236 rfl rfl) (Zva (n+1) _ n 201 (Qr n) xs ho3 om (by simp[full,lkb])) sS ?_ ?_
  ·rintro r H1 ⟨_,hq⟩;have hLi:∀p∈[(44,Ze.iter n 26 S.length seen),(26,Ze.map (encI S))],p.2.Inside n (fun k=>k≠201):=fun p hp=>by
    simp only[Qk,Qy,or_false]at hp;rcases hp with rfl|rfl
    ·exact⟨by simp[Ze.avs],fun q' hq=>by simp only[Ze.at_,Ql]at hq;subst hq;exact .inr ⟨rfl,show(26:Nat)≠201 by decide⟩⟩
    ·exact⟨fun c hc=>((Za3 (n:=n) S).1 c hc).inside,by simp[Ze.at_]⟩
   generalize XM cmpT xs=U at*;rcases hq with⟨rfl,e,rfl⟩|⟨rfl,hpos,hle,rfl⟩
   ·refine⟨_,H,(Zm n _ H 201 _).symm,.refl _ _,?_⟩;refine aS ?_;refine ZK (Xp (tm':=[(4,.sl 4 (U.map Tm.enc) .any)]) (j:=201) (U.map Tm.enc) rfl rfl (by simp[e]) (ZlH U) (ZaN U).mem (fun p hp=>?_) hLi) ?_
    ·simp only[Qk,Qy,or_false]at hp;subst hp;exact .inr ⟨4,rfl,rfl⟩
    refine nV ?_;exact Vk (Zo (.refl _) (ZE _) ⟨U,ho1,rfl,rfl⟩)
   ·refine⟨_,H,(Zm n _ H 201 _).symm,.refl _ _,?_⟩;refine aS ?_;refine ZK (JR (tm':=[(4,.sl 4 (U.map Tm.enc) .any)]) (j:=201) (U.map Tm.enc++List.replicate (xs.length - U.length) zTm) rfl rfl (by simp;omega) (fun x hx=>?_) (fun c hc=>?_) (fun p hp=>?_) hLi) ?_
    ·rcases Qj.1 hx with hx|hx
     ·exact ZlH U x hx
     ·rw[(Ug.1 hx).2];rfl
    ·obtain⟨z,hz,hc⟩:=Qz.1 hc;rcases Qj.1 hz with hz|hz
     ·exact(ZaN U).mem c (Qz.2 ⟨z,hz,hc⟩)
     ·rw[(Ug.1 hz).2]at hc;exact Yi.mem (l:=zTm.cells) (p:=fun c=>Inside n (fun k=>k≠201) c) ⟨.int _ _,.int _ _,.str _,inZ,trivial⟩ c hc
    ·simp only[Qk,Qy,or_false]at hp;subst hp;exact .inr (.inr ⟨0,U.length,rfl,by rw[GV,MW sm]⟩)
    refine nV ?_;exact Vk (Zo (.refl _) (ZE _) ⟨U,ho1,rfl,rfl⟩)
  ·rintro H1 ⟨hgt,_⟩;omega
 ·have hi':i<S.length:=by omega
  have hgi:=hgd i hi';refine aq hgi ?_;refine nT ?_;obtain⟨h0,t0,het⟩:∃h0 t0,seen++[i]=h0::t0:=by
   cases seen with
   |nil=>exact⟨i,[],rfl⟩
   |cons x y=>exact⟨x,y++[i],rfl⟩
  have hgl:∀p,(h0::t0).getLast p=i:=fun p=>by
   have:∀(l:List Nat) (q:l≠[]),l=seen++[i]→l.getLast q=i:=fun l q e=>by subst e;simp
   exact this _ p het.symm
  rw[het];refine nq3 hel hgl hgi ?_;refine⟨hi',?_⟩;refine nR ?_;refine WM (Zf Tryz.func233 rfl rfl) (e233 S[i]) sS ?_;refine aS ?_;refine⟨rfl,⟨Zn om,om⟩,?_⟩;rw[←het];refine nN ?_;have hnd':(seen++[i]).Nodup:=GH.2 ⟨hnd,sm,fun x hx y hy e=>by
   simp only[Ql]at hy;subst hy;subst e;exact hni hx⟩
  have hlt':∀x∈seen++[i],x<S.length:=fun x hx=>by
   rcases Qj.1 hx with hx|hx
   ·exact hlt x hx
   ·simp only[Ql]at hx;subst hx;exact hi'
  have hl1:(seen++[i]).length=seen.length+1:=by simp
  have hle':=Xq hnd' (q:=List.range S.length) (fun x hx=>by simpa using hlt' x hx);simp only[Qh,Qo,QB,MS,QF]at hle';have hfl:flat (((seen.map (Zh0 S)).map Yg).map Tm.enc)++flat [(Yg S[i]).enc]=flat ((((seen++[i]).map (Zh0 S)).map Yg).map Tm.enc):=by
   have hka:Zh0 S i=S[i]:=by simp[Zh0,hi']
   rw[←YU,QG,QG,QG,Qs,hka];rfl
  rw[hfl];refine⟨S.length - (seen++[i]).length,Zo1 S n H (seen++[i]),by simp only[Qh,Qo,QB];omega,?_,seen++[i],hnd',hlt',rfl,rfl⟩;refine Zh ?_ ?_ ?_ ?_<;>repeat' first|apply q0|exact xx|apply aI
  all_goals first|exact ZbB S|exact ZaZ rfl|exact .msl _ _ _ _ (.inr ⟨rfl,rfl⟩)|(intro a ha;simp[Ze.avs]at ha;done)|(intro q hq;simp only[Ze.at_,Ql]at hq;subst hq;exact .inr ⟨rfl,rfl⟩)|exact ZaN _|(simp only[go_sem,simprocAttr,hl1];try exact .refl _)
theorem Zvl(op:Str)(ps:List (List Tm))(N:Nat)(hN:ps.length=N+1)(hl:N+1≤1000)(hq:∀q∈ps,q.length≤1000000)(n:Nat)(H:Za)(hn:0<n)(hT:Tabs H):
  Z9 Tryz.prog 197 n 200 [.str op,.sl 1 (ps.map eTs) .any] H (fun r H'=>∃l,Zbm op ps=some l∧r= .sl 4 (l.map Tm.enc) .any∧H'=H) (fun H'=>Zbm op ps=none∧H'=H):=by
 have hso:∀(q:Nat→Prop) (r:List (List Int)),q 200→Inside n q (.sl 1 (r.map eIs) (.buf n 200)):=fun q r h=>Abs.ZW (fun x hx=>by obtain⟨u,_,rfl⟩:=Qb.1 hx;exact Zaa n u) h
 refine ZfD (T:=tt) tok (Zf Tryz.func200 rfl rfl) sm fun B=>?_
 refine ZhL tt (d:=(ZQ Tryz.f200).snd.snd.snd.snd) [(ZQ Tryz.f200).fst,(ZQ Tryz.f200).snd.fst,(ZQ Tryz.f200).snd.snd.fst,(ZQ Tryz.f200).snd.snd.snd.fst] rfl ?_;show AKc _ [.code _,.code _,.code _,.code _] _ _;refine nR ?_;refine nR ?_;refine nR ?_;refine kK ?_;refine XB 5 200 113 1 rfl rfl ?_;refine Zr (ZtC op ps n H) ps.length rfl ?_ ?_
 ·exact KK
 intro i hi;refine Ya rfl ?_;rcases Qg i ps.length with h|h
 ·refine nr ?_;simp only[go_sem,simprocAttr,h];refine nT ?_;refine nr ?_;simp only[go_sem,simprocAttr,getD_map eTs _ _ h,h];refine nr ?_;simp only[go_sem,simprocAttr,eTs];refine WM (Zf Tryz.func199 rfl rfl) (e199 ps[i] (hq _ (Qa h))) sS ?_;have htl:(ps.take i).length=i:=by rw[QI];omega
  have hts:((ps.take i).map Ym).map eIs++[AV.sl 1 ((Ym ps[i]).map eInt) .any]=((ps.take (i+1)).map Ym).map eIs:=by rw[Qn h,QG,QG];rfl
  refine aq2 htl hts ?_;refine⟨rfl,⟨Zn om,om⟩,?_⟩;refine nR ?_;refine nN ?_;exact KK
 ·have hi':i=ps.length:=by omega
  subst hi';refine nr ?_;simp only[go_sem,simprocAttr,Uh];refine nF ?_;refine nX ?_;refine nR ?_;refine ZiF (show Zbo _ _ _ _ _ _ _ _ from ?_);have htk:(ps.take ps.length).map Ym=ps.map Ym:=by rw[QM]
  rw[htk];obtain⟨ls,hls⟩:∃ls,ls=ps.map Ym:=⟨_,rfl⟩
  have hll:ls.length=N+1:=by rw[hls,Qv,hN]
  have hlq:∀q∈ls,q.length≤1000000:=fun q hq'=>by
   rw[hls]at hq';obtain⟨u,hu,rfl⟩:=Qb.1 hq';unfold Ym;rw[Qv];exact Uw (UH _ _) (hq u hu)
  rw[←hls];refine Zdg rfl (Zdg rfl (ZqM (T:=tt) ?_));refine nR ?_;refine cQ (Zi.args (e234 ls (n+1) _) (args':=[.sl 1 (ls.map eIs) (.buf n 200)]) ⟨.any _ _ _,trivial⟩) ?_;refine aS ?_;refine ZiF (show Zbo _ _ _ _ _ _ _ _ from ?_);refine Zey (s':=⟨Jz ls n,Zga op n [],H⟩) ?_ ?_
  ·unfold Jz Zga;refine Zh ?_ ?_ ?_ ?_<;>repeat' first|apply q0|exact xx|apply aI
   all_goals first|exact Below.inside (v:=.fn (.func 257) [.iptr [.sl 1 (ls.map eIs) .any]]) (Ja ⟨ZM (ZhK _),trivial⟩)|exact ZaZ rfl
  refine ZgG rfl ?_;refine ZbM (t:=197) (T:=tt) (caps:=[.iptr [.sl 1 (ls.map eIs) .any]]) 100 rfl (by unfold Jz;simp only[go_sem,simprocAttr]) (Zf Tryz.func257 rfl rfl) rfl fun l=>?_
  have hok:∀pr r po σ',Ye ls=pr++r::po→pr.foldlM (JV op) ([],false)=some σ'→σ'.2=false∧σ'.1.length≤1000:=fun pr r po σ' e1 e2=>by
   rw[ZdW]at e2;obtain⟨T,hT,rfl⟩:=Ul.1 e2;exact⟨rfl,(ZdJ GU sm hT).2.1⟩
  refine⟨_,_,e257 (n:=n+1) (l:=l) (A:=Zbs op ls n l H) (step:=JV op) (ok:=fun σ _=>σ.2=false∧σ.1.length≤1000) _ ls om hlq (ZsF op ls N hll hl n l H) ([],false) (fun a b _=>rfl) hok,?_,?_⟩
  ·rintro r H1 ⟨σ',hs,rfl⟩;obtain⟨S,rfl,hS⟩:∃S,σ'=(S,false)∧(Ye ls).foldlM (Zac op) []=some S:=by
    have hs':(Ye ls).foldlM (JV op) ([],false)=some σ':=by unfold WQ at hs;simpa using hs
    rw[ZdW]at hs';obtain⟨T,hT,rfl⟩:=Ul.1 hs';exact⟨T,rfl,hT⟩
   refine⟨Zbk op ls n l (S,false),H,.ready,ZeZ (op:=op) (ls:=ls) (n:=n) (l:=l) (H:=H) ([],false) (S,false),.refl _ _,rfl,sm,?_⟩;refine ZkO (ZqM (T:=tt) ?_);refine ZK (s':=⟨[(8,.ptr n 8 0)],[(26,.map (encI S)),(8,.box [.map n 26])],H⟩) ?_ ?_
   ·unfold Jz Zbk Zga;exact KK
   rw[hls]at hS;exact ZuF op ps n H S hS B
  ·rintro H1 ⟨hs,σ',rfl⟩;have hS:(Ye ls).foldlM (Zac op) []=none:=by
    have hs':(Ye ls).foldlM (JV op) ([],false)=none:=by unfold WQ at hs;simpa using hs
    rw[ZdW]at hs';simpa using hs'
   rw[hls]at hS;exact⟨Zbk op ls n l σ',H,ZeZ (op:=op) (ls:=ls) (n:=n) (l:=l) (H:=H) ([],false) σ',.refl _ _,rfl,ZnP hS,rfl⟩
end
theorem expSs_append:∀(p:List Tm) (u:Tm),expandS.expandSs (p++[u])=(expandS.expandSs p).bind fun ps=>(expandS u).bind fun q=>some (ps++[q])
 |[],u=>by
  simp only[QY,expandS.expandSs];cases expandS u<;>rfl
 |t::r,u=>by
  simp only[Q9,expandS.expandSs,expSs_append r u];cases expandS t with
  |none=>rfl
  |some p=>
   simp only[UE];cases expandS.expandSs r with
   |none=>rfl
   |some ps=>cases expandS u<;>rfl
theorem Zk5{l:List Tm}{i:Nat}(h:i<l.length)(e:expandS l[i]=none):expandS.expandSs l=none:=by
 cases hs:expandS.expandSs l with
 |none=>rfl
 |some ps=>
  obtain⟨q,_,hq⟩:=(expandSs_fa hs).left (Qa h);rw[e]at hq;cases hq
def ZsT(t:Tm)(ps:List (List Tm)):Option (List Tm):=if t.kind=6 then WI (Ym (ps.getD 0 [])) (Ym (ps.getD 1 []))else if t.kind=5 then Zbm t.name ps else Zer t.name ps
theorem ZlE(t:Tm)(h:t.args≠[]):expandS t=(expandS.expandSs t.args).bind (ZsT t):=by
 cases t with|mk k n s a=>
 cases a with
 |nil=>exact absurd rfl h
 |cons u r=>rw[expandS];rfl
theorem Zh8{t:Tm}(h:t.args=[]):expandS t=some [t]:=by
 cases t with|mk k n s a=>
 simp only[Tm.args]at h;subst h;exact Za7
def Zop(t:Tm)(ps:List (List Tm))(n:Nat)(H:Za)(i:Nat):Zb:=
 ⟨[(16,.int .i64 i),(15,.int .i64 t.args.length),(14,.sl 4 (t.args.map Tm.enc) .any),(3,.sl 1 (ps.map eTs) (.buf n 200)),(1,.ptr n 1 0)],[(200,.buf 37 1 ps.length),(1,.box t.cs)],H⟩
theorem ZkS{l:List Tm}(h:∀v∈l,v.all okv=true):∀x∈Ym l,-2147483648≤x∧x≤2147483648:=fun x hx=>by
 have:=Zhd h x hx;unfold Xa at this;rw[Qi,decide_eq_true_eq,decide_eq_true_eq]at this;omega
theorem Zjw(l:List Tm):(Ym l).length≤l.length:=by unfold Ym;rw[Qv];exact UH _ _
theorem e154(t:Tm)(ht:t.Good)(hG:t.all okG=true)(n:Nat)(H:Za)(hn:0<n)(hT:Tabs H):
  Z9 Tryz.prog 197 n 154 [t.enc] H (fun r H'=>∃l,expandS t=some l∧r= .sl 4 (l.map Tm.enc) .any∧H'=H) (fun H'=>expandS t=none∧H'=H):=by
 have hl:=ht.len;have ih:∀u∈t.args,∀(n:Nat) (H:Za),0<n→Tabs H→Z9 Tryz.prog 197 n 154 [u.enc] H (fun r H'=>∃l,expandS u=some l∧r= .sl 4 (l.map Tm.enc) .any∧H'=H) (fun H'=>expandS u=none∧H'=H):=
  fun u hu n H hn hT=>e154 u (ht.arg hu) (Xn (by cases t;exact hG) hu) n H hn hT
 have ho:∀(q:Nat→Prop) (r:List (List Tm)),q 200→Inside n q (.sl 1 (r.map eTs) (.buf n 200)):=fun q r h=>Abs.ZW (fun x hx=>by obtain⟨u,_,rfl⟩:=Qb.1 hx;exact Zae n u) h
 refine xF Tryz.func154 fun B=>?_
 refine nR ?_;by_cases h0:t.args=[]
 ·have hl0:((t.args.length:Int)==0)=true:=by rw[h0];rfl
  refine nq hl0 ?_;refine nT ?_;refine nR ?_;refine cP (ZsI t ht) ?_;refine⟨rfl,?_⟩;refine nV ?_;exact Vk (Zo (v:=.sl 4 ([t].map Tm.enc) .any) (.any _ _ _) (ZE [t]) ⟨[t],Zh8 h0,rfl,rfl⟩)
 have hpos:0<t.args.length:=Qak.2 h0;have hl0:((t.args.length:Int)==0)=false:=by simp;omega
 have hE:=ZlE t h0;refine nq hl0 ?_;refine nF ?_;refine nR ?_;refine nR ?_;refine kK ?_;refine XB 3 200 37 1 rfl rfl ?_;refine Zal (fun μ st=>∃i ps,i≤t.args.length∧μ=t.args.length - i∧expandS.expandSs (t.args.take i)=some ps∧ps.length=i∧st=Zop t ps n H i) (m0:=t.args.length) (s0:=Zop t [] n H 0) rfl ?_ ⟨0,[],Un _,rfl,rfl,rfl,rfl⟩ ?_
 ·exact KK
 rintro μ st ⟨i,ps,hi,rfl,hps,hpl,rfl⟩;refine Ya rfl ?_;rcases Qg i t.args.length with h|h
 ·refine nq h ?_;refine nT ?_;refine nr ?_;simp only[go_sem,simprocAttr,Tm.Zp _ _ h,h];refine kK ?_;refine Yx 197 tok (pre:=[_,_]) (post:=[_,_,_]) rfl rfl rfl rfl ?_;refine aS ?_;refine JL (Zf Tryz.func154 rfl rfl) (ih _ (Qa h) (n+1) _ (QW _) (hT.full hn)) sS ?_ ?_
  ·rintro r H1 ⟨q,hq,rfl,rfl⟩;refine⟨_,_,rfl,.refl _ _,?_⟩;have hm:(ps.map eTs)++[eTs q]=(ps++[q]).map eTs:=by rw[QG];rfl
   refine aS ?_;refine⟨by first|exact⟨rfl,dc⟩|exact rfl,⟨Zn om,om⟩,?_⟩;change AKc _ _ _ ⟨(3,.sl 1 ((ps.map eTs)++[eTs q]) (.buf n 200))::_,_,_⟩;rw[hm];refine nR ?_;refine nN ?_;have hps':expandS.expandSs (t.args.take (i+1))=some (ps++[q]):=by
    rw[Qn h,expSs_append,hps,hq];rfl
   have hpl':(ps++[q]).length=i+1:=by simp[hpl]
   refine⟨t.args.length - (i+1),Zop t (ps++[q]) n H (i+1),om,?_,i+1,ps++[q],h,rfl,hps',hpl',rfl⟩;refine Zh ?_ ?_ ?_ ?_<;>repeat' first|apply q0|exact xx|apply aI
   all_goals first|exact(ZE _).inside|exact ho _ _ rfl|(simp only[go_sem,simprocAttr];rw[iw];exact .refl _)|(simp only[go_sem,simprocAttr,hpl',hpl];done)|skip
   trace_state
  ·rintro H1 ⟨hq,rfl⟩;refine⟨_,_,rfl,.refl _ _,?_⟩;refine WU ⟨rfl,?_,rfl⟩ _;rw[hE,Zk5 h hq];rfl
 ·have hi':i=t.args.length:=by omega
  subst hi';rw[QM]at hps;rw[hps]at hE;have hfa:=expandSs_fa hps;have hpl':=hpl;have hql:∀q∈ps,q.length≤1000000:=fun q hq=>by
   obtain⟨u,hu,hue⟩:=hfa.right hq;have:=ZcZ hue;omega
  have hokp:∀q∈ps,∀v∈q,v.all okv=true:=fun q hq v hv=>by
   obtain⟨u,hu,hue⟩:=hfa.right hq;exact(expand_val u (Xn (by cases t;exact hG) hu) q hue v hv).1
  refine nr ?_;simp only[go_sem,simprocAttr,Uh];refine nF ?_;refine nX ?_;refine nR ?_;refine kK ?_;refine nR ?_;have h0k:=Zhf (Y1 hG);have hlen8:1≤t.args.length∧t.args.length≤8:=by
   rcases h0k with⟨_,_,h⟩|⟨_,_,_,_,h⟩|⟨_,h⟩|⟨_,h⟩
   ·exact absurd h h0
   ·exact h
   ·omega
   ·omega
  obtain⟨N,hN⟩:∃N,ps.length=N+1:=⟨ps.length - 1,om⟩
  rw[UE]at hE;unfold ZsT at hE;by_cases k6:t.kind=6
  ·have hk:(t.kind==6)=true:=by simp[k6]
   have hlen2:t.args.length=2:=by
    rcases h0k with⟨_,h,_⟩|⟨_,h,_⟩|⟨h,_⟩|⟨_,h⟩<;>omega
   obtain⟨p,q,rfl⟩:∃p q,ps=[p,q]:=by
    rw[hlen2]at hpl
    match ps,hpl with
    |[p,q],_=>exact⟨p,q,rfl⟩
   rw[if_pos k6]at hE;change expandS t=WI (Ym p) (Ym q)at hE;have hp1:=hql p sm;have hq1:=hql q sm;have h198:=fun n H=>Zvd n H (Ym p) (Ym q) (Uw (Zjw p) hp1) (Uw (Zjw q) hq1) (ZkS (hokp p sm)) (ZkS (hokp q sm))
   rw[hk];refine nT ?_;refine kK ?_;cases hI:WI (Ym p) (Ym q)with
   |none=>
    refine ZpW 197 tok mixed drawO rfl (pre:=[_,_,_,_,_,_,_,_]) (post:=[_]) rfl rfl rfl rfl ?_;simp only[go_sem,simprocAttr,eTs];refine cP (e199 p hp1) ?_;refine cP (e199 q hq1) ?_;refine nN ?_;refine JL (Zf Tryz.func198 rfl rfl) (h198 (n+1) _) sS ?_ ?_
    ·rintro r H1 ⟨l,hl,_⟩;rw[hI]at hl;cases hl
    ·rintro H1 ⟨hl,rfl⟩;exact⟨_,_,rfl,.refl _ _,rfl,hE.trans hI,rfl⟩
   |some l=>
    refine nD drawO ?_;simp only[go_sem,simprocAttr,eTs];refine cP (e199 p hp1) ?_;refine cP (e199 q hq1) ?_;refine WM (Zf Tryz.func198 rfl rfl) (r:=.sl 4 (l.map Tm.enc) .any) (fun n H=>(Z9.ret (h198 n H) (fun H' h=>by rw[hI]at h;cases h.1)).mono fun r H' h=>by
     obtain⟨l',h1,h2,h3⟩:=h;rw[hI]at h1;cases h1;exact⟨h2,h3⟩) sS ?_
    refine aS ?_;refine nV ?_;exact Vk (Zo (.refl _) (ZE _) ⟨l,hE.trans hI,rfl,rfl⟩)
  have hk:(t.kind==6)=false:=by simp[k6]
  rw[if_neg k6]at hE;rw[hk];refine nF ?_;refine nR ?_;by_cases k5:t.kind=5
  ·have hk5:(t.kind==5)=true:=by simp[k5]
   rw[if_pos k5]at hE;rw[hk5];refine nT ?_;refine kK ?_;refine Yx 197 tok (pre:=[_,_,_]) (post:=[_]) rfl rfl rfl rfl ?_;refine aS ?_;refine JL (Zf Tryz.func200 rfl rfl) (Z9.wk (args:=[.str t.name,.sl 1 (ps.map eTs) (.buf n 200)]) (Zvl t.name ps N hN om hql (n+1) _ (QW _) (hT.full hn)) ⟨.refl _,.any _ _ _,trivial⟩) sS ?_ ?_
   ·rintro r H1 ⟨l,hl,rfl,rfl⟩;refine⟨_,_,rfl,.refl _ _,?_⟩;refine aS ?_;refine nV ?_;exact Vk (Zo (.refl _) (ZE _) ⟨l,hE.trans hl,rfl,rfl⟩)
   ·rintro H1 ⟨hl,rfl⟩;exact⟨_,_,rfl,.refl _ _,rfl,hE.trans hl,rfl⟩
  have hk5:(t.kind==5)=false:=by simp[k5]
  rw[if_neg k5]at hE;rw[hk5];refine nF ?_;refine Wq rfl ?_;refine kK ?_;refine Yx 197 tok (pre:=[_,_,_]) (post:=[_]) rfl rfl rfl rfl ?_;refine aS ?_;refine JL (Zf Tryz.func201 rfl rfl) (Z9.wk (args:=[.str t.name,.sl 1 (ps.map eTs) (.buf n 200)]) (ZuA t.name ps N hN om hql (n+1) _ (QW _) (hT.full hn)) ⟨.refl _,.any _ _ _,trivial⟩) sS ?_ ?_
  ·rintro r H1 ⟨l,hl,rfl,rfl⟩;refine⟨_,_,rfl,.refl _ _,?_⟩;refine aS ?_;refine nV ?_;exact Vk (Zo (.refl _) (ZE _) ⟨l,hE.trans hl,rfl,rfl⟩)
  ·rintro H1 ⟨hl,rfl⟩;exact⟨_,_,rfl,.refl _ _,rfl,hE.trans hl,rfl⟩
termination_by SizeOf.sizeOf t
decreasing_by exact Tm.Xm hu
end Go.Proofs.YtmdeagmbfhbbnaaGreatDoorR

namespace Go.Abs
def dfr(f:FuncId)(vs:List Value):Deferred:={target:=.fn (.func f) vs.toArray,args:=#[]}
def Zg0(P:Program)(m:Nat)(f:FuncId)(args:List AV)(H:Za)(u:FrameMode)(Q:Za→Prop):Prop:=
 ∀E w vs,Zt m H E w→VRs E args vs→CallsDIn Fence.wide 0 P f vs.toArray u w fun e u' w'=>(∃v,e= .returned v)∧settle u'= .returning∧ ∃H' E',Q H'∧Zt m H' E' w'∧Ext m E w E' w'
section
variable {E E':Env} {n m:Nat}
theorem Zrl(hnm:n≤m)(h:E.le n E'):E.le n (E'.cut m):=
 ⟨h.F,fun l k b hl hm=>by simp only[Env.cut,if_pos (Ui hl hnm)];exact h.m l k b hl hm,fun l k j v hl hm=>by simp only[Env.cut,if_pos (Ui hl hnm)];exact h.hist l k j v hl hm,h.qd⟩
theorem Zm7{b:Nat}(ho:(E.cut m).own b):E.own b:=by
 rcases ho with⟨l,k,hm⟩|⟨l,k,hm⟩
 ·simp only[Env.cut]at hm;split at hm
  ·exact .inl ⟨l,k,hm⟩
  ·cases hm
 ·simp only[Env.cut]at hm;split at hm
  ·exact .inr ⟨l,k,hm⟩
  ·cases hm
theorem ZjW(hnm:n≤m){w w' w2:World}(hx:Ext n E w E' w')(k2:∀b,b<w.heap.size→w2.heap[b]? =w'.heap[b]?)(k3:w2.os=w'.os)(k4:w2.tape=w'.tape)(k5:w2.output=w'.output)(k6:w2.drawn=w'.drawn)(k7:w2.heap.size=w'.heap.size):Ext n E w (E'.cut m) w2:=
 ⟨Zrl hnm hx.le,k3.trans hx.os,k4.trans hx.tape,k5.trans hx.output,fun hq=>by rw[k6];exact hx.drawn hq,by rw[k7];exact hx.size,fun b hb' ho=>by rw[k2 b hb'];exact hx.block b hb' ho,fun b hb' ho=>hx.own b hb' (Zm7 ho)⟩
theorem VR.Zu6{a:AV}{v:Value}(h:VR E a v)(hb:Below m a)(hle:E.le m E'):VR E' a v:=
 (h.cut hb).mono (Env.Zgp m E) ⟨hle.F,fun l k b hl hm=>hle.m l k b hl (by simp only[Env.cut,if_pos hl]at hm;exact hm),fun l k j v hl hm=>hle.hist l k j v hl (by simp only[Env.cut,if_pos hl]at hm;exact hm),hle.qd⟩
theorem ZbL{P:Program}{fn:Func}{tmps:Array Value}{R:Ending→World→Prop}{m:Nat}{H:Za}{E:Env}{u:FrameMode}(hu:u≠ .run){ds:List Deferred}{F:Fence}{n:Nat}:∀(l:List Nat) (w:World),l.Nodup→(∀D∈l,w.heap[D]? =some (.deferred (some []))∧ ¬E.own D)→Zt m H E w→
  (∀w2,Zt m H E w2→(∀b,b∉l→w2.heap[b]? =w.heap[b]?)→w2.os=w.os→w2.tape=w.tape→w2.output=w.output→w2.drawn=w.drawn→w2.heap.size=w.heap.size→LeavesInM F n P fn tmps R ds u w2)→
  LeavesInM F n P fn tmps R (l.map mark++ds) u w
 |[],w,_,_,hr,hk=>hk w hr (fun _ _=>rfl) rfl rfl rfl rfl rfl
 |D::l,w,hn,hD,hr,hk=>by
  obtain⟨h1,h2⟩:=hD D sm;obtain⟨n1,n2⟩:=Gm.1 hn;refine⟨hu,.inl ⟨D,_,rfl,run_takeDeferred h1,?_⟩⟩;refine ZbL hu l _ n2 (fun D' hD'=>?_) (hr.putObj h1 (fun _ _ _ e=>by cases e) h2) (fun w2 q1 q2 q3 q4 q5 q6 q7=>?_)
  ·obtain⟨a1,a2⟩:=hD D' (Qx _ hD');exact⟨(World.putObj_heap_other (show D'≠D from fun e=>n1 (e▸hD'))).trans a1,a2⟩
  ·refine hk w2 q1 (fun b hb=>?_) q3 q4 q5 q6 (by rw[q7,World.putObj_size]);simp only[Qk,not_or]at hb;rw[q2 b hb.2,World.putObj_heap_other hb.1]
variable {Q:AV→Prop} {caps:List AV} {f':FuncId} {T:TT} {P:Program}
theorem Znp(hT:TOK P T){t lo1:Nat}{fn fn':Func}{c':Code}{s':Zb}{E0:Env}{w0 w':World}{a':Act}{l0:List Nat}{H:Za}{vs:List Value}{tm':List (Nat×AV)}{u:FrameMode}(hu:u≠ .run)(hf':Fun P f' fn' c')
  (hs':Yn ⟨lo1,dfr f' vs::l0.map mark⟩ (n+1) fn.ntmps s' E' a' w') (hx':Ext n E0 w0 E' w') (hl0:Zcs ⟨w0.heap.size,[]⟩ E' (l0.map mark) w') (hlo:∀D∈l0,D<lo1) (hlo0:w0.heap.size≤lo1) (hv:VRs E' caps vs) (hb:∀c∈caps,Below (n+1) c)
  (htm:∀p∈tm',lkv s'.tmps p.1=lkv tm' p.1∧Below (n+1) (lkv tm' p.1)) (hout:∀l k b,l<n→H l k=some b→b.Below n)
  (hc:Zg0 P (n+1) f' caps s'.H u fun H1=>∃L2 s2,H1=full n L2 H∧AWk n fn.ntmps ⟨tm',L2,H⟩ s2∧PostF P T n fn.results.toList (fun r H'=>Q r∧H'=H) .ret s2):
  LeavesInM Fence.wide 0 P fn a'.tmps (Zg6 t n E0 w0 (fun r H'=>Q r∧H'=H) fun _=>False) a'.defers u w':=by
 obtain⟨g0,l,g1,g2,g3⟩:=hs'.defs;rw[g1];refine ZbL hu l w' g2 (fun D hD=>(g3 D hD).2) hs'.heap fun w2 k1 k2 k3 k4 k5 k6 k7=>?_
 have hs2:Yn ⟨lo1,dfr f' vs::l0.map mark⟩ (n+1) fn.ntmps s' E' {a' with defers:=dfr f' vs::l0.map mark} w2:=⟨hs'.size,⟨by rw[k7];exact g0,[],rfl,GU,fun _ h=>by cases h⟩,hs'.tmps,k1,hs'.out⟩
 have hr2:=Zt.leave hs2;have hvc:VRs (E'.cut (n+1)) caps vs:=⟨hv.1,fun i h1 h2=>(hv.2 i h1 h2).cut (hb _ (Qa h1))⟩
 refine⟨hu,.inr ⟨fun _=>by simp_all [Fence.wide],.func f',vs.toArray,f',vs.toArray,rfl,?_,fun _ _=>trivial,?_⟩⟩
 ·simp[dfr,invoke,Y4 hf']
 refine(hc (E'.cut (n+1)) w2 vs hr2 hvc).mono ?_;rintro e u' w3 ⟨⟨v,rfl⟩,hst,H1,E2,⟨L2,s5,rfl,hW,hP⟩,hr3,hx3⟩;show LeavesInM _ _ _ _ _ _ (l0.map mark) (settle u') w3;rw[hst];have hx4:Ext n E0 w0 E2 w3:=(ZjW (Uj n) hx' (fun b hb=>k2 b fun hm=>by have:=(g3 b hm).1;simp only at this;omega) k3 k4 k5 k6 k7).trans (hx3.mono (Uj n));have hd2:Zcs ⟨w0.heap.size,[]⟩ (E'.cut (n+1)) (l0.map mark) w2:=by
  obtain⟨p0,l',p1,p2,p3⟩:=hl0;refine⟨by rw[k7];exact p0,l',p1,p2,fun D hD=>?_⟩;obtain⟨a1,a2,a3⟩:=p3 D hD;have hDl:D∈l0:=by
   have inj:∀(a b:List Nat),a.map mark=b.map mark→a=b:=by
    intro a;induction a with
    |nil=>intro b hb;cases b with
     |nil=>rfl
     |cons _ _=>cases hb
    |cons x a ih=>intro b hb;cases b with
     |nil=>cases hb
     |cons z b=>
      simp only[Qs,Ub,mark,Deferred.mk.injEq,Target.collected.injEq,and_true]at hb;rw[hb.1,ih b hb.2]
   rw[Qu]at p1;rw[inj _ _ p1];exact hD
  refine⟨a1,?_,fun h=>a3 (Zm7 h)⟩;rw[k2 D fun hm=>by have:=(g3 D hm).1;have:=hlo D hDl;simp only at*;omega];exact a2
 have hs4:Yn ⟨w0.heap.size,[]⟩ n fn.ntmps ⟨tm',L2,H⟩ E2 {a' with defers:=l0.map mark} w3:=by
  refine⟨hs'.size,hd2.ext hx3,fun x=>?_,hr3,hout⟩;rcases lkv_mem (tm:=tm') (t:=x)with hd|hm
  ·show VR _ (lkv tm' x) _;rw[hd];exact .dead _
  ·obtain⟨e1,e2⟩:=htm _ hm;have h1:=hs'.tmps x;simp only at e1 e2;rw[e1]at h1;exact(h1.cut e2).mono hr2.norm hx3.le
 obtain⟨E5,hs5,hx5⟩:=hW _ E2 w3 _ hs4;exact Jr (a':={a' with defers:=l0.map mark}) hT rfl hs5 (hx4.trans hx5) hP
variable {pre:List Oper} {ops:Array Oper}
theorem Zpq(hT:TOK P T){B0 n N:Nat}{s:Zb}{E:Env}{w:World}{a:Act}{id:Nat}{o:Oper}{g:Operand}{f':FuncId}{caps:List AV}{K:Zb→Prop}
  (hl:ops.toList=pre++[o]) (hg:o.guard=none) (ho:o.op= .defer {callee:=.value g,args:=#[],argTypes:=#[]}) (hdst:o.dst=none)
  (h:XC ⟨P,T,⟨none,⟨B0,[]⟩⟩,n,N⟩ plainO ops.toList (fun s1=>evT s1.tmps g= .fn (.func f') caps∧K s1) pre s) (hd:X4 N ops.toList=true) (hs:Yn ⟨B0,[]⟩ n N s E a w):
  (Code.region id ops false).wpIn (fr none) 0 P (fun e a' w'=>∃s1 E1 vs,∃l0:List Nat,e=Exit.normal∧K s1∧VRs E1 caps vs∧Zcs ⟨B0,[]⟩ E1 (l0.map mark) w'∧(∀D∈l0,D<w'.heap.size)∧B0≤w'.heap.size∧Yn ⟨w'.heap.size,dfr f' vs::l0.map mark⟩ (n+1) N ⟨s1.tmps,[],full n s1.L s1.H⟩ E1 a' w'∧Ext n E w E1 w') a w:=by
 refine wpIn_region ?_;have hd':=WH hd;have key:=Vm (cx:=⟨P,T,⟨none,⟨B0,[]⟩⟩,n,N⟩) hT (op:=plainO) rfl (post:=[o]) (E0:=E) (w0:=w) (Q':=fun e a' w'=>∃s1 E1 vs,∃l0:List Nat,e=Exit.normal∧K s1∧VRs E1 caps vs∧Zcs ⟨B0,[]⟩ E1 (l0.map mark) w'∧(∀D∈l0,D<w'.heap.size)∧B0≤w'.heap.size∧Yn ⟨w'.heap.size,dfr f' vs::l0.map mark⟩ (n+1) N ⟨s1.tmps,[],full n s1.L s1.H⟩ E1 a' w'∧Ext n E w E1 w') hd' pre 0 s (by simpa using hl) h ?_ E w a hs (.refl _ _ _)
 ·simpa using key
 intro s1 E1 w1 a1 hF hs1 hx1;simp only[QF];have hlt:pre.length<ops.size:=by
  have:=congrArg List.length hl;simp at this;omega
 have hoi:ops[pre.length]? =some o:=by
  have:ops.toList[pre.length]? =some o:=by rw[hl];simp
  simpa using this
 rw[Qw (by simpa using hlt)];simp only[MK,wpOpsIn,hoi];have hwant:Region.wanted o (yielded ops a1.tmps)=true:=by simp[Region.wanted,hg]
 rw[hwant];simp only[if_true];obtain⟨hv,hK⟩:=hF;have hgv:=Zdp hs1.tmps g;rw[hv]at hgv;generalize hy:a1.eval g=y at hgv;cases hgv with|fn _ _ vs hl2 hvs=>
 have hsem:o.semAt (fr none).round a1.eval=execOp a1.eval o:=Oper.semAt_none _ _;have hrun:(execOp a1.eval o).run P w1= .ok (.defer (dfr f' vs)) w1:=by
  simp[execOp,ho,resolve,hy,Deferred.ofValue,dfr]
 refine⟨fun _ _=>trivial,?_⟩;rw[hsem,hrun,Oper.uponIn_defer,hdst];have hsz:ops.size≤pre.length+1:=by
  have:=congrArg List.length hl;simp at this;omega
 rw[Ux (by simpa using hsz)];obtain⟨g0,l0,g1,g2,g3⟩:=hs1.defs;have hlt0:∀D∈l0,D<w1.heap.size:=fun D hD=>(QN.1 (g3 D hD).2.1).1
 refine⟨s1,E1,vs,l0,rfl,hK,⟨hl2,hvs⟩,⟨g0,l0,sm,g2,g3⟩,hlt0,g0,⟨hs1.size,⟨Qe _,[],?_,GU,fun _ h=>by cases h⟩,hs1.tmps,hs1.heap.enter,fun l k b hl hb=>hs1.heap.out hl hb⟩,hx1⟩;show dfr f' vs::a1.defers=_;rw[g1];simp
theorem ZmY{cx:Cx}{Q:Exit→Zb→Prop}{W:Exit→Act→World→Prop}{d:Code}{E0:Env}{w0:World}:∀(l:List Code) (s:Zb) (E:Env) (w:World) (a:Act),Yn cx.φ.B cx.n cx.N s E a w→Ext cx.n E0 w0 E w→AKc cx (l.map .code) Q s→
  (∀s' E' a' w',Q .normal s'→Yn cx.φ.B cx.n cx.N s' E' a' w'→Ext cx.n E0 w0 E' w'→d.wpIn (fr cx.φ.ro) 0 cx.P W a' w')→(∀e s' E' a' w',e≠ .normal→Q e s'→Yn cx.φ.B cx.n cx.N s' E' a' w'→Ext cx.n E0 w0 E' w'→W e a' w')→(seqs l d).wpIn (fr cx.φ.ro) 0 cx.P W a w
 |[],s,E,w,a,hs,hx,h,hn,he=>hn s E a w h hs hx
 |c::r,s,E,w,a,hs,hx,h,hn,he=>by
  refine wpIn_seq (wpIn_mono (h E w a hs) ?_);rintro e a' w' ⟨s',E',hq,hs',hx'⟩;cases e with
  |normal=>exact ZmY r s' E' w' a' hs' (hx.trans hx') hq hn he
  |_=>exact he _ s' E' a' w' sm (Zgw (r:=r) sm hq) hs' (hx.trans hx')
theorem ZiS{t n:Nat}{f:FuncId}{fn fn':Func}{c':Code}{args caps:List AV}{H:Za}{Q:AV→Prop}(hT:TOK P T)(hf:Fun P f fn (ZQ fn))(hN:args.length≤fn.ntmps)(hf':Fun P f' fn' c')(l:List Code){id:Nat}{o:Oper}{g:Operand}{R:Code}(tm':List (Nat×AV))(s1 S2:Zb)
  (hb:ZQ fn=seqs l (.seq (.region id ops false) R)) (hl:ops.toList=pre++[o]) (hg:o.guard=none) (ho:o.op= .defer {callee:=.value g,args:=#[],argTypes:=#[]}) (hdst:o.dst=none) (hd:X4 fn.ntmps ops.toList=true) (hcb:∀c∈caps,Below (n+1) c) (htm:∀p∈tm',Below (n+1) (lkv tm' p.1))
  (h1:∀B,AKc ⟨P,T,⟨none,B⟩,n,fn.ntmps⟩ (l.map .code) (fun e s'=>(e= .normal∧AWk n fn.ntmps s' s1)∨(e= .ret∧PostF P T n fn.results.toList (fun r H'=>Q r∧H'=H) .ret s')) ⟨numbered 0 args,[],H⟩)
  (h2:∀B,XC ⟨P,T,⟨none,B⟩,n,fn.ntmps⟩ plainO ops.toList (fun s2=>evT s2.tmps g= .fn (.func f') caps∧s2=S2) pre s1)
  (h3:∀B,AKc ⟨P,T,⟨none,B⟩,n+1,fn.ntmps⟩ [.code R] (fun e s'=>∃u:FrameMode,((e= .normal∧u= .returning)∨(e= .ret∧u= .returning)∨(e= .panic (ch t)∧u= .panicking (ch t)))∧(∀p∈tm',lkv s'.tmps p.1=lkv tm' p.1)∧
   Zg0 P (n+1) f' caps s'.H u fun H1=>∃L2 s2,H1=full n L2 H∧AWk n fn.ntmps ⟨tm',L2,H⟩ s2∧PostF P T n fn.results.toList (fun r H'=>Q r∧H'=H) .ret s2) ⟨S2.tmps,[],full n S2.L S2.H⟩):
  Zi P n f args H fun r H'=>Q r∧H'=H:=by
 have key:Z9 P t n f args H (fun r H'=>Q r∧H'=H) (fun _=>False):=fun E w vs hr hv=>by
  have hbody:fn.body=some (seqs l (.seq (.region id ops false) R)):=hb▸hf.body;refine(callsIn_wide (n:=0)).1 (callsIn_of_wp_marks hf.get hbody trivial ?_);refine ZmY (cx:=⟨P,T,⟨none,⟨w.heap.size,[]⟩⟩,n,fn.ntmps⟩) (E0:=E) (w0:=w) l _ E w _ (Yn.start hr hv hN) (.refl _ _ _) (h1 ⟨w.heap.size,[]⟩) ?_ ?_
  ·intro s' E' a' w' hq hs' hx';rcases hq with⟨_,hw⟩|⟨e,_⟩
   rotate_left
   ·cases e
   obtain⟨E1,hs1,hx1⟩:=hw _ E' w' a' hs';refine wpIn_seq (wpIn_mono (Zpq hT hl hg ho hdst (h2 _) hd hs1) ?_);rintro e2 a2 w2 ⟨s2,E2,vs2,l0,rfl,rfl,hv2,hd2,hlt,hle,hs2,hx2⟩;refine wpIn_mono (h3 ⟨w2.heap.size,dfr f' vs2::l0.map mark⟩ E2 w2 a2 hs2) ?_;rintro e3 a3 w3 ⟨s3,E3,⟨u,hu,htm3,hdef⟩,hs3,hx3⟩;have hxx:=((hx'.trans hx1).trans hx2).trans (hx3.mono (Uj n));have fin:u≠ .run→LeavesInM Fence.wide 0 P fn a3.tmps (Zg6 t n E w (fun r H'=>Q r∧H'=H) fun _=>False) a3.defers u w3:=fun hu=>
    Znp hT hu hf' hs3 hxx (hd2.ext hx3) hlt hle ⟨hv2.1,fun i h1 h2=>(hv2.2 i h1 h2).Zu6 (hcb _ (Qa h1)) hx3.le⟩ hcb (fun p hp=>⟨htm3 p hp,htm p hp⟩) (fun l k b hl hb=>hr.out hl hb) hdef
   rcases hu with⟨rfl,rfl⟩|⟨rfl,rfl⟩|⟨rfl,rfl⟩
   ·exact fin sm
   ·exact fin sm
   ·exact fin sm
  ·intro e s' E' a' w' he hq hs' hx';rcases hq with⟨rfl,_⟩|⟨rfl,hp⟩
   ·exact absurd rfl he
   ·exact Jr hT rfl hs' hx' hp
 exact key.ret fun _ h=>h
end
theorem ZeQ{P:Program}{m:Nat}{H:Za}{E:Env}{cs:List Frame}:∀(l:List Nat) (w:World) (b:Frame),b.mode≠ .run→b.defers=l.map mark→l.Nodup→(∀D∈l,w.heap[D]? =some (.deferred (some []))∧ ¬E.own D)→Zt m H E w→
  ∃w2,StepsIn (Machine.fenced P Fence.wide) P (lone b cs w) (lone {b with defers:=[]} cs w2)∧Zt m H E w2∧(∀x,x∉l→w2.heap[x]? =w.heap[x]?)∧w2.os=w.os∧w2.tape=w.tape∧w2.output=w.output∧w2.drawn=w.drawn∧w2.heap.size=w.heap.size
 |[],w,b,hb,hd,_,_,hr=>⟨w,by
   have:({b with defers:=[]}:Frame)=b:=by cases b;simp only[Uy]at hd;subst hd;rfl
   rw[this];exact StepsIn.refl _,hr,fun _ _=>rfl,rfl,rfl,rfl,rfl,rfl⟩
 |D::l,w,b,hb,hd,hn,hD,hr=>by
  obtain⟨h1,h2⟩:=hD D sm;obtain⟨n1,n2⟩:=Gm.1 hn;have hs:=step_collected (cs:=cs) (P:=P) hb (d:=mark D) (ds:=l.map mark) hd rfl (run_takeDeferred h1);obtain⟨w2,q0,q1,q2,q3,q4,q5,q6,q7⟩:=ZeQ (P:=P) (cs:=cs) l (w.putObj D (.deferred none)) {b with defers:=[]++l.map mark} hb rfl n2 (fun D' hD'=>by
   obtain⟨a1,a2⟩:=hD D' (Qx _ hD');exact⟨(World.putObj_heap_other (show D'≠D from fun e=>n1 (e▸hD'))).trans a1,a2⟩) (hr.putObj h1 (fun _ _ _ e=>by cases e) h2)
  refine⟨w2,.head (fenced_wide _ _) hs q0,q1,fun x hx=>?_,q3,q4,q5,q6,by rw[q7,World.putObj_size]⟩;simp only[Qk,not_or]at hx;rw[q2 x hx.2,World.putObj_heap_other hx.1]
section
variable {u:FrameMode} {P:Program}
theorem Zdz{f:FuncId}{fn:Func}{c:Code}{args:Array Value}{w:World}{R:Ending→FrameMode→World→Prop}(hf:P.funcs[f]? =some fn)(hb:fn.body=some c)
  (h:∀(c₀:Frame) (cs:List Frame),c₀.mode=u→c.wpSIn Fence.wide 0 P (fun e a' cs' w'=>(e= .normal∨e= .ret)∧ ∃u' m H E l,cs'={c₀ with mode:=u'}::cs∧a'.defers=List.map mark l∧l.Nodup∧(∀D∈l,w'.heap[D]? =some (.deferred (some []))∧ ¬Env.own E D)∧Zt m H E w'∧
   ∀w2,Zt m H E w2→(∀x,x∉l→w2.heap[x]? =w'.heap[x]?)→w2.os=w'.os→w2.tape=w'.tape→w2.output=w'.output→w2.drawn=w'.drawn→w2.heap.size=w'.heap.size→ ∃v,(results fn a'.tmps).run P w2= .ok v w2∧R (.returned v) u' w2)
   {tmps:=args++Array.replicate (fn.ntmps - args.size) undef,defers:=[]} (c₀::cs) w):CallsDIn Fence.wide 0 P f args u w R:=by
 refine⟨trivial,fun c₀ cs hu hroom=>?_⟩
 let b:Frame:={(default:Frame)with fn:=f,kind:=.deferred,roundOf:=none}
 have henter:Frame.enter P f args .deferred=b.atR {tmps:=args++Array.replicate (fn.ntmps - args.size) undef,defers:=[]} [.code c]:=by
  simp[Frame.enter,Frame.atR,hf,hb,b]
 obtain⟨e,a',cs',w',hl,⟨he,u',m,H,E,l,rfl,h1,h2,h3,h4,h5⟩,harr⟩:=h c₀ cs hu b [] rfl rfl trivial hroom;rw[←henter]at harr;have fin:∀todo,StepsIn (Machine.fenced P Fence.wide) P (lone (Frame.enter P f args .deferred) (c₀::cs) w) (lone {b.atR a' todo with mode:=.returning} ({c₀ with mode:=u'}::cs) w')→ ∃e u' w' fr,R e u' w'∧
   ComesIn (Machine.fenced P Fence.wide) P (lone (Frame.enter P f args .deferred) (c₀::cs) w) (lone fr ({c₀ with mode:=u'}::cs) w') e∧fr.kind= .deferred∧fr.fn=f∧fr.going P w' e:=fun todo hs=>by
  obtain⟨w2,q0,q1,q2,q3,q4,q5,q6,q7⟩:=ZeQ (P:=P) (cs:={c₀ with mode:=u'}::cs) l w' {b.atR a' todo with mode:=.returning} sm h1 h2 h3 h4;obtain⟨v,hv,hR⟩:=h5 w2 q1 q2 q3 q4 q5 q6 q7;exact⟨.returned v,u',w2,_,hR,StepsIn.trans hs q0,rfl,rfl,rfl,rfl,fn,hf,hv⟩
 rcases he with rfl|rfl
 ·exact fin [] (StepsIn.trans harr (.one (fenced_calm (fr:=b.atR a' []) (n:=0) trivial (show Fence.wide.room ((_::cs).length+1+0) from hroom) rfl) (stepR_end rfl)))
 ·obtain⟨todo,hs⟩:=harr.1 rfl;exact fin todo hs
variable {ops:Array Oper}
theorem Zqd{P:Program}{o:Oper}{id:Nat}{Q:Exit→Act→List Frame→World→Prop}{a:Act}{cs cs1:List Frame}{w:World}{v:Value}(h0:ops[0]? =some o)(ho:o.op= .call {callee:=.builtin .recover,args:=#[],argTypes:=#[]})(hg:o.guard=none)
  (hrec:recoverD cs=some (v,cs1)∨(recoverD cs=none∧v= .nilIface∧cs1=cs))
  (h:wpOpsIn Fence.wide 0 P ops (fun e a' w'=>Q e a' cs1 w') ((List.range ops.size).drop 1) (a.put o.dst v) w):(Code.region id ops false).wpSIn Fence.wide 0 P Q a cs w:=fun b k hb hro hF hroom=>by
 have hsz:0<ops.size:=(QN.1 h0).1;obtain⟨rest,hrg,hrd⟩:∃rest,List.range ops.size=0::rest∧(List.range ops.size).drop 1=rest:=by
  obtain⟨k,hk⟩:∃k,ops.size=k+1:=⟨ops.size - 1,om⟩
  rw[hk,List.range_succ_eq_map];exact⟨_,rfl,rfl⟩
 rw[hrd]at h;have hlen:cs1.length=cs.length:=by
  rcases hrec with h|⟨_,_,rfl⟩
  ·exact recoverD_length h
  ·rfl
 have hw:Region.wanted o (yielded ops a.tmps)=true:=by simp[Region.wanted,hg]
 have hsg:=stepGR_op (P:=P) (b:=b) (a:=a) (k:=k) (cs:=cs) (w:=w) (rest:=rest) h0 hw;rw[hro,Oper.semAt_none]at hsg;have hfin:∀v,(b.atR a (.inRegion ops (0::rest)::k)).finish v=b.atR (a.put o.dst v) (.inRegion ops rest::k):=by
  intro v;rw[Frame.finish_atR,h0];rfl
 have hr:(execOp a.eval o).run P w= .ok .recover w:=by simp[execOp,ho,resolve,invoke,builtin]
 have hk:(b.atR a (.inRegion ops (0::rest)::k)).kind= .deferred:=hb;have htr:=tryRecover_deferred hk cs;have hstep:step P (lone (b.atR a (.inRegion ops (List.range ops.size)::k)) cs w)= .next (lone (b.atR (a.put o.dst v) (.inRegion ops rest::k)) cs1 w):=by
  rw[hrg];refine step_lone_go ?_;rcases hrec with h|⟨h,rfl,rfl⟩
  ·rw[hsg,←hfin];simp only[Frame.atR,hro]at htr⊢;simp[stepG.apply,hr,htr,h]
  ·rw[hsg,←hfin];simp only[Frame.atR,hro]at htr⊢;simp[stepG.apply,hr,htr,h]
 obtain⟨e,a',w',hq,harr⟩:=wp_opsIn (F:=Fence.wide) (n:=0) _ _ _ h b k cs1 hro hF (hlen▸hroom);exact⟨e,a',cs1,w',hlen,hq,.of_steps (.head (fenced_wide _ _) stepR_region (.one (fenced_wide _ _) hstep)) harr⟩
theorem Zjf{T:TT}{m f:Nat}{fn:Func}{args:List AV}{H:Za}{t:TypeId}{u:FrameMode}{Q:Za→Prop}{id:Nat}{o:Oper}{post:List Oper}{C:Code}{d:Tmp}{x:AV}(hT:TOK P T)(hf:Fun P f fn (.seq (.region id ops false) C))(hN:args.length≤fn.ntmps)(hres:fn.results= #[])
  (hl:ops.toList=o::post) (ho:o.op= .call {callee:=.builtin .recover,args:=#[],argTypes:=#[]}) (hg:o.guard=none) (hd:o.dst=some d) (hu:(u= .returning∧x= .nili)∨(u= .panicking (ch t)∧x= .ifc t (.agg [])))
  (h:∀B,XC ⟨P,T,⟨none,B⟩,m,fn.ntmps⟩ plainO ops.toList (AKc ⟨P,T,⟨none,B⟩,m,fn.ntmps⟩ [.code C] (fun e s'=>(e= .normal∨e= .ret)∧Q s'.H)) post ⟨(d,x)::numbered 0 args,[],H⟩)
  (hdo:X4 fn.ntmps ops.toList=true:=by kernel_rfl):Zg0 P m f args H u Q:=fun E w vs hr hv=>by
 have hdd:=WH hdo;refine Zdz hf.get hf.body fun c₀ cs hm=>?_
 obtain⟨v,u',hvx,hst,hrec⟩:∃v u',VR E x v∧settle u'= .returning∧(recoverD (c₀::cs)=some (v,{c₀ with mode:=u'}::cs)∨(recoverD (c₀::cs)=none∧v= .nilIface∧{c₀ with mode:=u'}::cs=c₀::cs)):=by
  rcases hu with⟨rfl,rfl⟩|⟨rfl,rfl⟩
  ·exact⟨.nilIface,.returning,.nili,rfl,.inr ⟨by simp[recoverD,hm],rfl,by rw[←hm]⟩⟩
  ·exact⟨_,_,.ifc t _ (.agg #[]) (.agg [] [] rfl fun i h=>absurd h sm),rfl,.inl (by simp[recoverD,hm,ch];rfl)⟩
 have hs0:=Yn.start (fn:=fn) hr hv hN;have h0:ops[0]? =some o:=by
  have:=congrArg (·[0]?) hl;simpa using this
 refine wpSIn_seq (Zqd h0 ho hg hrec ?_);have hmem:o∈ops.toList:=by rw[hl];simp
 rw[hd];refine Vm (cx:=⟨P,T,⟨none,⟨w.heap.size,[]⟩⟩,m,fn.ntmps⟩) hT (op:=plainO) rfl (post:=[]) (E0:=E) (w0:=w) hdd post 1 ⟨(d,x)::numbered 0 args,[],H⟩ (by rw[hl];simp) (h ⟨w.heap.size,[]⟩) ?_ E w _ ⟨by rw[size_put];exact hs0.size,by rw[X8];exact hs0.defs,fun t=>?_,hs0.heap,hs0.out⟩ (.refl _ _ _)
 ·intro s' E' w' a' hF hs' hx';have hdr:(List.range ops.size).drop (1+post.length)=[]:=Ux (by
   have:=congrArg List.length hl;simp at this⊢;omega)
  rw[hdr];show C.wpSIn _ _ _ _ _ _ _;refine wpSIn_of_wpIn rfl (wpIn_mono (hF E' w' a' hs') ?_);rintro e a2 w2 ⟨s2,E2,⟨he,hQ⟩,hs2,hx2⟩;have hx3:=hx'.trans hx2;obtain⟨g0,l,g1,g2,g3⟩:=hs2.defs;refine⟨he,u',m+1,full m s2.L s2.H,E2,l,rfl,by rw[g1];simp,g2,fun D hD=>(g3 D hD).2,hs2.heap,fun w3 k1 k2 k3 k4 k5 k6 k7=>?_⟩;have hs4:Yn ⟨w.heap.size,[]⟩ m fn.ntmps s2 E2 {a2 with defers:=[]} w3:=⟨hs2.size,.nil _ (by rw[k7];exact g0),hs2.tmps,k1,hs2.out⟩
  refine⟨.tuple #[],by simp[ZcR,hres,Sem.run_pure],⟨_,rfl⟩,hst,s2.H,_,hQ,Zt.leave hs4,ZjW (Qe m) hx3 (fun b hb=>k2 b fun hm=>by have:=(g3 b hm).1;simp only at this;omega) k3 k4 k5 k6 k7⟩
 ·rw[VN (d:=some d) hs0.size (fun x hx=>hdd o hmem x (hd.trans hx))];show VR E (lkv (Yl (numbered 0 args) (some d) x) t) _;rw[JE];split
  ·exact hvx
  ·exact hs0.tmps t
end
end Go.Abs

namespace Go.Proofs.YtmdeagmbfhbbnaaGreatDoorR
open Go.Abs
set_option maxRecDepth 100000
theorem e197(t:Tm):Pure Tryz.prog 197 [t.enc] (.bool (!(t.kind==3))):=by
 intro n H;refine aF Tryz.func197 fun B=>?_
 refine nR ?_;refine nR ?_;exact pB
theorem e152(t:Tm)(ht:t.Good):Z4 Tryz.prog 152 [t.enc] (.bool (grT t)):=by
 intro n H hn hT;refine aF Tryz.func152 fun B=>?_
 refine nR ?_;refine nR ?_;refine cT (a71 t ht 197 (fun u=>!(u.kind==3)) ⟨⟨_,_,Zf Tryz.func197 rfl rfl⟩,fun u _=>Abs.Pure.tabs (e197 u)⟩) ?_;refine YO rfl rfl ?_;refine Zc ?_ (.bool _) rfl;try simp only[go_sem,simprocAttr,grT]
 exact .refl _
theorem ZtM(n:Nat)(H:Za):Zg0 Tryz.prog (n+1) 153 [.ptr n 2 0,.ptr n 3 0] H .returning (fun H'=>H'=H):=by
 refine Zjf (t:=197) (x:=.nili) tok (Zf Tryz.func153 rfl rfl) sm rfl rfl rfl rfl rfl (.inl ⟨rfl,rfl⟩) fun B=>?_
 refine aS ?_;refine nR ?_;refine nF ?_;refine Wq rfl ?_;refine nN ?_;exact⟨.inl rfl,rfl⟩
theorem ZsQ(n:Nat)(H:Za)(x:AV)(c:Int)(h2:H n 2=some (.box [x]))(h3:H n 3=some (.box [.int .i64 c])):Zg0 Tryz.prog (n+1) 153 [.ptr n 2 0,.ptr n 3 0] H (.panicking (ch 197)) (fun H'=>H'=(H.upd n 2 (.box [.sl 4 [] .full])).upd n 3 (.box [.int .i64 5])):=by
 refine Zjf (t:=197) (x:=.ifc 197 (.agg [])) tok (Zf Tryz.func153 rfl rfl) sm rfl rfl rfl rfl rfl (.inr ⟨rfl,rfl⟩) fun B=>?_
 refine aS ?_;refine nR ?_;refine nT ?_;have hu3:∀y,H.upd n 2 y n 3=some (.box [.int .i64 c]):=fun y=>by rw[Za.upd_ne _ _ sm];exact h3
 have hnn:¬n=n+1:=by omega
 refine nq3 h2 hu3 hnn ?_;refine⟨.inr (Ze.ZB ⟨YT (fun _ h=>by cases h) (fun _ _ e=>by cases e),trivial⟩),.inr (Ze.ZB ⟨.int _ _,trivial⟩),?_⟩;refine nN ?_;exact⟨.inl rfl,rfl⟩
theorem Zg0.mono{P:Program}{m f:Nat}{args:List AV}{H:Za}{u:FrameMode}{Q Q':Za→Prop}(h:Zg0 P m f args H u Q)(hq:∀H',Q H'→Q' H'):Zg0 P m f args H u Q':=fun E w vs hr hv=>
 (h E w vs hr hv).mono fun e u' w' ⟨h1,h2,H',E',h3,h4⟩=>⟨h1,h2,H',E',hq _ h3,h4⟩
def mc(t:Tm)(n:Nat)(l:List Tm)(c:Int)(r:AV):List (Nat×Ze):=[(200,.Zg 40 4 (flat (l.map Tm.enc)) l.length),(3,.box [.int .i64 c]),(2,.box [r]),(1,.box t.cs)]
def ZdI(n:Nat):List (Nat×AV):=[(3,.ptr n 3 0),(2,.ptr n 2 0),(1,.ptr n 1 0)]
theorem Zfv{n:Nat}{H:Za}{s:Zb}{v:AV}{xs:List Tm}{c:Int}(h1:lkv s.tmps 2= .ptr n 2 0)(h2:lkv s.tmps 3= .ptr n 3 0)(h3:lkb s.L 2=some (.box [v]))(h4:lkb s.L 3=some (.box [.int .i64 c]))(hv:Wk v (.sl 4 (xs.map Tm.enc) .any))(hH:s.H=H):
  PostF Tryz.prog tt n Tryz.f100.results.toList (fun r H'=>r= .tup [.sl 4 (xs.map Tm.enc) .any,eInt c]∧H'=H) .ret s:=by
 have f2:full n s.L s.H n 2=some (.box [v]):=by simp[full,h3]
 have f3:full n s.L s.H n 3=some (.box [.int .i64 c]):=by simp[full,h4]
 show PostF Tryz.prog tt n [.cell 2 37,.cell 3 29] _ .ret s;refine⟨fun x hx=>?_,[.sl 4 (xs.map Tm.enc) .any,.int .i64 c],⟨?_,?_,trivial⟩,?_,rfl,hH⟩
 ·simp only[Qk,Qy,or_false]at hx;rcases hx with rfl|rfl
  ·exact⟨n,2,0,_,_,h1,f2,rfl,Qe _,fun _=>Nat.zero_lt_one⟩
  ·exact⟨n,3,0,_,_,h2,f3,rfl,Qe _,fun _=>Nat.zero_lt_one⟩
 ·have:ZdT s.tmps s.H n s.L tt (.cell 2 37)=v:=by
   simp only[ZdT,h1,f2];rfl
  rw[this];exact hv
 ·have:ZdT s.tmps s.H n s.L tt (.cell 3 29)= .int .i64 c:=by
   simp only[ZdT,h2,f3];rfl
  rw[this];exact .refl _
 ·intro x hx;simp only[Qk,Qy,or_false]at hx;rcases hx with rfl|rfl
  ·exact ZE _
  ·exact .int _ _
def ZrM(n:Nat):Opt:=⟨true,true,fun d=>if d=27 then .heap else if d=28 then .at_ n 200 else if d=2 then .at_ n 2 else .auto,[]⟩
theorem e100:ExpOK:=by
 intro t ht n H hn hT;have hb1:∀k,Ze.Below k (.box t.cs):=fun k=>Ze.ZB ⟨.int _ _,.int _ _,.str _,ZC (fun x hx=>by obtain⟨u,_,rfl⟩:=Qb.1 hx;exact u.blw k),trivial⟩
 suffices h:Zi Tryz.prog n 100 [t.enc] H fun r H'=>r= .tup [.sl 4 ((ZdH t).1.map Tm.enc) .any,eInt (ZdH t).2]∧H'=H from h
 by_cases hbad:Xy t=true∧grT t=true;rotate_left
 ·have he:ZdH t=([],2):=by
   unfold ZdH;rw[if_neg (by rw[Qi];exact hbad)]
  rw[he];refine aF Tryz.func100 fun B=>?_
  refine nR ?_;refine nR ?_;refine cT (a72 t ht) ?_;cases hv:Xy t with
  |false=>
   refine aS ?_;refine nT ?_;refine nR ?_;refine nV ?_;exact Zfv (xs:=[]) rfl rfl rfl rfl (.any _ _ _) rfl
  |true=>
   have hg:grT t=false:=by
    cases hg:grT t with
    |false=>rfl
    |true=>exact absurd ⟨hv,hg⟩ hbad
   refine aS ?_;refine cT (e152 t ht) ?_;rw[hg];refine aS ?_;refine nT ?_;refine nR ?_;refine nV ?_;exact Zfv (xs:=[]) rfl rfl rfl rfl (.any _ _ _) rfl
 obtain⟨hv,hg⟩:=hbad;have hok:t.all okG=true:=by
  simp only[Xy,Qi]at hv;have:=Zcf shape (fun u=>!(u.kind==3)) t;unfold grT at hg;rw[hv.2,hg]at this;exact this
 have hdp:dep t≤12:=by simp only[Xy,Qi,decide_eq_true_eq]at hv;exact hv.1
 have he:ZdH t=match expandS t with|some l=>(l,0)|none=>([],5):=by unfold ZdH;rw[hv,hg];rfl
 refine ZiS (t:=197) (pre:=[_]) (R:=(ZQ Tryz.f100).snd.snd.snd) (Q:=fun r=>r= .tup [.sl 4 ((ZdH t).1.map Tm.enc) .any,eInt (ZdH t).2]) (caps:=[.ptr n 2 0,.ptr n 3 0]) tok (Zf Tryz.func100 rfl rfl) sm (Zf Tryz.func153 rfl rfl) [(ZQ Tryz.f100).fst,(ZQ Tryz.f100).snd.fst] (ZdI n) ⟨ZdI n,mc t n [] 0 (.msl 4 n 200 0),H⟩ ⟨(14,.fn (.func 153) [.ptr n 2 0,.ptr n 3 0])::ZdI n,mc t n [] 0 (.msl 4 n 200 0),H⟩ rfl rfl rfl rfl rfl (by kernel_rfl) ?_ ?_ (fun B=>?_) (fun B=>?_) (fun B=>?_)
 ·intro c hc;simp only[Qk,Qy,or_false]at hc;rcases hc with rfl|rfl<;>exact .ptr _ _ _ (Qr n)
 ·intro p hp;simp only[ZdI,Qk,Qy,or_false]at hp;rcases hp with rfl|rfl|rfl<;>exact .ptr _ _ _ (Qr n)
 ·show AKc _ [.code _,.code _] _ _;refine nR ?_;refine nR ?_;refine cT (a72 t ht) ?_;rw[hv];refine aS ?_;refine cT (e152 t ht) ?_;rw[hg];refine aS ?_;refine nF ?_;refine ZK (JJ (j0:=2) (j:=200) (i:=0) 40 4 rfl rfl rfl) ?_;refine Wq rfl ?_;refine nN ?_;refine .inl ⟨rfl,?_⟩;unfold ZdI mc;exact KK
 ·unfold ZdI;exact sT
 ·show AKc _ _ _ ⟨(14,.fn (.func 153) [.ptr n 2 0,.ptr n 3 0])::ZdI n,[],full n (mc t n [] 0 (.msl 4 n 200 0)) H⟩;obtain⟨G,hG⟩:∃G:List Tm→Za,G=fun l=>full n (mc t n l 0 (.msl 4 n 200 l.length)) H:=⟨_,rfl⟩
  have g1:∀l,G l n 1=some (.box t.cs):=fun l=>by rw[hG];simp[full,mc,lkb]
  have g2:∀l,G l n 2=some (.box [.msl 4 n 200 l.length]):=fun l=>by rw[hG];simp[full,mc,lkb]
  have g3:∀l,G l n 3=some (.box [.int .i64 0]):=fun l=>by rw[hG];simp[full,mc,lkb]
  have g200:∀l,G l n 200=some (.Zg 40 4 (flat (l.map Tm.enc)) l.length):=fun l=>by rw[hG];simp[full,mc,lkb]
  have hG0:full n (mc t n [] 0 (.msl 4 n 200 0)) H=G []:=by rw[hG];rfl
  have hTG:∀l,Tabs (G l):=fun l=>by rw[hG];exact hT.full hn
  have hnn:¬n=n+1:=by omega
  rw[hG0];unfold ZdI;refine kK ?_;refine Yx 197 tok (pre:=[_]) (post:=[_,_]) rfl rfl rfl rfl ?_;simp only[go_sem,simprocAttr,g1,hnn,Tm.cs];refine JL (Zf Tryz.func154 rfl rfl) (e154 t ht hok (n+1+1) _ (QW _) ((hTG []).full (QW _))) sS ?_ ?_;rotate_left
  ·rintro H1 ⟨hx,rfl⟩;refine⟨_,_,rfl,.refl _ _,?_⟩;refine⟨.panicking (ch 197),.inr (.inr rfl),⟨rfl,rfl,rfl⟩,Zg0.mono (ZsQ n (G []) _ 0 (g2 []) (g3 [])) fun H' h=>?_⟩;subst h;rw[hx]at he;rw[he];refine⟨mc t n [] 5 (.sl 4 [] .full),⟨ZdI n,mc t n [] 5 (.sl 4 [] .full),H⟩,?_,.refl _ _ _,Zfv (xs:=[]) rfl rfl rfl rfl (.any _ _ _) rfl⟩;rw[hG];show((full n (mc t n [] 0 (.msl 4 n 200 0)) H).upd n 2 _).upd n 3 _=_;rw[←Zm,←Zm];rfl
  rintro r H1 ⟨l,hx,rfl,rfl⟩;refine⟨_,_,rfl,.refl _ _,?_⟩;rw[hx]at he;have hll:=ZcZ hx;have hvl:=expand_val t hok l hx;rw[he];refine aS ?_;refine kK ?_;refine Zr (fun i=>⟨[(18,.int .i64 i),(17,.int .i64 l.length),(16,.sl 4 (l.map Tm.enc) .any),(3,.ptr n 3 0),(2,.ptr n 2 0),(1,.ptr n 1 0)],[],G (l.take i)⟩) l.length rfl ?_ ?_
  ·exact KK
  intro i hi;refine Ya rfl ?_;rcases Qg i l.length with h|h
  ·refine nq h ?_;refine nT ?_;refine nr ?_;simp only[go_sem,simprocAttr,Tm.Zp _ _ h,h];obtain⟨σ,hσ⟩:∃σ,σ=l.take i:=⟨_,rfl⟩
   have hσl:σ.length=i:=by rw[hσ,QI];omega
   have hgd:l[i].Good:=YC (value_of (hvl _ (Qa h)).1 (by have:=(hvl _ (Qa h)).2;omega));rw[←hσ];refine nD (ZrM n) ?_;have hu2:∀x,(G σ).upd n 200 x n 2=some (.box [.msl 4 n 200 σ.length]):=fun x=>by rw[Za.upd_ne _ _ sm];exact g2 σ
   have hs1:=Zo9 σ (.agg [.int .u8 0,.int .i64 0,.str [],.sl 0 [] .full]) rfl l[i];have hzl:(flat (σ.map Tm.enc)++flat [AV.agg [.int .u8 0,.int .i64 0,.str [],.sl 0 [] .full]]).length=σ.length*4+4:=by rw[Qh,ZgJ];rfl
   simp only[go_sem,simprocAttr,ZrM,hnn,g2,g200,hu2,hzl,Za.upd_same,Za.Zas];refine Zgs (Zf Tryz.func155 rfl rfl) (ZsI l[i] hgd) sS ?_;simp only[go_sem,simprocAttr,ZrM,hnn,g2,g200,hu2,hzl,Za.upd_same,Za.Zas];have hs1':(flat (σ.map Tm.enc)++flat [AV.agg [.int .u8 0,.int .i64 0,.str [],.sl 0 [] .full]]).take (σ.length*4)++(AV.int .u8 l[i].kind::AV.int .i64 l[i].num::AV.str l[i].name::AV.sl 4 (l[i].args.map Tm.enc) .any::(flat (σ.map Tm.enc)++flat [AV.agg [.int .u8 0,.int .i64 0,.str [],.sl 0 [] .full]]).drop (σ.length*4+4))=flat ((σ++[l[i]]).map Tm.enc):=hs1;rw[hs1'];have hb0:Ze.Below (n+1) (.Zg 40 4 (flat (σ.map Tm.enc)++flat [.agg [.int .u8 0,.int .i64 0,.str [],.sl 0 [] .full]]) (σ.length+1)):=by
    refine⟨fun c hc=>?_,by simp[Ze.at_]⟩;rcases Qj.1 hc with hc|hc
    ·exact(WO (m:=0) σ).1 c hc
    ·exact Yi.mem (l:=[AV.int .u8 0,.int .i64 0,.str [],.sl 0 [] .full]) (p:=fun c=>Below (n+1) c) ⟨.int _ _,.int _ _,.str _,YT (fun _ h=>by cases h) (fun _ _ e=>by cases e),trivial⟩ c (by simpa[flat,AV.cells]using hc)
   refine⟨rfl,⟨Zn om,om⟩,.inr hb0,om,om,.inr (WO _),.inr (Ze.ZB ⟨.msl _ _ _ _ om,trivial⟩),?_⟩;have hH:((G σ).upd n 200 (.Zg 40 4 (flat ((σ++[l[i]]).map Tm.enc)) (σ.length+1))).upd n 2 (.box [.msl 4 n 200 (σ.length+1)])=G (l.take (i+1)):=by
    have e1:σ.length+1=(σ++[l[i]]).length:=by simp
    rw[Qn h,←hσ,e1,hG];show((full n (mc t n σ 0 (.msl 4 n 200 σ.length)) H).upd n 200 _).upd n 2 _=_;rw[←Zm,←Zm];rfl
   rw[hH];refine nR ?_;refine nN ?_;exact KK
  ·have hi':i=l.length:=by omega
   subst hi';rw[QM];refine nr ?_;simp only[go_sem,simprocAttr,Uh];refine nF ?_;refine nX ?_;have hu3:∀x,(G l).upd n 2 x n 3=some (.box [.int .i64 0]):=fun x=>by rw[Za.upd_ne _ _ sm];exact g3 l
   refine nq3 hnn g2 hu3 ?_;refine⟨.inr (Ze.ZB ⟨.msl _ _ _ _ (Qr n),trivial⟩),.inr (Ze.ZB ⟨.int _ _,trivial⟩),?_⟩;rw[Yd (g2 l),Yd (g3 l)];refine nV ?_;refine⟨.returning,.inr (.inl ⟨rfl,rfl⟩),⟨rfl,rfl,rfl⟩,Zg0.mono (ZtM n _) fun H' h=>?_⟩;subst h;refine⟨mc t n l 0 (.msl 4 n 200 l.length),_,by rw[hG],YX (tm':=[(3,.ptr n 3 0),(2,.ptr n 2 0)]) (av':=.sl 4 (l.map Tm.enc) .any) (j0:=2) (i:=0) (j:=200) 30 (show 30<Tryz.f100.ntmps by decide) (l.map Tm.enc) dc rfl rfl (.inl ⟨4,rfl,rfl⟩) rfl rfl (by rw[Qv]) (ZlH l) (ZaN l).mem ?_ ?_,Zfv rfl rfl rfl rfl (.refl _) rfl⟩
   ·intro p hp;simp only[Qk,Qy,or_false]at hp;rcases hp with rfl|rfl
    ·exact⟨sm,.refl _,.ptr _ _ _ (.inr ⟨rfl,show(3:Nat)≠200 by decide⟩)⟩
    ·exact⟨sm,.refl _,.ptr _ _ _ (.inr ⟨rfl,show(2:Nat)≠200 by decide⟩)⟩
   ·intro p hp;simp[mc,setb,delb]at hp;rcases hp with rfl|rfl|rfl
    ·exact Ze.ZA ⟨.int _ _,trivial⟩
    ·exact Ze.ZA ⟨.dead,trivial⟩
    ·exact Ze.Zja (fun c hc=>Yi.mem (l:=t.cs) (p:=fun c=>Below n c) ⟨.int _ _,.int _ _,.str _,ZC (fun x hx=>by obtain⟨u,_,rfl⟩:=Qb.1 hx;exact u.blw n),trivial⟩ c hc)
def ZtI(n ls bs:Nat)(l:List Lt)(b:Bnd)(H:Za)(i:Nat):Zb:=
 ⟨[(42,.int .i64 i),(41,.int .i64 l.length),(40,.sl 13 (l.map Lt.enc) .any),(10,.iptr [.map n 39]),(0,.sl 13 (l.map Lt.enc) .any),(1,.ptr ls bs 0),(2,.sl 5 (b.map eBd) .any)],[(39,.map (encS (ZO [] ((l.take i).flatMap ZJ))))],H⟩
theorem k10(hE:ExpOK)(n:Nat)(H:Za)(hT:Tabs H)(hn:0<n)(ls bs:Nat)(hls:ls<n)(s:Sto)(hs:Yf H ls bs s)(hok:Ok s)(l:List Lt)(hl:l.length≤10)(hsm:∀x∈l,Sm x)(hop:∀x∈l,0≤x.op∧x.op≤255)(b:Bnd)(hb:b.length≤1000)(gb:∀q∈b,q.2.Good):
  PC Tryz.prog n 10 [.sl 13 (l.map Lt.enc) .any,.ptr ls bs 0,.sl 5 (b.map eBd) .any] H (.tup [.sl 1 ((Xf s.A l b).1.map Zk) .any,eInt (Xf s.A l b).2]):=by
 have hat:((atR s.A 0).2==1)=false:=by
  unfold atR;split
  ·split<;>rfl
  ·rfl
 have hnil:∀k,Below k (.sl 1 (([]:List Bnd).map Zk) .any):=fun k=>Zw []
 refine aF Tryz.func10 fun B=>?_
 refine nR ?_;refine nR ?_;refine cQ (a27 (n+1) _ ls bs s 0 om (hs.full hls _) hok.g om (hT.full hn)) ?_;refine aS ?_;refine nq hat ?_;refine nF ?_;refine nR ?_;refine cT (j38 l om fun x hx=>(hsm x hx).good) ?_;cases hv:l.all Y7 with
 |false=>
  have hj:Xf s.A l b=([],2):=by unfold Xf;rw[hv];rfl
  refine aS ?_;refine nT ?_;refine nR ?_;refine nV ?_;rw[hj];exact ZG (.any _ _ _) (.refl _) (hnil _) (.int _ _) rfl
 |true=>
  refine aS ?_;refine cT (k39 b om gb) ?_;cases hvb:validB b with
  |false=>
   have hj:Xf s.A l b=([],2):=by unfold Xf;rw[hv,hvb];rfl
   refine aS ?_;refine nT ?_;refine nR ?_;refine nV ?_;rw[hj];exact ZG (.any _ _ _) (.refl _) (hnil _) (.int _ _) rfl
  |true=>
   refine aS ?_;refine nF ?_;refine nR ?_;refine kK ?_;refine ZK (s':=⟨[(10,.ptr n 10 0),(0,.sl 13 (l.map Lt.enc) .any),(1,.ptr ls bs 0),(2,.sl 5 (b.map eBd) .any)],[(39,.map []),(10,.box [.map n 39])],H⟩) ?_ ?_
   ·exact KK
   refine ZY 10 [.map n 39] [(10,.iptr [.map n 39]),(0,.sl 13 (l.map Lt.enc) .any),(1,.ptr ls bs 0),(2,.sl 5 (b.map eBd) .any)] rfl ⟨ZaZ dc,trivial⟩ ?_ ?_ ?_
   ·exact⟨.inr ⟨0,rfl,rfl⟩,.inl ⟨.refl _,(Yb l).inside⟩,.inl ⟨.refl _,.ptr _ _ _ (.inl hls)⟩,.inl ⟨.refl _,(Zx n b).inside⟩,trivial⟩
   ·exact⟨⟨by simp[Ze.avs],by simp[Ze.at_]⟩,trivial⟩
   refine aS ?_;refine nR ?_;refine kK ?_;refine Zr (ZtI n ls bs l b H) l.length rfl ?_ ?_
   ·exact KK
   intro i hi;refine Ya rfl ?_;rcases Qg i l.length with h|h
   ·obtain⟨x,hx⟩:∃x,x=l[i]:=⟨_,rfl⟩
    have hxs:=hsm _ (Qa h);rw[←hx]at hxs;have hstep:ZO (ZO [] ((l.take i).flatMap ZJ)) (ZJ x)=ZO [] ((l.take (i+1)).flatMap ZJ):=by
     rw[Qn h,Ur,Jh,hx];simp
    refine nr ?_;refine aq h ?_;refine nT ?_;refine nr ?_;simp only[go_sem,simprocAttr,Lt.Zp _ _ h,h,←hx];refine nD o10a ?_;simp only[go_sem,simprocAttr,o10a];refine ZbR (Zf Tryz.func41 rfl rfl) (fun G hG=>j41 x hxs (n+1) G om (XU hG▸hT.full hn)) sS ?_;simp only[go_sem,simprocAttr,o10a];refine ZmV rfl (k:=39) (xs:=ZJ x) (S:=ZO [] ((l.take i).flatMap ZJ)) (by have:=hxs.tv.2.2;omega) rfl (by simp only[go_sem,simprocAttr];rfl) ?_;rw[hstep];simp only[go_sem,simprocAttr];refine nR ?_;refine nN ?_;exact KK
   ·have hi':i=l.length:=by omega
    subst hi';rw[QM];obtain⟨K1,hK1⟩:∃K1,K1=ZO [] (l.flatMap ZJ):=⟨_,rfl⟩
    rw[←hK1];refine nq (QE.2 h) ?_;refine nF ?_;refine nX ?_;refine nR ?_;refine⟨rfl,?_⟩;refine ZaR 56 200 3 84 1 rfl rfl rfl ?_;simp only[go_sem,simprocAttr,MJ,UZ];refine ZK (ZkM (j0:=56) (i:=2) (av':=.sl 1 [.sl 5 (b.map eBd) .any] .any) rfl rfl (.any _ _ _)) ?_;simp only[go_sem,simprocAttr,MJ,UZ];refine ZK (s':=Zm0 n ls bs l b K1 H) ?_ ?_
    ·unfold Zm0;exact KK
    exact ZuW hE n H hT hn ls bs hls s hs hok l hl hsm hop b hb hv hvb K1 hK1 B
theorem Tabs.cut{n:Nat}{H:Za}(h:Tabs H)(hn:0<n):Tabs (Zdt n H):=by
 obtain⟨m,t,t',h1,h2⟩:=h;exact⟨m,t,t',by rw[Zdt,if_pos hn];exact h1,by rw[Zdt,if_pos hn];exact h2⟩
theorem YF.cut(n m:Nat)(H:Za)(h:n≤m)(b:Nat):YF (Zdt n H) m b:=fun k _=>by rw[Zdt,if_neg om]
theorem ZiH{n b:Nat}{H:Za}{s:Sto}{l:Nat}(hl:n≤l):∀l' k,l'<n→put (Zdt n H) l b s l' k=H l' k:=fun l' k h=>by
 rw[Zd4 om,Zdt,if_pos h]
def tinyT:Tm→Bool
 | .mk k n s l=>decide (s.length≤100)&&decide (0≤k∧k≤255)&&decide (-1000≤n∧n≤1000)&&decide (l.length≤100)&&tinys l
where tinys:List Tm→Bool
 |[]=>true
 |t::r=>tinyT t&&tinys r
mutual
theorem tiny_nm:∀t:Tm,tinyT t=true→Tm.Nm t
 | .mk k n s l,h=>by
  simp only[tinyT,Qi,decide_eq_true_eq]at h;exact .mk _ _ _ _ om h.1.1.1.2 om om (tinys_nm l h.2)
theorem tinys_nm:∀l:List Tm,tinyT.tinys l=true→ ∀u∈l,Tm.Nm u
 |[],_,u,hu=>by cases hu
 |t::r,h,u,hu=>by
  simp only[tinyT.tinys,Qi]at h;rcases Qk.1 hu with e|hu
  ·rw[e];exact tiny_nm t h.1
  ·exact tinys_nm r h.2 u hu
end
def ZeM(x:Lt):Bool:=tinyT x.L&&tinyT x.R&&tinyT.tinys x.at_.args&&decide (x.at_.pred.length≤100)&&decide (x.L.sz≤300∧x.R.sz≤300∧Tm.sz.szs x.at_.args≤300)&&decide (0≤x.op∧x.op≤255)
theorem ZdE{x:Lt}(h:ZeM x=true):Sm x∧0≤x.op∧x.op≤255:=by
 simp only[ZeM,Qi,decide_eq_true_eq]at h;obtain⟨⟨⟨⟨⟨h1,h2⟩,h3⟩,h4⟩,h5⟩,h6⟩:=h;exact⟨⟨⟨⟨om,by simp only[Am.sz];omega,tinys_nm _ h3⟩,⟨om,tiny_nm _ h1⟩,⟨om,tiny_nm _ h2⟩⟩,om,om,om⟩,h6⟩
def Zo6(a:Am):Bool:=tinyT.tinys a.args&&decide (a.pred.length≤100)&&decide (Tm.sz.szs a.args≤300)
theorem ZqR{a:Am}(h:Zo6 a=true):a.Good:=by
 simp only[Zo6,Qi,decide_eq_true_eq]at h;exact⟨om,by simp only[Am.sz];omega,tinys_nm _ h.1.1⟩
theorem exA_good:JO exA:=fun a ha=>ZqR (QA.1 (show exA.all Zo6=true by kernel_rfl) a ha)
theorem exA_A:(Wu sto0 exA).A=exA:=by rw[ok0.ZrB exA_good];kernel_rfl
theorem exA_ok:Ok (Wu sto0 exA):=ok0.Wu exA_good
theorem Zm1{i k:Nat}(hi:i≤1000000):IntKind.i64.wrap ((i:Int).tdiv (k:Int))=((i / k:Nat):Int):=by
 have h:(i:Int).tdiv (k:Int)=((i / k:Nat):Int):=by rw[Int.tdiv_eq_ediv_of_nonneg om];exact(Int.natCast_ediv i k).symm
 have:=Nat.div_le_self i k;rw[h];generalize i / k=j at*;exact iw
theorem Zqy(i k:Nat):(i:Int).tmod (k:Int)=((i % k:Nat):Int):=by rw[Int.tmod_eq_emod_of_nonneg om];exact(Int.natCast_emod i k).symm
def Zu5(bs:List Bnd)(xs:List Int)(H:Za)(i:Nat):Zb:=⟨[(7,.int .i64 i),(5,.sl 1 (bs.map Zk) .any),(1,.sl 1 (xs.map eInt) .any)],[],H⟩
theorem e29(l:List Lt)(hl:l.length≤10)(ht:l.all ZeM=true)(b1 b2:Bnd)(k:Nat)(hk:0<k)(hk2:k≤1000)(h1:b1.length=k)(h2:b2.length=k)(xs:List Int)(hx:(b1++b2).map Prod.snd=xs.map Yg)(hj:Xf exA l []=([b1,b2],0))(n:Nat)(H:Za)(hn:0<n)(hT:Tabs H):
  PC Tryz.prog n 29 [.sl 13 (l.map Lt.enc) .any,.sl 1 (xs.map eInt) .any] H (.bool true):=by
 have hxl:xs.length=2*k:=by
  have:=congrArg List.length hx;simp at this;omega
 have hsm:∀x∈l,Sm x∧0≤x.op∧x.op≤255:=fun x hx=>ZdE (QA.1 ht x hx)
 have hTc:=hT.cut hn;have hfr:=YF.cut n n H (Qe _) 0;refine PC.up 1 (.bool _) ?_;refine aF Tryz.func29 fun B=>?_
 refine nR ?_;refine nR ?_;refine cP (e25) ?_;refine call9 rfl n 0 exA .any (Qr n) hfr exA_good dc (QW _) hTc sS ?_;refine aS ?_;have hTp:=hTc.put hfr (Wu sto0 exA);refine cQ (Zi.args (k10 e100 (n+1+1) _ (hTp.full (QW _)) (QW _) n 0 om (Wu sto0 exA) ((Yf.put _ _ _ _).full om _) exA_ok l hl (fun x hx=>(hsm x hx).1) (fun x hx=>(hsm x hx).2) [] sm sm) (args':=[.sl 13 (l.map Lt.enc) .any,.ptr n 0 0,.sl 5 [] .full]) ⟨.refl _,.refl _,.any _ _ _,trivial⟩) ?_;rw[exA_A,hj];refine aS ?_;have hq:IntKind.i64.wrap ((xs.length:Int).tdiv 2)=(k:Int):=by
  have:=Zm1 (i:=xs.length) (k:=2) om;rw[show((2:Nat):Int)=2 from rfl]at this;rw[this,hxl,Nat.mul_div_cancel_left _ om]
 have hkk:((k:Int) !=(k:Int))=false:=by simp
 refine nr ?_;simp only[go_sem,simprocAttr,eInt,Zk,h1,h2,hq,hkk];refine nF ?_;refine nR ?_;refine kK ?_;obtain⟨bs,hbs⟩:∃bs,bs=[b1,b2]:=⟨_,rfl⟩
 have hb2:bs.length=2:=by rw[hbs];rfl
 have hbk:∀j (h:j<bs.length),bs[j].length=k:=fun j h=>by
  subst hbs;have hj:j=0∨j=1:=by simp at h;omega
  rcases hj with rfl|rfl
  ·exact h1
  ·exact h2
 have he:∀j (hj:j<(b1++b2).length) (hj':j<xs.length),(b1++b2)[j].2=Yg xs[j]:=fun j hj hj'=>by
  have:=congrArg (fun l=>l[j]?) hx;simp only[QZ,Qd hj,Qd hj',Us,Qq]at this;exact this
 have hbx:∀i (h:i<xs.length) (hd:i / k<bs.length) (hm:i % k<bs[i / k].length),bs[i / k][i % k].2=Yg xs[i]:=fun i h hd hm=>by
  subst hbs;have hle:i<(b1++b2).length:=by rw[Qh];omega
  rcases Qg i k with hik|hik
  ·have:=he i hle h;rw[MG om]at this;simpa only[Qba hik,Qac hik,Ud]using this
  ·have e1:i / k=1:=Nat.div_eq_of_lt_le om om;have e2:i % k=i - b1.length:=by rw[QaV hik,Qac om,h1]
   have:=he i hle h;rw[QaW om]at this;simpa only[e1,e2,UW,Ud]using this
 have hall:∀(q:Nat→Prop),Inside (n+1) q (.sl 1 (bs.map Zk) .any)∧Inside (n+1) q (.sl 1 (xs.map eInt) .any):=fun q=>⟨(Zw _).inside,(Zax xs).inside⟩
 refine Zr (Zu5 bs xs (put (Zdt n H) n 0 (Wu sto0 exA))) xs.length rfl ?_ ?_
 ·rw[hbs];refine Zh ?_ ?_ ?_ ?_<;>repeat' first|apply q0|exact xx|apply aI
  all_goals first|exact(hall _).2|(rw[←hbs];exact(hall _).1)|skip
 intro i hi;refine Ya rfl ?_;rcases Qg i xs.length with h|h
 ·have hqi:=Zm1 (i:=i) (k:=k) om;have hri:=Zqy i k;have hd:i / k<bs.length:=by rw[hb2];exact GL (by rw[Gs];omega)
  have hm:i % k<bs[i / k].length:=by rw[hbk _ hd];exact QaN _ hk
  have hx0:=hbx i h hd hm;have h00:0<bs.length:=by omega
  have hk0:((k:Int)=0)=False:=by simp;omega
  have hb0:=hbk 0 h00;refine nq h ?_;refine nT ?_;refine nr ?_;simp only[go_sem,simprocAttr,getD_map Zk _ _ h00,h00,Zk,hb0,hqi,hk0,hd,getD_map Zk _ _ hd];refine⟨om,?_⟩;have hkind:(Yg xs[i]).kind=1:=rfl;have hnum:(Yg xs[i]).num=xs[i]:=rfl;refine nr ?_;simp only[go_sem,simprocAttr,getD_map Zk _ _ h00,h00,Zk,hb0,hri,hk0,getD_map eBd _ _ hm,hm,eBd,hx0,hkind,hnum];refine⟨om,?_⟩;have hbb:(xs[i] !=xs[i])=false:=by simp
  refine nD drawO ?_;simp only[go_sem,simprocAttr,getD_map eInt _ _ h,eInt,h,hbb];refine nF ?_;refine nR ?_;refine nN ?_;exact KK
 ·refine nq (QE.2 h) ?_;refine nF ?_;refine nX ?_;refine nR ?_;refine nV ?_;exact Zo (.refl _) (.bool _) ⟨rfl,ZiH (Qe n)⟩
theorem e27(x:Lt)(hx:x.Good):Pure Tryz.prog 27 [x.enc,x.enc] (.bool true):=by
 intro n H;have h1:=a28 x.at_ x.at_ hx.at_;rw[(Zfi _ _).2 rfl]at h1;have h2:=a62 x.L x.L hx.L;rw[(eqT_iff _ _).2 rfl]at h2;have h3:=a62 x.R x.R hx.R;rw[(eqT_iff _ _).2 rfl]at h3;have b1:(x.neg==x.neg)=true:=by simp
 refine aF Tryz.func27 fun B=>?_
 refine nR ?_;refine nq b1 ?_;refine cP (h1) ?_;refine cP (h2) ?_;refine cP (h3) ?_;exact pB
theorem ZrU{cx:Cx}{op:Oper}{args:List Operand}{ts:List TypeId}{F:Zb→Prop}{tm:List (Nat×AV)}{L:List (Nat×Ze)}{H:Za}(hP:cx.P=Tryz.prog)(l2 b2:Nat)(A:List Am)(o:Own)(hl2:l2<cx.n)(hf:YF H l2 b2)(hg:JO A)(hlen:A.length≤1000000)
  (hn:0<cx.n) (hT:Tabs H) (ha:Yo cx.T (evT tm) args ts=[.sl 2 (A.map Am.enc) o]) (hF:F ⟨Yl tm op.dst (.ptr l2 b2 0),L,put H l2 b2 (Wu sto0 A)⟩):Zet cx op (.func 9) args ts ⟨tm,L,H⟩ F:=by
 obtain⟨P,T,φ,n,N⟩:=cx;subst hP;have h:=w9 (n+1) (full n L H) l2 b2 A (Gy hl2) (hf.full hl2 L) hg hlen (QW _) (hT.full hn);rw[Zbw n l2 b2 _ L H (Qat hl2)]at h;exact⟨9,_,_,[],.ptr l2 b2 0,L,_,rfl,Zf Tryz.func9 rfl rfl,by rw[Qu,ha];exact Zi.wk h ⟨.any _ _ _,trivial⟩,ZaT hl2,hF⟩
theorem Zu3(n:Nat)(G:Za)(hT:Tabs G)(hn:0<n)(ls bs:Nat)(hls:ls<n)(hs:Yf G ls bs (Wu sto0 exA))(l:List Lt)(hl:l.length≤10)(ht:l.all ZeM=true)(r:List Bnd)(e:Int)(hj:Xf exA l []=(r,e)):
  PC Tryz.prog n 10 [.sl 13 (l.map Lt.enc) .full,.ptr ls bs 0,.sl 5 [] .full] G (.tup [.sl 1 (r.map Zk) .any,eInt e]):=by
 have hsm:∀x∈l,Sm x∧0≤x.op∧x.op≤255:=fun x hx=>ZdE (QA.1 ht x hx)
 have h:=k10 e100 n G hT hn ls bs hls (Wu sto0 exA) hs exA_ok l hl (fun x hx=>(hsm x hx).1) (fun x hx=>(hsm x hx).2) [] sm sm;rw[exA_A,hj]at h;exact Zi.args h ⟨.any _ _ _,.refl _,.any _ _ _,trivial⟩
theorem ZvB(n:Nat)(G:Za)(hT:Tabs G)(hn:0<n)(l:List Lt)(hl:l.length≤10)(ht:l.all ZeM=true)(r:List Lt)(hj:XQ l []=r):PC Tryz.prog n 26 [.sl 13 (l.map Lt.enc) .full,.sl 1 [] .full] G (.sl 13 (r.map Lt.enc) .any):=by
 have h:=j26 l hl (fun x hx=>(ZdE (QA.1 ht x hx)).1) [] sm n G hn hT;rw[hj]at h;exact Zi.args h ⟨.any _ _ _,.any _ _ _,trivial⟩
theorem Ztm(n:Nat)(G:Za)(hT:Tabs G)(hn:0<n)(l:List Lt)(hl:l.length≤10)(ht:l.all ZeM=true)(b1 b2:Bnd)(k:Nat)(hk:0<k)(hk2:k≤1000)(h1:b1.length=k)(h2:b2.length=k)(xs:List Int)(hx:(b1++b2).map Prod.snd=xs.map Yg)(hj:Xf exA l []=([b1,b2],0)):
  PC Tryz.prog n 29 [.sl 13 (l.map Lt.enc) .full,.sl 1 (xs.map eInt) .full] G (.bool true):=Zi.args (e29 l hl ht b1 b2 k hk hk2 h1 h2 xs hx hj n G hn hT) ⟨.any _ _ _,.any _ _ _,trivial⟩
def v1:Tm:=.mk 3 0 [35,49] []
def o7c:Opt:=⟨true,true,fun d=>if d=73∨d=93 then .heap else .auto,[]⟩
def o7a:Opt:=⟨true,true,fun d=>if d=20 then .call else if d=21 then .heap else .auto,[]⟩
def o7b:Opt:=⟨true,true,fun d=>if d=32 then .heap else .auto,[]⟩
theorem e7(n:Nat)(H:Za)(hn:0<n)(hT:Tabs H):PC Tryz.prog n 7 [] H (.bool true):=by
 have hTc:=hT.cut hn;have hfr:=YF.cut n n H (Qe _) 0;refine PC.up 1 (.bool _) ?_;refine aF Tryz.func7 fun B=>?_
 refine nR ?_;refine nR ?_;refine cP (w18 [88]) ?_;refine cP (w18 [89]) ?_;refine cP (w18 [90]) ?_;refine nD o7a ?_;simp only[go_sem,simprocAttr,o7a];refine cR (e24 1) ?_;refine⟨rfl,?_⟩;refine cR (Zre [43] vZ (Yg 1)) ?_;refine⟨rfl,?_⟩;refine cR (ZlT [112] vX (ZbY vZ (Yg 1))) ?_;refine⟨rfl,?_⟩;refine cR (e25) ?_;refine ZrU rfl n 0 exA .any (Qr n) hfr exA_good dc (QW _) hTc sS ?_;simp only[go_sem,simprocAttr];have hTp:=hTc.put hfr (Wu sto0 exA);refine ZbR (Zf Tryz.func10 rfl rfl) (fun G hG=>Zu3 (n+1+1) G (XU hG▸hTp.full (QW _)) (QW _) n 0 om (XU hG▸(Yf.put _ _ _ _).full (Qr n) _) _ dc (by kernel_rfl) _ _ aw1) rfl ?_;simp only[go_sem,simprocAttr];refine nD o7b ?_;simp only[go_sem,simprocAttr,o7b];refine cR (e24 1) ?_;refine⟨rfl,?_⟩;refine cR (Zre [43] vX (Yg 1)) ?_;refine⟨rfl,?_⟩;refine cR (ZlT [112] vX (ZbY vX (Yg 1))) ?_;refine⟨rfl,?_⟩;refine ZbR (Zf Tryz.func26 rfl rfl) (fun G hG=>ZvB (n+1+1) G (XU hG▸hTp.full (QW _)) (QW _) [ZgK [vX,ZbY vX (Yg 1)]] dc (by kernel_rfl) _ aw4) rfl ?_;simp only[go_sem,simprocAttr];refine nD o7c ?_;simp only[go_sem,simprocAttr,o7c,eInt];refine cR (w18 [35,49]) ?_;refine⟨rfl,?_⟩;refine cR (ZlT [112] vX v1) ?_;refine cR (e27 (ZgK [vX,v1]) (ZdE (show ZeM _=true by kernel_rfl)).1.good) ?_;refine cR (w18 [35,49]) ?_;refine cR (e24 1) ?_;refine⟨rfl,?_⟩;refine cR (Zre [43] vX (Yg 1)) ?_;refine cR (e28 1 v1 (ZbY vX (Yg 1))) ?_;refine cR (e27 (ZfZ 1 v1 (ZbY vX (Yg 1))) (ZdE (show ZeM _=true by kernel_rfl)).1.good) ?_;refine⟨rfl,?_⟩;refine cR (ZlT [112] vX vY) ?_;refine⟨rfl,?_⟩;refine cR (ZlT [112] vY vZ) ?_;refine⟨rfl,?_⟩;refine⟨rfl,?_⟩;refine ZbR (Zf Tryz.func29 rfl rfl) (fun G hG=>Ztm (n+1+1) G (XU hG▸hTp.full (QW _)) (QW _) [ZgK [vX,vY],ZgK [vY,vZ]] dc (by kernel_rfl) _ _ 3 dc dc rfl rfl [1,2,3,2,3,5] rfl aw2) rfl ?_;simp only[go_sem,simprocAttr];refine cR (e24 1) ?_;refine⟨rfl,?_⟩;refine cR (Zre [43] vX (Yg 1)) ?_;refine⟨rfl,?_⟩;refine cR (ZlT [112] vX (ZbY vX (Yg 1))) ?_;refine cR (e24 1) ?_;refine cR (e30 (Yg 1) vX) ?_;refine cR (e28 1 vY (.mk 6 0 [] [Yg 1,vX])) ?_;refine cR (e24 2) ?_;refine cR (e28 2 vY (Yg 2)) ?_;refine⟨rfl,?_⟩;refine⟨rfl,?_⟩;refine ZbR (Zf Tryz.func29 rfl rfl) (fun G hG=>Ztm (n+1+1) G (XU hG▸hTp.full (QW _)) (QW _) [ZgK [vX,ZbY vX (Yg 1)],ZfZ 1 vY (.mk 6 0 [] [Yg 1,vX]),ZfZ 2 vY (Yg 2)] dc (by kernel_rfl) _ _ 2 dc dc rfl rfl [1,1,2,1] rfl aw3) rfl ?_;simp only[go_sem,simprocAttr];refine nV ?_;exact Zo (.refl _) (.bool _) ⟨rfl,ZiH (Qe n)⟩
structure InJ (l:List Lt) (A:List Am) (b:Bnd):Prop where
 hl:l.length≤100000000000000
 hA:A.length≤100000000000000
 hb:b.length≤100000000000000
 gl:szLs l≤300→ ∀x∈l,x.Good
 gA:szA A≤300→JO A
 gb:sumN (b.map fun p=>p.2.sz)≤300→ ∀p∈b,p.2.Good
 op:∀x∈l,0≤x.op∧x.op≤255
 bn:∀p∈b,p.1.length≤140737488355328
theorem szLs_mem:∀{l:List Lt} {x:Lt},x∈l→1+x.at_.sz+x.L.sz+x.R.sz≤szLs l+1
 |y::l,x,h=>by
  simp only[szLs,szX];rcases Qk.1 h with rfl|h
  ·omega
  ·have:=szLs_mem h;omega
structure SmJ (l:List Lt) (A:List Am) (b:Bnd):Prop where
 l5:l.length≤5
 A24:A.length≤24
 b300:b.length≤300
 sm:∀x∈l,Sm x
 gA:JO A
 gb:∀p∈b,p.2.Good
theorem InJ.small{l:List Lt}{A:List Am}{b:Bnd}(h:InJ l A b)(hg:Zeu l A b=false):SmJ l A b:=by
 obtain⟨h1,h2,h3⟩:=ZkQ hg;refine⟨h2,h3,om,fun x hx=>?_,h.gA om,h.gb om⟩;have:=szLs_mem hx;have h0:x.at_.sz=1+Tm.sz.szs x.at_.args:=rfl;exact⟨h.gl om x hx,om,om,om⟩
theorem Zmq(A:List Am):∀(p:List Stp) (now:List Bnd),now.length≤20001→(WZ A p now).1.length≤20001
 |[],now,h=>h
 |s::r,now,_=>by
  rw[WZ];split
  ·exact Zmq A r _ (ZmS _ _)
  ·simp
theorem Znl(A:List Am)(l:List Lt)(b:Bnd):(Xf A l b).1.length≤20001:=by
 unfold Xf;split
 ·dsimp only;split
  ·simp
  ·rename_i p _;split
   ·refine Uw (ZqE _ _) ?_;rw[Qv];exact Zmq A p [b] sm
   ·simp
 ·simp
theorem Zn7{A:List Am}(hA:∀a∈A,Yv a=true){l:List Lt}{b:Bnd}(hl:l.length≤10)(hs:∀x∈l,Sm x)(hb:b.length≤1000):∀σ∈(Xf A l b).1,σ.length≤7100:=fun σ hσ=>by
 rcases ZeT hA l b with⟨_,h⟩|⟨_,_,_,h⟩|⟨_,_,_,⟨e,_,h⟩|⟨r,h,_,hm⟩⟩
 ·rw[h]at hσ;cases hσ
 ·rw[h]at hσ;cases hσ
 ·rw[h]at hσ;cases hσ
 ·rw[h]at hσ;have h1:=((hm σ).1 hσ).1;have h2:=Xq (p:=Zq σ) (q:=Z7 l b) ((Zdb h1.1.asc).imp fun{x y} h e=>by subst e;rw[cmpBytes_self]at h;omega) fun x hx=>(h1.2 x).1 hx
  have h3:=Zgk hl hs hb;simp only[Zq,Qv]at h2;omega
def ss4(R:List Bnd)(e:Int)(b:Bnd)(H:Za)(i:Nat):Zb:=⟨[(9,.int .i64 i),(7,.sl 1 (R.map Zk) .any),(8,.int .i64 e),(2,.sl 5 (b.map eBd) .any)],[],H⟩
def ZsZ(R:List Bnd)(e:Int)(b:Bnd)(H:Za)(i j:Nat):Zb:=⟨[(10,.int .i64 j),(9,.int .i64 i),(7,.sl 1 (R.map Zk) .any),(8,.int .i64 e),(2,.sl 5 (b.map eBd) .any)],[],H⟩
noncomputable abbrev c4:Code:=(ZQ Tryz.f4).snd.snd.snd.snd.fst.snd.fst.fst.snd.fst.fst
theorem k4a(R:List Bnd)(e:Int)(b:Bnd)(W:Za)(n:Nat)(hTW:Tabs W)(i:Nat)(h:i<R.length)(σ:Bnd)(hσ:R[i]=σ)(hg:ZP σ)(hσl:σ.length≤7100)(B:Base):
  AKc ⟨Tryz.prog,tt,⟨none,B⟩,n+1,Tryz.f4.ntmps⟩ [.code c4.fst.snd] (fun x s'=>x= .normal∧AWk (n+1) Tryz.f4.ntmps s' (ss4 R e b W i)) (ZsZ R e b W i 0):=by
 have hall:∀(q:Nat→Prop),Inside (n+1) q (.sl 1 (R.map Zk) .any)∧Inside (n+1) q (.sl 5 (b.map eBd) .any):=fun q=>⟨(Zw _).inside,(Zx _ b).inside⟩
 have hg0:(R.map Zk).getD i .dead= .sl 5 (σ.map eBd) .any:=by rw[getD_map Zk _ _ h,hσ];rfl
 refine kK ?_;refine Zr (ZsZ R e b W i) σ.length rfl ?_ ?_
 ·exact KK
 intro j hj';refine Ya rfl ?_;rcases Qg j σ.length with hj|hj
 ·refine nq3 hg0 h hj ?_;refine nT ?_;have hq:=Qa hj;have hval:Zu σ[j].2=true:=hg.val _ hq;have hc1:=getD_map eBd σ j hj;rcases UY j with h0|h0
  ·have hd0:decide ((0:Int)<(j:Int))=false:=by rw[decide_eq_false_iff_not];omega
   refine Y5 tok mixed drawO rfl rfl rfl ?_;simp -implicitDefEqProofs (maxSteps:=1000000) only[go_sem,simprocAttr,hd0,hg0,h,hj,getD_map eBd _ _ hj];refine ZhC (Zf Tryz.func15 rfl rfl) (a37 σ[j].2 (YC hval)) (QW _) hTW rfl ?_;refine aq hval ?_;refine nF ?_;refine Wq rfl ?_;refine kK ?_;refine nR ?_;refine nN ?_;exact KK
  ·have hd0:decide ((0:Int)<(j:Int))=true:=by rw[decide_eq_true_eq];omega
   have hjm:j - 1<σ.length:=by omega
   have hw1:IntKind.i64.wrap ((j:Int) - 1)=((j - 1:Nat):Int):=by rw[iw];omega
   have hlt:Lib.compareBytes σ[j - 1].1 σ[j].1<0:=UU.1 hg.asc (j - 1) j hjm hj om;have hle:(Op.bytesLess σ[j].1 σ[j - 1].1||σ[j].1==σ[j - 1].1)=false:=by rw[Zqa,decide_eq_true hlt];rfl
   refine Y5 tok mixed drawO rfl rfl rfl ?_;simp -implicitDefEqProofs (maxSteps:=1000000) only[go_sem,simprocAttr,hd0,hw1,hg0,h,hj,hjm,getD_map eBd _ _ hj,getD_map eBd _ _ hjm,hle];refine ZhC (Zf Tryz.func15 rfl rfl) (a37 σ[j].2 (YC hval)) (QW _) hTW rfl ?_;refine aq hval ?_;refine nF ?_;refine Wq rfl ?_;refine kK ?_;refine nR ?_;refine nN ?_;exact KK
 ·refine nq3 hg0 h (QE.2 hj) ?_;refine nF ?_;refine nX ?_;refine nN ?_;refine⟨rfl,?_⟩;exact KK
def ZtV(R:List Bnd)(e:Int)(b:Bnd)(H:Za)(i k:Nat):Zb:=⟨[(11,.int .i64 k),(9,.int .i64 i),(7,.sl 1 (R.map Zk) .any),(8,.int .i64 e),(2,.sl 5 (b.map eBd) .any)],[],H⟩
theorem k4b(R:List Bnd)(e:Int)(b:Bnd)(W:Za)(n:Nat)(hb:b.length≤1000)(i:Nat)(h:i<R.length)(σ:Bnd)(hσ:R[i]=σ)(hlk:∀k (hk:k<b.length),Zz b[k].1 σ=some b[k].2∧Zu b[k].2=true)(hσl:σ.length≤7100)(hbn:∀p∈b,p.1.length≤140737488355328)(B:Base):
  AKc ⟨Tryz.prog,tt,⟨none,B⟩,n+1,Tryz.f4.ntmps⟩ [.code c4.snd.fst.snd] (fun x s'=>x= .normal∧AWk (n+1) Tryz.f4.ntmps s' (ss4 R e b W i)) (ZtV R e b W i 0):=by
 have hall:∀(q:Nat→Prop),Inside (n+1) q (.sl 1 (R.map Zk) .any)∧Inside (n+1) q (.sl 5 (b.map eBd) .any):=fun q=>⟨(Zw _).inside,(Zx _ b).inside⟩
 have hg0:(R.map Zk).getD i .dead= .sl 5 (σ.map eBd) .any:=by rw[getD_map Zk _ _ h,hσ];rfl
 refine kK ?_;refine Zr (ZtV R e b W i) b.length rfl ?_ ?_
 ·exact KK
 intro j hj';refine Ya rfl ?_;rcases Qg j b.length with hj|hj
 ·obtain⟨hl1,hl2⟩:=hlk j hj;have hap:ZN σ (.mk 3 0 b[j].1 [])=b[j].2:=WA hl1;refine nq hj ?_;refine nT ?_;refine Y5 tok mixed drawO rfl rfl rfl ?_;simp -implicitDefEqProofs (maxSteps:=1000000) only[go_sem,simprocAttr,hg0,h,hj,getD_map eBd _ _ hj];refine WM (Zf Tryz.func18 rfl rfl) (w18 b[j].1) rfl ?_;simp only[go_sem,simprocAttr,hg0,h,hj];refine WM (Zf Tryz.func17 rfl rfl) (w17 σ om (.mk 3 0 b[j].1 []) ⟨by simp[Tm.sz,Tm.sz.szs],.mk _ _ _ _ (hbn _ (Qa hj)) om om sm sm⟩) rfl ?_;simp only[go_sem,simprocAttr,hg0,h,hj,getD_map eBd _ _ hj,hap];have hcz:(cmpT b[j].2 b[j].2==0)=true:=by rw[serT.self (YC hl2)];rfl
  refine WM (Zf Tryz.func16 rfl rfl) (j16 b[j].2 b[j].2 (YC hl2) (YC hl2)) rfl ?_;refine aq hcz ?_;refine nF ?_;refine Wq rfl ?_;refine kK ?_;refine nR ?_;refine nN ?_;exact KK
 ·refine nq (QE.2 hj) ?_;refine nF ?_;refine nX ?_;refine nN ?_;refine⟨rfl,?_⟩;exact KK
theorem e4(l:List Lt)(A:List Am)(b:Bnd)(hi:InJ l A b):Z4 Tryz.prog 4 [.sl 13 (l.map Lt.enc) .any,.sl 2 (A.map Am.enc) .any,.sl 5 (b.map eBd) .any] (.bool true):=by
 intro n H hn hT;have hTc:=hT.cut hn;have hfr:=YF.cut n n H (Qe _) 0;refine PC.up 1 (.bool _) ?_;refine aF Tryz.func4 fun B=>?_
 refine nR ?_;refine nR ?_;refine cQ (e7 (n+1+1) _ (QW _) (hTc.full (QW _))) ?_;refine aS ?_;refine nF ?_;refine Wq rfl ?_;refine nR ?_;refine cP (w8 l A b hi.hl hi.hA hi.hb hi.gl hi.gb) ?_;cases hg:Zeu l A b with
 |true=>
  refine nT ?_;refine nR ?_;refine nV ?_;exact Zo (.refl _) (.bool _) ⟨rfl,fun l k hl=>if_pos hl⟩
 |false=>
 refine nF ?_;refine Wq rfl ?_;have hs:=hi.small hg;have hok:Ok (Wu sto0 A):=ok0.Wu hs.gA;have hTp:=hTc.put hfr (Wu sto0 A);refine nR ?_;refine call9 rfl n 0 A .any (Qr n) hfr hs.gA (by have:=hs.A24;omega) (QW _) hTc sS ?_;refine aS ?_;refine cQ (k10 e100 (n+1+1) _ (hTp.full (QW _)) (QW _) n 0 om (Wu sto0 A) ((Yf.put _ _ _ _).full (Qr n) _) hok l (by have:=hs.l5;omega) hs.sm hi.op b (by have:=hs.b300;omega) hs.gb) ?_;have hF:=ZiO hok.v l b;have hRl:=Znl (Wu sto0 A).A l b;have hRd:=Zn7 hok.v (l:=l) (b:=b) (by have:=hs.l5;omega) hs.sm (by have:=hs.b300;omega);generalize Xf (Wu sto0 A).A l b=r at*;obtain⟨R,e⟩:=r;simp only at hRl hRd;have hgd:∀σ∈R,∀q∈σ,q.2.Good:=fun σ hσ q hq=>YC ((hF.good σ hσ).val q hq)
 obtain⟨W,hW⟩:∃W,W=put (Zdt n H) n 0 (Wu sto0 A):=⟨_,rfl⟩
 have hcut:∀l k,l<n→W l k=H l k:=hW▸ZiH (Qe n);have hTW:Tabs W:=hW▸hTp;rw[←hW];have hall:∀(q:Nat→Prop),Inside (n+1) q (.sl 1 (R.map Zk) .any)∧Inside (n+1) q (.sl 5 (b.map eBd) .any):=fun q=>⟨(Zw _).inside,(Zx _ b).inside⟩
 simp only[go_sem,simprocAttr,eInt];refine nR ?_;repeat refine kn rfl ?_
 refine Zr (ss4 R e b W) R.length rfl ?_ ?_
 ·exact KK
 intro i hi';refine Ya rfl ?_;rcases Qg i R.length with h|h
 ·have hσm:=Qa h;have hσl:=hRd _ hσm;refine nq h ?_;refine nT ?_;refine nR ?_;refine VU (ss4 R e b W i) (ZK ?_ (k4a R e b W n hTW i h _ rfl (hF.good _ hσm) hσl B)) ?_
  ·exact KK
  refine nR ?_;refine VU (ss4 R e b W i) (ZK ?_ (k4b R e b W n (by have:=hs.b300;omega) i h _ rfl (fun k hk=>hF.look hσm hk) hσl hi.bn B)) ?_
  ·exact KK
  refine Ya rfl ?_;rcases UY i with h0|h0
  ·have hd0:decide ((0:Int)<(i:Int))=false:=by rw[decide_eq_false_iff_not];omega
   refine Y5 tok mixed drawO rfl rfl rfl ?_;simp -implicitDefEqProofs (maxSteps:=1000000) only[go_sem,simprocAttr,hd0];refine nF ?_;refine Wq rfl ?_;refine kK ?_;refine nR ?_;refine nN ?_;exact KK
  ·have hd0:decide ((0:Int)<(i:Int))=true:=by rw[decide_eq_true_eq];omega
   have hi1:i - 1<R.length:=by omega
   have hi0:0<R.length:=by omega
   have hm1:=Qa hi1;have hm0:=Qa hi0;have hw1:IntKind.i64.wrap ((i:Int) - 1)=((i - 1:Nat):Int):=by rw[iw];omega
   have hne:((R[i].length:Int) !=(R[0].length:Int))=false:=by rw[hF.len hσm hm0];simp
   have hbf:befS R[i - 1] R[i]=true:=by
    have:=hF.bef (i:=i - 1) (by simp only;omega);simpa only[Nat.sub_add_cancel h0]using this
   have g1:(R.map Zk).getD i .dead= .sl 5 (R[i].map eBd) .any:=getD_map Zk _ _ h _;have g2:(R.map Zk).getD (i - 1) .dead= .sl 5 (R[i - 1].map eBd) .any:=getD_map Zk _ _ hi1 _;have g3:(R.map Zk).getD 0 .dead= .sl 5 (R[0].map eBd) .any:=getD_map Zk _ _ hi0 _;refine Y5 tok mixed drawO rfl rfl rfl ?_;simp -implicitDefEqProofs (maxSteps:=1000000) only[go_sem,simprocAttr,hd0,hw1,g1,g2,g3,h,hi1,hi0,hne];refine⟨om,?_⟩;refine WM (Zf Tryz.func19 rfl rfl) (w19 R[i - 1] R[i] (by have:=hRd _ hm1;omega) om (hgd _ hm1) (hgd _ hσm)) rfl ?_;refine aq hbf ?_;refine nF ?_;refine Wq rfl ?_;refine kK ?_;refine nR ?_;refine nN ?_;exact KK
 ·refine nq (QE.2 h) ?_;refine nF ?_;refine nX ?_;cases he:(e==0)with
  |true=>
   refine nq he ?_;refine nV ?_;exact Zo (.refl _) (.bool _) ⟨rfl,hcut⟩
  |false=>
   have hR0:((R.length:Int)==0)=true:=by
    rcases hF.err with h1|h1
    ·simp only at h1;subst h1;cases he
    ·simp only at h1;rw[h1];rfl
   refine nq2 he hR0 ?_;refine nV ?_;exact Zo (.refl _) (.bool _) ⟨rfl,hcut⟩
open Go.ChangeShapes Go.WideShapes Go.ChangeAt Go.RowKit
def rdS:List TypeId:=[3,4,5,9,22,23,34,37,40,42,52,54]
theorem rdOk:Zle tt rdS=true:=by kernel_rfl
theorem wf_i64{n:Int}(h:(Lit.int .i64 n).wf=true):-9223372036854775808≤n∧n≤9223372036854775807:=by
 simp[Lit.wf,IntKind.min,IntKind.max,IntKind.signed,IntKind.bits]at h;omega
theorem wf_u8{n:Int}(h:(Lit.int .u8 n).wf=true):0≤n∧n≤255:=by
 simp[Lit.wf,IntKind.min,IntKind.max,IntKind.signed,IntKind.bits]at h;omega
theorem Zc3{n:Nat}(h:n≤reachBytes):n≤140737488355328:=Uw h dc
theorem r3:tt 3=some ⟨.int .i64,1,8,[.int .i64 0]⟩:=rfl
theorem r4:tt 4=some ⟨.bool,1,1,[.bool false]⟩:=rfl
theorem r5:tt 5=some ⟨.int .u8,1,1,[.int .u8 0]⟩:=rfl
theorem r9:tt 9=some ⟨.str,1,16,[.str []]⟩:=rfl
theorem r22:tt 22=some ⟨.slice 54,1,24,[.sl 13 [] .full]⟩:=rfl
theorem r23:tt 23=some ⟨.slice 52,1,24,[.sl 2 [] .full]⟩:=rfl
theorem r34:tt 34=some ⟨.slice 42,1,24,[.sl 5 [] .full]⟩:=rfl
theorem r37:tt 37=some ⟨.slice 40,1,24,[.sl 4 [] .full]⟩:=rfl
theorem r40:tt 40=some ⟨.struct [(0,5),(1,3),(2,9),(3,37)],4,56,[.int .u8 0,.int .i64 0,.str [],.sl 4 [] .full]⟩:=rfl
theorem r42:tt 42=some ⟨.struct [(0,9),(1,40)],5,72,[.str [],.int .u8 0,.int .i64 0,.str [],.sl 4 [] .full]⟩:=rfl
theorem r52:tt 52=some ⟨.struct [(0,9),(1,37)],2,40,[.str [],.sl 4 [] .full]⟩:=rfl
theorem r54:tt 54=some ⟨.struct [(0,5),(1,4),(2,52),(4,5),(5,40),(9,40)],13,168,[.int .u8 0,.bool false,.str [],.sl 4 [] .full,.int .u8 0,.int .u8 0,.int .i64 0,.str [],.sl 4 [] .full,.int .u8 0,.int .i64 0,.str [],.sl 4 [] .full]⟩:=rfl
inductive NmW:Tm→Prop
 |mk (k n:Int) (s:Str) (l:List Tm) (h:s.length≤140737488355328) (hk:0≤k∧k≤255) (hn:-9223372036854775808≤n∧n≤9223372036854775807) (hl:∀u∈l,NmW u):NmW (.mk k n s l)
theorem NmW.nm:∀{t:Tm},NmW t→t.sz≤1000000→t.Nm
 | .mk k n s l,h,hs=>by
  cases h with
  |mk _ _ _ _ h hk hn hl=>
   have h1:=Tm.ZoN (.mk k n s l);simp only[Tm.args]at h1;exact .mk _ _ _ _ h hk hn om fun u hu=>(hl u hu).nm (by have:=Tm.ZpJ (t:=.mk k n s l) (u:=u) hu;omega)
termination_by t=>SizeOf.sizeOf t
decreasing_by exact Tm.Xm (t:=.mk k n s l) hu
theorem NmW.good{t:Tm}(h:NmW t)(hs:t.sz≤1000000):t.Good:=⟨om,h.nm hs⟩
structure NmA (a:Am):Prop where
 pred:a.pred.length≤140737488355328
 nm:∀t∈a.args,NmW t
theorem NmA.good{a:Am}(h:NmA a)(hs:a.sz≤1000000):a.Good:=⟨h.pred,hs,fun t ht=>(h.nm t ht).nm (by have:=Tm.ZcJ ht;simp only[Am.sz]at hs;omega)⟩
structure NmX (x:Lt):Prop where
 at_:NmA x.at_
 L:NmW x.L
 R:NmW x.R
 op:0≤x.op∧x.op≤255
theorem NmX.good{x:Lt}(h:NmX x)(hs:szX x≤1000000):x.Good:=by
 unfold szX at hs;exact⟨h.at_.good om,h.L.good om,h.R.good om⟩
theorem Zly{α:Type}{p:α→Prop}{enc:α→List AV}:∀{xs:List (List AV)},(∀x∈xs,∃a,x=enc a∧p a)→ ∃l:List α,xs=l.map enc∧ ∀a∈l,p a
 |[],_=>⟨[],rfl,sm⟩
 |x::xs,h=>by
  obtain⟨a,h1,h2⟩:=h x sm;obtain⟨l,h3,h4⟩:=Zly (xs:=xs) (fun y hy=>h y (by simp[hy]));exact⟨a::l,by rw[h1,h3];rfl,fun b hb=>by rcases Qk.1 hb with rfl|hb;exact h2;exact h4 b hb⟩
section
variable {cs:List AV}
theorem Zh2{t:TypeId}(h:Xx tt t cs):(t=40→ ∃u:Tm,cs=u.cs∧NmW u)∧(t=37→ ∃l:List Tm,cs=[.sl 4 (l.map Tm.enc) .any]∧ ∀u∈l,NmW u):=by
 induction h with
 |int h hd hw=>exact⟨fun e=>(by subst e;rw[r40]at h;cases h;cases hd),fun e=>(by subst e;rw[r37]at h;cases h;cases hd)⟩
 |bool h hd=>exact⟨fun e=>(by subst e;rw[r40]at h;cases h;cases hd),fun e=>(by subst e;rw[r37]at h;cases h;cases hd)⟩
 |str h hd hl=>exact⟨fun e=>(by subst e;rw[r40]at h;cases h;cases hd),fun e=>(by subst e;rw[r37]at h;cases h;cases hd)⟩
 |slice xs h hd he hx hl ih=>
  refine⟨fun e=>(by subst e;rw[r40]at h;cases h;cases hd),fun e=>?_⟩;subst e;rw[r37]at h;cases h;cases hd;rw[r40]at he;cases he;obtain⟨l,h1,h2⟩:=Zly (enc:=Tm.cs) (p:=NmW) (fun x hx=>(ih x hx).1 rfl);refine⟨l,?_,h2⟩;rw[h1,Qbu];congr 2
  exact U3 fun u _=>by simp[XO,Zv.isAgg,Tm.ZcH]
 |struct h hd ps hl hf ih=>
  refine⟨fun e=>?_,fun e=>(by subst e;rw[r37]at h;cases h;cases hd)⟩;subst e;rw[r40]at h;cases h;cases hd
  match ps,hl with
  |[p0,p1,p2,p3],_=>
   obtain⟨k,rfl,hk⟩:=(hf 0 sm sm).ZdU r5 rfl;obtain⟨n,rfl,hn⟩:=(hf 1 sm sm).ZdU r3 rfl;obtain⟨s,rfl,hs⟩:=(hf 2 sm sm).Zfl r9 rfl;obtain⟨l,rfl,hl⟩:=(ih 3 sm sm).2 rfl;exact⟨.mk k n s l,rfl,.mk k n s l (Zc3 hs) (wf_u8 hk) (wf_i64 hn) hl⟩
theorem ZoK(h:Xx tt 52 cs):∃a:Am,cs=a.cs∧NmA a:=by
 obtain⟨ps,rfl,hl,hf⟩:=h.ZcW r52 rfl
 match ps,hl with
 |[p0,p1],_=>
  obtain⟨s,rfl,hs⟩:=(hf 0 sm sm).Zfl r9 rfl;obtain⟨l,rfl,hl⟩:=(Zh2 (hf 1 sm sm)).2 rfl;exact⟨⟨s,l⟩,rfl,Zc3 hs,hl⟩
theorem Zgx{α:Type}{e t k:Nat}{r re:Zv}{enc:α→AV}{acs:α→List AV}{p:α→Prop}(h:Xx tt t cs)(hr:tt t=some r)(hd:r.td= .slice e)(he:tt e=some re)(hk:re.size=k)(ha:re.isAgg=true)(hby:2≤re.bytes)
  (hc:∀x,enc x= .agg (acs x)) (hf:∀cs,Xx tt e cs→ ∃a:α,cs=acs a∧p a):∃l:List α,cs=[.sl k (l.map enc) .any]∧l.length≤100000000000000∧ ∀a∈l,p a:=by
 obtain⟨xs,rfl,hx,hlen⟩:=h.ZnN hr hd he;obtain⟨l,rfl,h2⟩:=Zly (enc:=acs) (p:=p) (fun x hx'=>hf x (hx x hx'));refine⟨l,?_,?_,h2⟩
 ·rw[Qbu,hk];congr 2
  exact U3 fun u _=>by simp only[Function.comp,XO,ha,if_true,hc]
 ·rw[Qv]at hlen;have h1:=Zc3 hlen;have h3:=Qal l.length hby;omega
theorem Zri(h:Xx tt 23 cs):∃l:List Am,cs=[.sl 2 (l.map Am.enc) .any]∧l.length≤100000000000000∧ ∀a∈l,NmA a:=Zgx h r23 rfl r52 rfl rfl dc (fun _=>rfl) fun _ h=>ZoK h
theorem Zr2(h:Xx tt 42 cs):∃p:Str×Tm,cs= .str p.1::p.2.cs∧p.1.length≤140737488355328∧NmW p.2:=by
 obtain⟨ps,rfl,hl,hf⟩:=h.ZcW r42 rfl
 match ps,hl with
 |[p0,p1],_=>
  obtain⟨s,rfl,hs⟩:=(hf 0 sm sm).Zfl r9 rfl;obtain⟨u,rfl,hu⟩:=(Zh2 (hf 1 sm sm)).1 rfl;exact⟨(s,u),sm,Zc3 hs,hu⟩
theorem Zqg(h:Xx tt 34 cs):∃b:Bnd,cs=[.sl 5 (b.map eBd) .any]∧b.length≤100000000000000∧ ∀p∈b,p.1.length≤140737488355328∧NmW p.2:=
 Zgx (acs:=fun p:Str×Tm=>.str p.1::p.2.cs) h r34 rfl r42 rfl rfl dc (fun _=>rfl) fun _ h=>Zr2 h
theorem ZrD(h:Xx tt 54 cs):∃x:Lt,cs=x.cs∧NmX x:=by
 obtain⟨ps,rfl,hl,hf⟩:=h.ZcW r54 rfl
 match ps,hl with
 |[p0,p1,p2,p3,p4,p5],_=>
  obtain⟨k,rfl,_⟩:=(hf 0 sm sm).ZdU r5 rfl;obtain⟨g,rfl⟩:=(hf 1 sm sm).ZjO r4 rfl;obtain⟨a,rfl,ha⟩:=ZoK (hf 2 sm sm);obtain⟨o,rfl,ho⟩:=(hf 3 sm sm).ZdU r5 rfl;obtain⟨u,rfl,hu⟩:=(Zh2 (hf 4 sm sm)).1 rfl;obtain⟨v,rfl,hv⟩:=(Zh2 (hf 5 sm sm)).1 rfl;exact⟨⟨k,g,a,o,u,v⟩,rfl,ha,hu,hv,wf_u8 ho⟩
theorem Zqf(h:Xx tt 22 cs):∃l:List Lt,cs=[.sl 13 (l.map Lt.enc) .any]∧l.length≤100000000000000∧ ∀x∈l,NmX x:=Zgx h r22 rfl r54 rfl rfl dc (fun _=>rfl) fun _ h=>ZrD h
theorem ZqP(h:Xx tt 22 cs):∃l:List Lt,Zgg tt 22 cs= .sl 13 (l.map Lt.enc) .any∧l.length≤100000000000000∧ ∀x∈l,NmX x:=by
 obtain⟨a,rfl,h2⟩:=Zqf h;exact⟨a,rfl,h2⟩
theorem Zqs(h:Xx tt 23 cs):∃l:List Am,Zgg tt 23 cs= .sl 2 (l.map Am.enc) .any∧l.length≤100000000000000∧ ∀a∈l,NmA a:=by
 obtain⟨a,rfl,h2⟩:=Zri h;exact⟨a,rfl,h2⟩
theorem Zq3(h:Xx tt 34 cs):∃b:Bnd,Zgg tt 34 cs= .sl 5 (b.map eBd) .any∧b.length≤100000000000000∧ ∀p∈b,p.1.length≤140737488355328∧NmW p.2:=by
 obtain⟨a,rfl,h2⟩:=Zqg h;exact⟨a,rfl,h2⟩
theorem szA_mem:∀{l:List Am} {a:Am},a∈l→a.sz≤szA l
 |b::l,a,h=>by
  simp only[szA];rcases Qk.1 h with rfl|h
  ·omega
  ·have:=szA_mem h;omega
theorem sumN_mem:∀{l:List Nat} {a:Nat},a∈l→a≤sumN l
 |b::l,a,h=>by
  simp only[sumN];rcases Qk.1 h with rfl|h
  ·omega
  ·have:=sumN_mem h;omega
theorem ZsG{l:List Lt}{A:List Am}{b:Bnd}(hl:l.length≤100000000000000∧ ∀x∈l,NmX x)(hA:A.length≤100000000000000∧ ∀a∈A,NmA a)(hb:b.length≤100000000000000∧ ∀p∈b,p.1.length≤140737488355328∧NmW p.2):InJ l A b where
 hl:=hl.1
 hA:=hA.1
 hb:=hb.1
 gl h x hx:=(hl.2 x hx).good (by have:=szLs_mem hx;unfold szX;omega)
 gA h a ha:=(hA.2 a ha).good (by have:=szA_mem ha;omega)
 gb h p hp:=(hb.2 p hp).2.good (by have:=sumN_mem (l:=b.map fun p=>p.2.sz) (Qb.2 ⟨p,hp,rfl⟩);omega)
 op x hx:=(hl.2 x hx).op
 bn p hp:=(hb.2 p hp).1
/-! The variables of Go's library. -/
theorem own:ownKnob Tryz.prog.godebug=none:=by kernel_rfl
theorem Zs3 : Tryz.prog.globalNamed "internal/strconv.uint64pow10" = some 1 := by kernel_rfl
theorem gPowT:(Tryz.prog.globals[1]?).map (·.type)=some 292:=by kernel_rfl
theorem cells292:Tryz.prog.cellsOf 292=20:=by kernel_rfl
theorem cells196:Tryz.prog.cellsOf 196=1:=by kernel_rfl
variable {W:World}
theorem Zq4 (h : laidMetH Tryz.prog Rows.joinAllRow.laid W) : Lib.TabIs Tryz.prog W "internal/strconv.uint64pow10" .u64 Lib.pow10Tab := by
 have h1 := laidMetH.filter (fun x => x.1 == "internal/strconv.uint64pow10") h
 exact Lib.tabIs_of_head (rest:=[]) Zs3 gPowT Tryz.underlying292 Tryz.underlying196 cells196 cells292 h1
def Ze7(W:World):Env where
 F:=fun b o=>if b=0∨b=1 then none else W.cell? ⟨b,o,none⟩
 m:=fun l k=>if l=0∧k=0 then some 0 else if l=0∧k=1 then some 1 else none
 hist:=fun _ _ _=>none
 g:=fun _ _=>none
 qd:=false
def ZhM(m:Int):Za:=fun l k=>if l=0∧k=0 then some (.var 0 3 [.int .i64 m])else if l=0∧k=1 then some (.var 1 292 (Lib.pow10Tab.map (.int .u64)))else none
theorem ZsM(m:Int):Tabs (ZhM m):=⟨m,3,292,rfl,rfl⟩
theorem Zqz (hsh : W.ShapedOpen Tryz.prog) (hL : Lib.TabIs Tryz.prog W "internal/strconv.uint64pow10" .u64 Lib.pow10Tab) :
  ∃m,W.heap[0]? =some (.cells #[.int .i64 m] 3 (0,0))∧W.heap[1]? =some (.cells (Lib.pow10Tab.map fun z=>Value.int .u64 z).toArray 292 (0,0)):=by
 obtain⟨m,hm⟩:=cell_of_shapedOpen_int (P:=Tryz.prog) (g:=0) (t:=3) (zero:=#[.int .i64 0]) hsh (of_decide_eq_true (by kernel_rfl)) (by kernel_rfl) rfl (by kernel_rfl) (by kernel_rfl) Tryz.underlying3;obtain⟨cs,h1,h2,_⟩:=hsh.1 0 #[.int .i64 0] 3 (of_decide_eq_true (by kernel_rfl)) (by kernel_rfl);obtain⟨cs3,h3,h4,_⟩:=hsh.1 1 (Array.replicate 20 (.int .u64 0)) 292 (of_decide_eq_true (by kernel_rfl)) (by kernel_rfl);refine⟨m,?_,?_⟩
 ·have hs:cs.size=1:=h2;simp only[World.cell?,h1]at hm;rw[h1];have:cs= #[.int .i64 m]:=by
   apply Array.ext_getElem?;intro i;cases i with
   |zero=>simpa using hm
   |succ i=>rw[Qav om,Qav sm]
  rw[this]
 ·unfold Lib.TabIs World.var? at hL;rw[Zs3]at hL;simp only[UE,h3]at hL;rw[h3,UO hL]
theorem Zua{m:Int}(h0:W.heap[0]? =some (.cells #[.int .i64 m] 3 (0,0)))(h3:W.heap[1]? =some (.cells (Lib.pow10Tab.map fun z=>Value.int .u64 z).toArray 292 (0,0))):Zt 1 (ZhM m) (Ze7 W) W:=by
 have hm:∀l k b,(Ze7 W).m l k=some b→(l=0∧k=0∧b=0)∨(l=0∧k=1∧b=1):=fun l k b h=>by
  simp only[Ze7]at h;split at h
  ·rename_i e;cases h;exact .inl ⟨e.1,e.2,rfl⟩
  ·split at h
   ·rename_i e;cases h;exact .inr ⟨e.1,e.2,rfl⟩
   ·cases h
 refine{norm:=⟨fun l k hl=>?_,fun _ _ _=>rfl,fun _ _ _ _=>rfl⟩,F:=fun b o v h=>?_,blk:=fun l k b hl h=>?_,dom:=fun l k hl h=>?_,nobuf:=fun l k h=>absurd rfl h,inj:=fun l k l' k' b h h'=>?_,injg:=fun _ _ _ _ _ h=>(by cases h),mg:=fun _ _ _ _ _ _ h=>(by cases h),mF:=fun l k b o h=>?_,lt:=fun b h=>?_}
 ·simp only[Ze7];rw[if_neg om,if_neg om]
 ·simp only[Ze7]at h;split at h
  ·cases h
  ·exact h
 ·simp only[ZhM]at h;split at h
  ·rename_i e;obtain⟨rfl,rfl⟩:=e;cases h;exact⟨rfl,rfl,_,h0,VRs.cons (.int _ _) (VRs.nil _)⟩
  ·split at h
   ·rename_i e;obtain⟨rfl,rfl⟩:=e;cases h;exact⟨rfl,rfl,_,h3,sm,fun i h1 h2=>by simp only[QO,U2];exact .int _ _⟩
   ·cases h
 ·simp only[ZhM]at h;split at h
  ·cases h
  ·rename_i c1;split at h
   ·cases h
   ·rename_i c2;simp only[Ze7];rw[if_neg c1,if_neg c2];simp
 ·rcases hm _ _ _ h with⟨rfl,rfl,rfl⟩|⟨rfl,rfl,rfl⟩<;>rcases hm _ _ _ h' with⟨rfl,rfl,e⟩|⟨rfl,rfl,e⟩<;>first|(cases e;done)|exact⟨trivial,trivial⟩|exact⟨rfl,rfl⟩|simp
 ·rcases hm _ _ _ h with⟨_,_,rfl⟩|⟨_,_,rfl⟩<;>simp[Ze7]
 ·rcases h with⟨l,k,h⟩|⟨l,k,h⟩
  ·rcases hm _ _ _ h with⟨_,_,rfl⟩|⟨_,_,rfl⟩
   ·exact(QN.1 h0).1
   ·exact(QN.1 h3).1
  ·cases h
theorem ZsD{W':World}{m:Int}{E':Env}(h0:W.heap[0]? =some (.cells #[.int .i64 m] 3 (0,0)))(h3:W.heap[1]? =some (.cells (Lib.pow10Tab.map fun z=>Value.int .u64 z).toArray 292 (0,0)))
  (hh:Zt 1 (ZhM m) E' W') (hx:Ext 1 (Ze7 W) W E' W'):Go.RowKit.Below W.heap.size W W':=by
 refine⟨hx.os,hx.tape,hx.output,hx.size,fun k hk=>?_⟩;by_cases e0:k=0
 ·subst e0;obtain⟨_,_,c,h1,h2⟩:=hh.blk 0 0 (.var 0 3 [.int .i64 m]) om rfl;obtain⟨x,r,hr,hv,hn⟩:=h2.YR;cases hv;rw[h1,h0,show c= #[.int .i64 m] from Qaf.1 (by rw[hr,hn.of_nil])]
 ·by_cases e3:k=1
  ·subst e3;obtain⟨_,_,c,h1,h2⟩:=hh.blk 0 1 (.var 1 292 (Lib.pow10Tab.map (.int .u64))) om rfl;rw[h1,h3,show c=_ from Qaf.1 (VRs.Zsj h2)]
  ·refine hx.block k hk ?_;rintro(⟨l,j,h⟩|⟨l,j,h⟩)
   ·simp only[Ze7]at h;split at h
    ·cases h;exact e0 rfl
    ·split at h
     ·cases h;exact e3 rfl
     ·cases h
   ·cases h
theorem Zpu{H:Type}{enc:TypeId×Value→H}(f:Nat)(ts:List TypeId)(hts:∀t∈ts,t∈rdS)(h:∀cs,ZjR tt ts cs→Z4 Tryz.prog f (wraps tt ts cs) (.bool true))
  (W:World) (base:Nat) (args:Array Value) (ds:List (DataW H)) (ps:List MemPlace) (hA:DataW.TrodAll enc Tryz.prog W 0 (fun _=>true) true ts args.toList ds ps)
  (hok:∀(j:Nat) t v,ts[j]? =some t→args.toList[j]? =some v→Value.okWide Tryz.prog W .any base t v) (hw:∀n∈DataW.weightsEach Tryz.prog ts ds,n≤reachBytes)
  (hsh : W.ShapedOpen Tryz.prog) (hL : Lib.TabIs Tryz.prog W "internal/strconv.uint64pow10" .u64 Lib.pow10Tab) :
  Calls Tryz.prog f args W fun e W'=>e= .returned (.bool true)∧Go.RowKit.Below W.heap.size W W':=by
 obtain⟨m,h0,h3⟩:=Zqz hsh hL;obtain⟨cs,hf,hv⟩:=Zmz (E:=Ze7 W) (X:=fun b=>b=0∨b=1) tok rdS rdOk (fun b o v hX hc=>by simp only[Ze7];rw[if_neg hX];exact hc)
  (fun b o v hX hc=>by
   rcases hX with rfl|rfl
   ·simp only[World.cell?,h0]at hc;cases o with
    |zero=>simp at hc;exact .inl ⟨m,hc.symm⟩
    |succ o=>simp at hc
   ·simp only[World.cell?,h3]at hc;simp only[GY,QT,if_false,List.getElem?_toArray,QZ,Ul]at hc;obtain⟨z,_,rfl⟩:=hc;exact .inr ⟨z,rfl⟩) ts args.toList ds ps hA hts hok hw
 have hc:=h cs hf 1 (ZhM m) Nat.one_pos (ZsM m) (Ze7 W) W args.toList (Zua h0 h3) hv;refine Calls.mono hc ?_;rintro e W' ⟨r,v,H',E',rfl,⟨rfl,rfl⟩,h1,h2,h4⟩;cases h1;exact⟨rfl,ZsD h0 h3 h2 h4⟩
end
end Go.Proofs.YtmdeagmbfhbbnaaGreatDoorR
