/- Expand: the deferred closure. -/
import Derived.Test.YtmdeagmbfhbbnaaGreatDoorRM09
import Derived.Test.YtmdeagmbfhbbnaaGreatDoorRM07
import Derived.Test.YtmdeagmbfhbbnaaGreatDoorRM04
import Derived.Test.YtmdeagmbfhbbnaaGreatDoorRTie
import Derived.Test.YtmdeagmbfhbbnaaGreatDoorRCards
import Derived.LaidSub
import Derived.Shelf.Vars
import Derived.Deep.DeepHandedRow
import Derived.WalkKit
import Derived.ProofKit
import Derived.Stop.Joined
set_option linter.all false
set_option maxRecDepth 100000
open Go.Proofs.Tryz
namespace Go.Proofs.YtmdeagmbfhbbnaaGreatDoorR
open Go.Abs
def e197(t:Tm):Pure prog 197 [t.enc] (.bool (!(t.kind==3))):=by
 intro n H;refine aF func197 fun B=>?_
 refine gc ?_;exact pB
def e152(t:Tm)(ht:t.Good):ZR prog 152 [t.enc] (.bool (grT t)):=by
 intro n H hn hT;refine aF func152 fun B=>?_
 refine gc ?_;refine cT (a71 t ht 197 (fun u=>!(u.kind==3)) ⟨⟨_,_,Zf func197 rfl rfl⟩,fun u _=>Abs.Pure.tabs (e197 u)⟩) ?_;refine YG rfl rfl ?_;refine Zc ?_ (.bool _) rfl;try simp only[go_sem,simprocAttr,grT]
 exact .refl _
def ZuI(n:Nat)(H:Za):Zhn prog (n+1) 153 [.ptr n 2 0,.ptr n 3 0] H .returning (fun H'=>H'=H):=by
 refine Zkl (t:=197) (x:=.nili) tok (Zf func153 rfl rfl) sm rfl rfl rfl rfl rfl (.inl ⟨rfl,rfl⟩) fun B=>?_
 refine gP ?_;refine nF ?_;refine nN ?_;exact⟨.inl rfl,rfl⟩
def Zul(n:Nat)(H:Za)(x:AV)(c:Int)(h2:H n 2=some (.box [x]))(h3:H n 3=some (.box [.int .i64 c])):Zhn prog (n+1) 153 [.ptr n 2 0,.ptr n 3 0] H (.panicking (ch 197)) (fun H'=>H'=(H.upd n 2 (.box [.sl 4 [] .full])).upd n 3 (.box [.int .i64 5])):=by
 refine Zkl (t:=197) (x:=.ifc 197 (.agg [])) tok (Zf func153 rfl rfl) sm rfl rfl rfl rfl rfl (.inr ⟨rfl,rfl⟩) fun B=>?_
 refine gP ?_;refine nT ?_;have hu3:∀y,H.upd n 2 y n 3=some (.box [.int .i64 c]):=fun y=>by rw[Za.upd_ne _ _ sm];exact h3
 have hnn:¬n=n+1:=om;refine nq3 h2 hu3 hnn ?_;refine⟨.inr (Ze.ZC ⟨YN (fun _ h=>by cases h) (fun _ _ e=>by cases e),trivial⟩),.inr (Ze.ZC ⟨.int _ _,trivial⟩),?_⟩;refine nN ?_;exact⟨.inl rfl,rfl⟩
def Zhn.mono{P:Program}{m f:Nat}{args:List AV}{H:Za}{u:FrameMode}{Q Q':Za→Prop}(h:Zhn P m f args H u Q)(hq:∀H',Q H'→Q' H'):Zhn P m f args H u Q':=fun E w vs hr hv=>
 (h E w vs hr hv).mono fun e u' w' ⟨h1,h2,H',E',h3,h4⟩=>⟨h1,h2,H',E',hq _ h3,h4⟩
def mc(t:Tm)(n:Nat)(l:List Tm)(c:Int)(r:AV):List (Nat×Ze):=[(200,.Zg 40 4 (flat (l.map Tm.enc)) l.length),(3,.box [.int .i64 c]),(2,.box [r]),(1,.box t.cs)]
def ZdD(n:Nat):List (Nat×AV):=[(3,.ptr n 3 0),(2,.ptr n 2 0),(1,.ptr n 1 0)]
def ZfL{n:Nat}{H:Za}{s:Zb}{v:AV}{xs:List Tm}{c:Int}(h1:lkv s.tmps 2= .ptr n 2 0)(h2:lkv s.tmps 3= .ptr n 3 0)(h3:lkb s.L 2=some (.box [v]))(h4:lkb s.L 3=some (.box [.int .i64 c]))(hv:Wk v (.sl 4 (xs.map Tm.enc) .any))(hH:s.H=H):
  PostF prog tt n Tryz.f100.results.toList (fun r H'=>r= .tup [.sl 4 (xs.map Tm.enc) .any,eInt c]∧H'=H) .ret s:=by
 have f2:full n s.L s.H n 2=some (.box [v]):=by simp[full,h3]
 have f3:full n s.L s.H n 3=some (.box [.int .i64 c]):=by simp[full,h4]
 show PostF prog tt n [.cell 2 37,.cell 3 29] _ .ret s;refine⟨fun x hx=>?_,[.sl 4 (xs.map Tm.enc) .any,.int .i64 c],⟨?_,?_,trivial⟩,?_,rfl,hH⟩
 ·simp only[Ql,QA,or_false]at hx;rcases hx with rfl|rfl
  ·exact⟨n,2,0,_,_,h1,f2,rfl,Qg _,fun _=>Nat.zero_lt_one⟩
  ·exact⟨n,3,0,_,_,h2,f3,rfl,Qg _,fun _=>Nat.zero_lt_one⟩
 ·have:Zdi s.tmps s.H n s.L tt (.cell 2 37)=v:=by
   simp only[Zdi,h1,f2];rfl
  rw[this];exact hv
 ·have:Zdi s.tmps s.H n s.L tt (.cell 3 29)= .int .i64 c:=by
   simp only[Zdi,h2,f3];rfl
  rw[this];exact .refl _
 ·intro x hx;simp only[Ql,QA,or_false]at hx;rcases hx with rfl|rfl
  ·exact ZH _
  ·exact .int _ _
def ZsW(n:Nat):Opt:=⟨true,true,fun d=>if d=27 then .heap else if d=28 then .at_ n 200 else if d=2 then .at_ n 2 else .auto,[]⟩
theorem e100:ExpOK:=by
 intro t ht n H hn hT;have hb1:∀k,Ze.Below k (.box t.cs):=fun k=>Ze.ZC ⟨.int _ _,.int _ _,.str _,ZB (mB fun u=>u.blw k),trivial⟩
 suffices h:Zi prog n 100 [t.enc] H fun r H'=>r= .tup [.sl 4 ((XR t).1.map Tm.enc) .any,eInt (XR t).2]∧H'=H from h
 by_cases hbad:YI t=true∧grT t=true;rotate_left
 ·have he:XR t=([],2):=by
   unfold XR;rw[if_neg (by rw[Qd];exact hbad)]
  rw[he];refine aF func100 fun B=>?_
  refine gc ?_;refine cT (a72 t ht) ?_;cases hv:YI t with
  |false=>
   refine aS ?_;refine gj ?_;exact ZfL (xs:=[]) rfl rfl rfl rfl (.any _ _ _) rfl
  |true=>
   have hg:grT t=false:=by
    cases hg:grT t with
    |false=>rfl
    |true=>exact absurd ⟨hv,hg⟩ hbad
   refine aS ?_;refine cT (e152 t ht) ?_;rw[hg];refine aS ?_;refine gj ?_;exact ZfL (xs:=[]) rfl rfl rfl rfl (.any _ _ _) rfl
 obtain⟨hv,hg⟩:=hbad;have hok:t.all okG=true:=by
  simp only[YI,Qd]at hv;have:=Zbf shape (fun u=>!(u.kind==3)) t;unfold grT at hg;rw[hv.2,hg]at this;exact this
 have hdp:dep t≤12:=by simp only[YI,Qd,decide_eq_true_eq]at hv;exact hv.1
 have he:XR t=match expandS t with|some l=>(l,0)|none=>([],5):=by unfold XR;rw[hv,hg];rfl
 refine Zi9 (t:=197) (pre:=[_]) (R:=(ZW Tryz.f100).snd.snd.snd) (Q:=fun r=>r= .tup [.sl 4 ((XR t).1.map Tm.enc) .any,eInt (XR t).2]) (caps:=[.ptr n 2 0,.ptr n 3 0]) tok (Zf func100 rfl rfl) sm (Zf func153 rfl rfl) [(ZW Tryz.f100).fst,(ZW Tryz.f100).snd.fst] (ZdD n) ⟨ZdD n,mc t n [] 0 (.msl 4 n 200 0),H⟩ ⟨(14,.fn (.func 153) [.ptr n 2 0,.ptr n 3 0])::ZdD n,mc t n [] 0 (.msl 4 n 200 0),H⟩ rfl rfl rfl rfl rfl (by kernel_rfl) ?_ ?_ (fun B=>?_) (fun B=>?_) (fun B=>?_)
 ·intro c hc;simp only[Ql,QA,or_false]at hc;rcases hc with rfl|rfl<;>exact .ptr _ _ _ (Qr n)
 ·intro p hp;simp only[ZdD,Ql,QA,or_false]at hp;rcases hp with rfl|rfl|rfl<;>exact .ptr _ _ _ (Qr n)
 ·show AKc _ [.code _,.code _] _ _;refine gc ?_;refine cT (a72 t ht) ?_;rw[hv];refine aS ?_;refine cT (e152 t ht) ?_;rw[hg];refine aS ?_;refine nF ?_;refine ZO (JC (j0:=2) (j:=200) (i:=0) 40 4 rfl rfl rfl) ?_;refine nN ?_;refine .inl ⟨rfl,?_⟩;unfold ZdD mc;exact KK
 ·unfold ZdD;exact sT
 ·show AKc _ _ _ ⟨(14,.fn (.func 153) [.ptr n 2 0,.ptr n 3 0])::ZdD n,[],full n (mc t n [] 0 (.msl 4 n 200 0)) H⟩;obtain⟨G,hG⟩:∃G:List Tm→Za,G=fun l=>full n (mc t n l 0 (.msl 4 n 200 l.length)) H:=⟨_,rfl⟩
  have g1:∀l,G l n 1=some (.box t.cs):=fun l=>by rw[hG];simp[full,mc,lkb]
  have g2:∀l,G l n 2=some (.box [.msl 4 n 200 l.length]):=fun l=>by rw[hG];simp[full,mc,lkb]
  have g3:∀l,G l n 3=some (.box [.int .i64 0]):=fun l=>by rw[hG];simp[full,mc,lkb]
  have g200:∀l,G l n 200=some (.Zg 40 4 (flat (l.map Tm.enc)) l.length):=fun l=>by rw[hG];simp[full,mc,lkb]
  have hG0:full n (mc t n [] 0 (.msl 4 n 200 0)) H=G []:=by rw[hG];rfl
  have hTG:∀l,Tabs (G l):=fun l=>by rw[hG];exact hT.full hn
  have hnn:¬n=n+1:=om;rw[hG0];unfold ZdD;refine kK ?_;refine YA 197 tok (pre:=[_]) (post:=[_,_]) rfl rfl rfl rfl ?_;simp only[go_sem,simprocAttr,g1,hnn,Tm.cs];refine JU (Zf func154 rfl rfl) (e154 t ht hok (n+1+1) _ (QO _) ((hTG []).full (QO _))) sS ?_ ?_;rotate_left
  ·rintro H1 ⟨hx,rfl⟩;refine⟨_,_,rfl,.refl _ _,?_⟩;refine⟨.panicking (ch 197),.inr (.inr rfl),⟨rfl,rfl,rfl⟩,Zhn.mono (Zul n (G []) _ 0 (g2 []) (g3 [])) fun H' h=>?_⟩;subst h;rw[hx]at he;rw[he];refine⟨mc t n [] 5 (.sl 4 [] .full),⟨ZdD n,mc t n [] 5 (.sl 4 [] .full),H⟩,?_,.refl _ _ _,ZfL (xs:=[]) rfl rfl rfl rfl (.any _ _ _) rfl⟩;rw[hG];show((full n (mc t n [] 0 (.msl 4 n 200 0)) H).upd n 2 _).upd n 3 _=_;rw[←Zr,←Zr];rfl
  rintro r H1 ⟨l,hx,rfl,rfl⟩;refine⟨_,_,rfl,.refl _ _,?_⟩;rw[hx]at he;have hll:=Zbb hx;have hvl:=expand_val t hok l hx;rw[he];refine gM ?_;refine Zm (fun i=>⟨[(18,.int .i64 i),(17,.int .i64 l.length),(16,.sl 4 (l.map Tm.enc) .any),(3,.ptr n 3 0),(2,.ptr n 2 0),(1,.ptr n 1 0)],[],G (l.take i)⟩) l.length rfl ?_ ?_
  ·exact KK
  intro i hi;refine ZQ rfl ?_;rcases Qe i l.length with h|h
  ·refine nq h ?_;refine nT ?_;refine nq2 (Tm.Zh _ _ h) h ?_;obtain⟨σ,hσ⟩:∃σ,σ=l.take i:=⟨_,rfl⟩
   have hσl:σ.length=i:=by rw[hσ,QM];omega
   have hgd:l[i].Good:=Xi (value_of (hvl _ (Qa h)).1 (by have:=(hvl _ (Qa h)).2;omega));rw[←hσ];refine nD (ZsW n) ?_;have hu2:∀x,(G σ).upd n 200 x n 2=some (.box [.msl 4 n 200 σ.length]):=fun x=>by rw[Za.upd_ne _ _ sm];exact g2 σ
   have hs1:=Zpw σ (.agg [.int .u8 0,.int .i64 0,.str [],.sl 0 [] .full]) rfl l[i];have hzl:(flat (σ.map Tm.enc)++flat [AV.agg [.int .u8 0,.int .i64 0,.str [],.sl 0 [] .full]]).length=σ.length*4+4:=by rw[Qh,Zf4];rfl
   simp only[go_sem,simprocAttr,ZsW,hnn,g2,g200,hu2,hzl,Za.upd_same,Za.Zau];refine Zep (Zf func155 rfl rfl) (Zs0 l[i] hgd) sS ?_;simp only[go_sem,simprocAttr,ZsW,hnn,g2,g200,hu2,hzl,Za.upd_same,Za.Zau];have hs1':(flat (σ.map Tm.enc)++flat [AV.agg [.int .u8 0,.int .i64 0,.str [],.sl 0 [] .full]]).take (σ.length*4)++(AV.int .u8 l[i].kind::AV.int .i64 l[i].num::AV.str l[i].name::AV.sl 4 (l[i].args.map Tm.enc) .any::(flat (σ.map Tm.enc)++flat [AV.agg [.int .u8 0,.int .i64 0,.str [],.sl 0 [] .full]]).drop (σ.length*4+4))=flat ((σ++[l[i]]).map Tm.enc):=hs1;rw[hs1'];have hb0:Ze.Below (n+1) (.Zg 40 4 (flat (σ.map Tm.enc)++flat [.agg [.int .u8 0,.int .i64 0,.str [],.sl 0 [] .full]]) (σ.length+1)):=by
    refine⟨fun c hc=>?_,by simp[Ze.at_]⟩;rcases Qk.1 hc with hc|hc
    ·exact(Va (m:=0) σ).1 c hc
    ·exact Yg.mem (l:=[AV.int .u8 0,.int .i64 0,.str [],.sl 0 [] .full]) (p:=fun c=>Below (n+1) c) ⟨.int _ _,.int _ _,.str _,YN (fun _ h=>by cases h) (fun _ _ e=>by cases e),trivial⟩ c (by simpa[flat,AV.cells]using hc)
   refine⟨rfl,⟨Zl om,om⟩,.inr hb0,om,om,.inr (Va _),.inr (Ze.ZC ⟨.msl _ _ _ _ om,trivial⟩),?_⟩;have hH:((G σ).upd n 200 (.Zg 40 4 (flat ((σ++[l[i]]).map Tm.enc)) (σ.length+1))).upd n 2 (.box [.msl 4 n 200 (σ.length+1)])=G (l.take (i+1)):=by
    have e1:σ.length+1=(σ++[l[i]]).length:=sm;rw[Qj h,←hσ,e1,hG];show((full n (mc t n σ 0 (.msl 4 n 200 σ.length)) H).upd n 200 _).upd n 2 _=_;rw[←Zr,←Zr];rfl
   rw[hH];refine gd ?_;exact KK
  ·have hi':i=l.length:=om;subst hi';rw[QI];refine nr ?_;simp only[go_sem,simprocAttr,QY];refine gg ?_;have hu3:∀x,(G l).upd n 2 x n 3=some (.box [.int .i64 0]):=fun x=>by rw[Za.upd_ne _ _ sm];exact g3 l
   refine nq3 hnn g2 hu3 ?_;refine⟨.inr (Ze.ZC ⟨.msl _ _ _ _ (Qr n),trivial⟩),.inr (Ze.ZC ⟨.int _ _,trivial⟩),?_⟩;rw[Yd (g2 l),Yd (g3 l)];refine nV ?_;refine⟨.returning,.inr (.inl ⟨rfl,rfl⟩),⟨rfl,rfl,rfl⟩,Zhn.mono (ZuI n _) fun H' h=>?_⟩;subst h;refine⟨mc t n l 0 (.msl 4 n 200 l.length),_,by rw[hG],Y1 (tm':=[(3,.ptr n 3 0),(2,.ptr n 2 0)]) (av':=.sl 4 (l.map Tm.enc) .any) (j0:=2) (i:=0) (j:=200) 30 (show 30<Tryz.f100.ntmps by decide) (l.map Tm.enc) dc rfl rfl (.inl ⟨4,rfl,rfl⟩) rfl rfl (by rw[Qw]) (ZlQ l) (ZeR l).mem ?_ ?_,ZfL rfl rfl rfl rfl (.refl _) rfl⟩
   ·intro p hp;simp only[Ql,QA,or_false]at hp;rcases hp with rfl|rfl
    ·exact⟨sm,.refl _,.ptr _ _ _ (.inr ⟨rfl,show(3:Nat)≠200 by decide⟩)⟩
    ·exact⟨sm,.refl _,.ptr _ _ _ (.inr ⟨rfl,show(2:Nat)≠200 by decide⟩)⟩
   ·intro p hp;simp[mc,setb,delb]at hp;rcases hp with rfl|rfl|rfl
    ·exact Ze.Zy ⟨.int _ _,trivial⟩
    ·exact Ze.Zy ⟨.dead,trivial⟩
    ·exact Ze.ZjE (fun c hc=>Yg.mem (l:=t.cs) (p:=fun c=>Below n c) ⟨.int _ _,.int _ _,.str _,ZB (mB fun u=>u.blw n),trivial⟩ c hc)
def ZuZ(n ls bs:Nat)(l:List Lt)(b:Bnd)(H:Za)(i:Nat):Zb:=
 ⟨[(42,.int .i64 i),(41,.int .i64 l.length),(40,.sl 13 (l.map Lt.enc) .any),(10,.iptr [.map n 39]),(0,.sl 13 (l.map Lt.enc) .any),(1,.ptr ls bs 0),(2,.sl 5 (b.map eBd) .any)],[(39,.map (encS (ZP [] ((l.take i).flatMap ZA))))],H⟩
def k10(hE:ExpOK)(n:Nat)(H:Za)(hT:Tabs H)(hn:0<n)(ls bs:Nat)(hls:ls<n)(s:Sto)(hs:ZV H ls bs s)(hok:Ok s)(l:List Lt)(hl:l.length≤10)(hsm:∀x∈l,Sm x)(hop:∀x∈l,0≤x.op∧x.op≤255)(b:Bnd)(hb:b.length≤1000)(gb:∀q∈b,q.2.Good):
  PC prog n 10 [.sl 13 (l.map Lt.enc) .any,.ptr ls bs 0,.sl 5 (b.map eBd) .any] H (.tup [.sl 1 ((YL s.A l b).1.map Zj) .any,eInt (YL s.A l b).2]):=by
 have hat:((atR s.A 0).2==1)=false:=by
  unfold atR;split
  ·split<;>rfl
  ·rfl
 have hnil:∀k,Below k (.sl 1 (([]:List Bnd).map Zj) .any):=fun k=>ZF []
 refine aF func10 fun B=>?_
 refine gc ?_;refine cQ (a27 (n+1) _ ls bs s 0 om (hs.full hls _) hok.g om (hT.full hn)) ?_;refine aS ?_;refine nq hat ?_;refine gv ?_;refine cT (j38 l om fun x hx=>(hsm x hx).good) ?_;cases hv:l.all Yt with
 |false=>
  have hj:YL s.A l b=([],2):=by unfold YL;rw[hv];rfl
  refine aS ?_;refine gj ?_;rw[hj];exact ZG (.any _ _ _) (.refl _) (hnil _) (.int _ _) rfl
 |true=>
  refine aS ?_;refine cT (k39 b om gb) ?_;cases hvb:validB b with
  |false=>
   have hj:YL s.A l b=([],2):=by unfold YL;rw[hv,hvb];rfl
   refine aS ?_;refine gj ?_;rw[hj];exact ZG (.any _ _ _) (.refl _) (hnil _) (.int _ _) rfl
  |true=>
   refine aS ?_;refine gN ?_;refine ZO (s':=⟨[(10,.ptr n 10 0),(0,.sl 13 (l.map Lt.enc) .any),(1,.ptr ls bs 0),(2,.sl 5 (b.map eBd) .any)],[(39,.map []),(10,.box [.map n 39])],H⟩) ?_ ?_
   ·exact KK
   refine Ya 10 [.map n 39] [(10,.iptr [.map n 39]),(0,.sl 13 (l.map Lt.enc) .any),(1,.ptr ls bs 0),(2,.sl 5 (b.map eBd) .any)] rfl ⟨Zeu dc,trivial⟩ ?_ ?_ ?_
   ·exact⟨.inr ⟨0,rfl,rfl⟩,.inl ⟨.refl _,(Yf l).inside⟩,.inl ⟨.refl _,.ptr _ _ _ (.inl hls)⟩,.inl ⟨.refl _,(Zw n b).inside⟩,trivial⟩
   ·exact⟨⟨by simp[Ze.avs],by simp[Ze.at_]⟩,trivial⟩
   refine aS ?_;refine gh ?_;refine Zm (ZuZ n ls bs l b H) l.length rfl ?_ ?_
   ·exact KK
   intro i hi;refine ZQ rfl ?_;rcases Qe i l.length with h|h
   ·obtain⟨x,hx⟩:∃x,x=l[i]:=⟨_,rfl⟩
    have hxs:=hsm _ (Qa h);rw[←hx]at hxs;have hstep:ZP (ZP [] ((l.take i).flatMap ZA)) (ZA x)=ZP [] ((l.take (i+1)).flatMap ZA):=by
     rw[Qj h,Ut,Jo,hx];simp
    refine nr ?_;refine aq h ?_;refine gH ?_;simp only[go_sem,simprocAttr,Lt.Zh _ _ h,h,←hx];refine nD o10a ?_;simp only[go_sem,simprocAttr,o10a];refine ZbJ (Zf func41 rfl rfl) (fun G hG=>j41 x hxs (n+1) G om (X4 hG▸hT.full hn)) sS ?_;simp only[go_sem,simprocAttr,o10a];refine ZmP rfl (k:=39) (xs:=ZA x) (S:=ZP [] ((l.take i).flatMap ZA)) (by have:=hxs.tv.2.2;omega) rfl (by simp only[go_sem,simprocAttr];rfl) ?_;rw[hstep];simp only[go_sem,simprocAttr];refine gd ?_;exact KK
   ·have hi':i=l.length:=om;subst hi';rw[QI];obtain⟨K1,hK1⟩:∃K1,K1=ZP [] (l.flatMap ZA):=⟨_,rfl⟩
    rw[←hK1];refine nq (QD.2 h) ?_;refine gG ?_;refine⟨rfl,?_⟩;refine Zbc 56 200 3 84 1 rfl rfl rfl ?_;simp only[go_sem,simprocAttr,U4,UO];refine ZO (ZkP (j0:=56) (i:=2) (av':=.sl 1 [.sl 5 (b.map eBd) .any] .any) rfl rfl (.any _ _ _)) ?_;simp only[go_sem,simprocAttr,U4,UO];refine ZO (s':=Zm9 n ls bs l b K1 H) ?_ ?_
    ·unfold Zm9;exact KK
    exact ZwH hE n H hT hn ls bs hls s hs hok l hl hsm hop b hb hv hvb K1 hK1 B
def Tabs.cut{n:Nat}{H:Za}(h:Tabs H)(hn:0<n):Tabs (Zd5 n H):=by
 obtain⟨m,t,t',h1,h2⟩:=h;exact⟨m,t,t',by rw[Zd5,if_pos hn];exact h1,by rw[Zd5,if_pos hn];exact h2⟩
def YH.cut(n m:Nat)(H:Za)(h:n≤m)(b:Nat):YH (Zd5 n H) m b:=fun k _=>by rw[Zd5,if_neg om]
def ZiF{n b:Nat}{H:Za}{s:Sto}{l:Nat}(hl:n≤l):∀l' k,l'<n→put (Zd5 n H) l b s l' k=H l' k:=fun l' k h=>by
 rw[ZeE om,Zd5,if_pos h]
def tinyT:Tm→Bool
 | .mk k n s l=>decide (s.length≤100)&&decide (0≤k∧k≤255)&&decide (-1000≤n∧n≤1000)&&decide (l.length≤100)&&tinys l
where tinys:List Tm→Bool
 |[]=>true
 |t::r=>tinyT t&&tinys r
mutual
def tiny_nm:∀t:Tm,tinyT t=true→Tm.Nm t
 | .mk k n s l,h=>by
  simp only[tinyT,Qd,decide_eq_true_eq]at h;exact .mk _ _ _ _ om h.1.1.1.2 om om (tinys_nm l h.2)
def tinys_nm:∀l:List Tm,tinyT.tinys l=true→ ∀u∈l,Tm.Nm u
 |[],_,u,hu=>by cases hu
 |t::r,h,u,hu=>by
  simp only[tinyT.tinys,Qd]at h;rcases Ql.1 hu with e|hu
  ·rw[e];exact tiny_nm t h.1
  ·exact tinys_nm r h.2 u hu
end
def Ze6(x:Lt):Bool:=tinyT x.L&&tinyT x.R&&tinyT.tinys x.at_.args&&decide (x.at_.pred.length≤100)&&decide (x.L.sz≤300∧x.R.sz≤300∧Tm.sz.szs x.at_.args≤300)&&decide (0≤x.op∧x.op≤255)
def ZdV{x:Lt}(h:Ze6 x=true):Sm x∧0≤x.op∧x.op≤255:=by
 simp only[Ze6,Qd,decide_eq_true_eq]at h;obtain⟨⟨⟨⟨⟨h1,h2⟩,h3⟩,h4⟩,h5⟩,h6⟩:=h;exact⟨⟨⟨⟨om,by simp only[Am.sz];omega,tinys_nm _ h3⟩,⟨om,tiny_nm _ h1⟩,⟨om,tiny_nm _ h2⟩⟩,om,om,om⟩,h6⟩
def Zqy(a:Am):Bool:=tinyT.tinys a.args&&decide (a.pred.length≤100)&&decide (Tm.sz.szs a.args≤300)
def Zrn{a:Am}(h:Zqy a=true):a.Good:=by
 simp only[Zqy,Qd,decide_eq_true_eq]at h;exact⟨om,by simp only[Am.sz];omega,tinys_nm _ h.1.1⟩
def exA_good:Vp exA:=fun a ha=>Zrn (Qy.1 (show exA.all Zqy=true by kernel_rfl) a ha)
def exA_A:(XM sto0 exA).A=exA:=by rw[ok0.Ztk exA_good];kernel_rfl
def exA_ok:Ok (XM sto0 exA):=ok0.XM exA_good
def ZnL{i k:Nat}(hi:i≤1000000):IntKind.i64.wrap ((i:Int).tdiv (k:Int))=((i / k:Nat):Int):=by
 have h:(i:Int).tdiv (k:Int)=((i / k:Nat):Int):=by rw[Int.tdiv_eq_ediv_of_nonneg om];exact(Int.natCast_ediv i k).symm
 have:=QbB i k;rw[h];generalize i / k=j at*;exact iw
def Zsi(i k:Nat):(i:Int).tmod (k:Int)=((i % k:Nat):Int):=by rw[Int.tmod_eq_emod_of_nonneg om];exact(Int.natCast_emod i k).symm
def Zv8(bs:List Bnd)(xs:List Int)(H:Za)(i:Nat):Zb:=⟨[(7,.int .i64 i),(5,.sl 1 (bs.map Zj) .any),(1,.sl 1 (xs.map eInt) .any)],[],H⟩
def e29(l:List Lt)(hl:l.length≤10)(ht:l.all Ze6=true)(b1 b2:Bnd)(k:Nat)(hk:0<k)(hk2:k≤1000)(h1:b1.length=k)(h2:b2.length=k)(xs:List Int)(hx:(b1++b2).map Prod.snd=xs.map Ye)(hj:YL exA l []=([b1,b2],0))(n:Nat)(H:Za)(hn:0<n)(hT:Tabs H):
  PC prog n 29 [.sl 13 (l.map Lt.enc) .any,.sl 1 (xs.map eInt) .any] H (.bool true):=by
 have hxl:xs.length=2*k:=by
  have:=congrArg List.length hx;simp at this;omega
 have hsm:∀x∈l,Sm x∧0≤x.op∧x.op≤255:=fun x hx=>ZdV (Qy.1 ht x hx)
 have hTc:=hT.cut hn;have hfr:=YH.cut n n H (Qg _) 0;refine PC.up 1 (.bool _) ?_;refine aF func29 fun B=>?_
 refine gc ?_;refine cP (e25) ?_;refine call9 rfl n 0 exA .any (Qr n) hfr exA_good dc (QO _) hTc sS ?_;refine aS ?_;have hTp:=hTc.put hfr (XM sto0 exA);refine cQ (Zi.args (k10 e100 (n+1+1) _ (hTp.full (QO _)) (QO _) n 0 om (XM sto0 exA) ((ZV.put _ _ _ _).full om _) exA_ok l hl (fun x hx=>(hsm x hx).1) (fun x hx=>(hsm x hx).2) [] sm sm) (args':=[.sl 13 (l.map Lt.enc) .any,.ptr n 0 0,.sl 5 [] .full]) ⟨.refl _,.refl _,.any _ _ _,trivial⟩) ?_;rw[exA_A,hj];refine aS ?_;have hq:IntKind.i64.wrap ((xs.length:Int).tdiv 2)=(k:Int):=by
  have:=ZnL (i:=xs.length) (k:=2) om;rw[show((2:Nat):Int)=2 from rfl]at this;rw[this,hxl,Nat.mul_div_cancel_left _ om]
 have hkk:((k:Int) !=(k:Int))=false:=sm;refine nr ?_;simp only[go_sem,simprocAttr,eInt,Zj,h1,h2,hq,hkk];refine gN ?_;obtain⟨bs,hbs⟩:∃bs,bs=[b1,b2]:=⟨_,rfl⟩
 have hb2:bs.length=2:=by rw[hbs];rfl
 have hbk:∀j (h:j<bs.length),bs[j].length=k:=fun j h=>by
  subst hbs;have hj:j=0∨j=1:=by simp at h;omega
  rcases hj with rfl|rfl
  ·exact h1
  ·exact h2
 have he:∀j (hj:j<(b1++b2).length) (hj':j<xs.length),(b1++b2)[j].2=Ye xs[j]:=fun j hj hj'=>by
  have:=congrArg (fun l=>l[j]?) hx;simp only[Ua,Qb hj,Qb hj',Us,Qp]at this;exact this
 have hbx:∀i (h:i<xs.length) (hd:i / k<bs.length) (hm:i % k<bs[i / k].length),bs[i / k][i % k].2=Ye xs[i]:=fun i h hd hm=>by
  subst hbs;have hle:i<(b1++b2).length:=by rw[Qh];omega
  rcases Qe i k with hik|hik
  ·have:=he i hle h;rw[MV om]at this;simpa only[Qbu hik,Qav hik,Uh]using this
  ·have e1:i / k=1:=Nat.div_eq_of_lt_le om om;have e2:i % k=i - b1.length:=by rw[Qba hik,Qav om,h1]
   have:=he i hle h;rw[Qbf om]at this;simpa only[e1,e2,UU,Uh]using this
 have hall:∀(q:Nat→Prop),Inside (n+1) q (.sl 1 (bs.map Zj) .any)∧Inside (n+1) q (.sl 1 (xs.map eInt) .any):=fun q=>⟨(ZF _).inside,(ZaG xs).inside⟩
 refine Zm (Zv8 bs xs (put (Zd5 n H) n 0 (XM sto0 exA))) xs.length rfl ?_ ?_
 ·rw[hbs];apply kZ;repeat' first|apply q0|exact xx|apply aI
  all_goals first|exact(hall _).2|(rw[←hbs];exact(hall _).1)|skip
 intro i hi;refine ZQ rfl ?_;rcases Qe i xs.length with h|h
 ·have hqi:=ZnL (i:=i) (k:=k) om;have hri:=Zsi i k;have hd:i / k<bs.length:=by rw[hb2];exact Gj (by rw[MX];omega)
  have hm:i % k<bs[i / k].length:=by rw[hbk _ hd];exact Qaj _ hk
  have hx0:=hbx i h hd hm;have h00:0<bs.length:=om;have hk0:((k:Int)=0)=False:=by simp;omega
  have hb0:=hbk 0 h00;refine nr ?_;refine aq h ?_;refine gH ?_;simp only[go_sem,simprocAttr,getD_map Zj _ _ h00,h00,Zj,hb0,hqi,hk0,hd,getD_map Zj _ _ hd];refine⟨om,?_⟩;have hkind:(Ye xs[i]).kind=1:=rfl;have hnum:(Ye xs[i]).num=xs[i]:=rfl;refine nr ?_;simp only[go_sem,simprocAttr,getD_map Zj _ _ h00,h00,Zj,hb0,hri,hk0,getD_map eBd _ _ hm,hm,eBd,hx0,hkind,hnum];refine⟨om,?_⟩;have hbb:(xs[i] !=xs[i])=false:=by simp
  refine nD drawO ?_;simp only[go_sem,simprocAttr,getD_map eInt _ _ h,eInt,h,hbb];refine gm ?_;exact KK
 ·refine nq (QD.2 h) ?_;refine gt ?_;exact Zn (.refl _) (.bool _) ⟨rfl,ZiF (Qg n)⟩
def e27(x:Lt)(hx:x.Good):Pure prog 27 [x.enc,x.enc] (.bool true):=by
 intro n H;have h1:=a28 x.at_ x.at_ hx.at_;rw[(Zcf _ _).2 rfl]at h1;have h2:=a62 x.L x.L hx.L;rw[(eqT_iff _ _).2 rfl]at h2;have h3:=a62 x.R x.R hx.R;rw[(eqT_iff _ _).2 rfl]at h3;have b1:(x.neg==x.neg)=true:=sm;refine aF func27 fun B=>?_
 refine nR ?_;refine nq b1 ?_;refine cP (h1) ?_;refine cP (h2) ?_;refine cP (h3) ?_;exact pB
def ZtC{cx:Cx}{op:Oper}{args:List Operand}{ts:List TypeId}{F:Zb→Prop}{tm:List (Nat×AV)}{L:List (Nat×Ze)}{H:Za}(hP:cx.P=prog)(l2 b2:Nat)(A:List Am)(o:Own)(hl2:l2<cx.n)(hf:YH H l2 b2)(hg:Vp A)(hlen:A.length≤1000000)
  (hn:0<cx.n) (hT:Tabs H) (ha:Yn cx.T (evT tm) args ts=[.sl 2 (A.map Am.enc) o]) (hF:F ⟨Yk tm op.dst (.ptr l2 b2 0),L,put H l2 b2 (XM sto0 A)⟩):Zem cx op (.func 9) args ts ⟨tm,L,H⟩ F:=by
 obtain⟨P,T,φ,n,N⟩:=cx;subst hP;have h:=w9 (n+1) (full n L H) l2 b2 A (Gt hl2) (hf.full hl2 L) hg hlen (QO _) (hT.full hn);rw[Zb5 n l2 b2 _ L H (Qak hl2)]at h;exact⟨9,_,_,[],.ptr l2 b2 0,L,_,rfl,Zf func9 rfl rfl,by rw[Qs,ha];exact Zi.wk h ⟨.any _ _ _,trivial⟩,Za8 hl2,hF⟩
def Zv0(n:Nat)(G:Za)(hT:Tabs G)(hn:0<n)(ls bs:Nat)(hls:ls<n)(hs:ZV G ls bs (XM sto0 exA))(l:List Lt)(hl:l.length≤10)(ht:l.all Ze6=true)(r:List Bnd)(e:Int)(hj:YL exA l []=(r,e)):
  PC prog n 10 [.sl 13 (l.map Lt.enc) .full,.ptr ls bs 0,.sl 5 [] .full] G (.tup [.sl 1 (r.map Zj) .any,eInt e]):=by
 have hsm:∀x∈l,Sm x∧0≤x.op∧x.op≤255:=fun x hx=>ZdV (Qy.1 ht x hx)
 have h:=k10 e100 n G hT hn ls bs hls (XM sto0 exA) hs exA_ok l hl (fun x hx=>(hsm x hx).1) (fun x hx=>(hsm x hx).2) [] sm sm;rw[exA_A,hj]at h;exact Zi.args h ⟨.any _ _ _,.refl _,.any _ _ _,trivial⟩
def Zwb(n:Nat)(G:Za)(hT:Tabs G)(hn:0<n)(l:List Lt)(hl:l.length≤10)(ht:l.all Ze6=true)(r:List Lt)(hj:XZ l []=r):PC prog n 26 [.sl 13 (l.map Lt.enc) .full,.sl 1 [] .full] G (.sl 13 (r.map Lt.enc) .any):=by
 have h:=j26 l hl (fun x hx=>(ZdV (Qy.1 ht x hx)).1) [] sm n G hn hT;rw[hj]at h;exact Zi.args h ⟨.any _ _ _,.any _ _ _,trivial⟩
def ZuD(n:Nat)(G:Za)(hT:Tabs G)(hn:0<n)(l:List Lt)(hl:l.length≤10)(ht:l.all Ze6=true)(b1 b2:Bnd)(k:Nat)(hk:0<k)(hk2:k≤1000)(h1:b1.length=k)(h2:b2.length=k)(xs:List Int)(hx:(b1++b2).map Prod.snd=xs.map Ye)(hj:YL exA l []=([b1,b2],0)):
  PC prog n 29 [.sl 13 (l.map Lt.enc) .full,.sl 1 (xs.map eInt) .full] G (.bool true):=Zi.args (e29 l hl ht b1 b2 k hk hk2 h1 h2 xs hx hj n G hn hT) ⟨.any _ _ _,.any _ _ _,trivial⟩
def v1:Tm:=.mk 3 0 [35,49] []
def o7c:Opt:=⟨true,true,fun d=>if d=73∨d=93 then .heap else .auto,[]⟩
def o7a:Opt:=⟨true,true,fun d=>if d=20 then .call else if d=21 then .heap else .auto,[]⟩
def o7b:Opt:=⟨true,true,fun d=>if d=32 then .heap else .auto,[]⟩
def e7(n:Nat)(H:Za)(hn:0<n)(hT:Tabs H):PC prog n 7 [] H (.bool true):=by
 have hTc:=hT.cut hn;have hfr:=YH.cut n n H (Qg _) 0;refine PC.up 1 (.bool _) ?_;refine aF func7 fun B=>?_
 refine gc ?_;refine cP (w18 [88]) ?_;refine cP (w18 [89]) ?_;refine cP (w18 [90]) ?_;refine nD o7a ?_;simp only[go_sem,simprocAttr,o7a];refine cR (e24 1) ?_;refine⟨rfl,?_⟩;refine cR (ZrA [43] vZ (Ye 1)) ?_;refine⟨rfl,?_⟩;refine cR (Zmi [112] vX (ZbG vZ (Ye 1))) ?_;refine⟨rfl,?_⟩;refine cR (e25) ?_;refine ZtC rfl n 0 exA .any (Qr n) hfr exA_good dc (QO _) hTc sS ?_;simp only[go_sem,simprocAttr];have hTp:=hTc.put hfr (XM sto0 exA);refine ZbJ (Zf func10 rfl rfl) (fun G hG=>Zv0 (n+1+1) G (X4 hG▸hTp.full (QO _)) (QO _) n 0 om (X4 hG▸(ZV.put _ _ _ _).full (Qr n) _) _ dc (by kernel_rfl) _ _ aw1) rfl ?_;simp only[go_sem,simprocAttr];refine nD o7b ?_;simp only[go_sem,simprocAttr,o7b];refine cR (e24 1) ?_;refine⟨rfl,?_⟩;refine cR (ZrA [43] vX (Ye 1)) ?_;refine⟨rfl,?_⟩;refine cR (Zmi [112] vX (ZbG vX (Ye 1))) ?_;refine⟨rfl,?_⟩;refine ZbJ (Zf func26 rfl rfl) (fun G hG=>Zwb (n+1+1) G (X4 hG▸hTp.full (QO _)) (QO _) [Zf7 [vX,ZbG vX (Ye 1)]] dc (by kernel_rfl) _ aw4) rfl ?_;simp only[go_sem,simprocAttr];refine nD o7c ?_;simp only[go_sem,simprocAttr,o7c,eInt];refine cR (w18 [35,49]) ?_;refine⟨rfl,?_⟩;refine cR (Zmi [112] vX v1) ?_;refine cR (e27 (Zf7 [vX,v1]) (ZdV (show Ze6 _=true by kernel_rfl)).1.good) ?_;refine cR (w18 [35,49]) ?_;refine cR (e24 1) ?_;refine⟨rfl,?_⟩;refine cR (ZrA [43] vX (Ye 1)) ?_;refine cR (e28 1 v1 (ZbG vX (Ye 1))) ?_;refine cR (e27 (ZgO 1 v1 (ZbG vX (Ye 1))) (ZdV (show Ze6 _=true by kernel_rfl)).1.good) ?_;refine⟨rfl,?_⟩;refine cR (Zmi [112] vX vY) ?_;refine⟨rfl,?_⟩;refine cR (Zmi [112] vY vZ) ?_;refine⟨rfl,?_⟩;refine⟨rfl,?_⟩;refine ZbJ (Zf func29 rfl rfl) (fun G hG=>ZuD (n+1+1) G (X4 hG▸hTp.full (QO _)) (QO _) [Zf7 [vX,vY],Zf7 [vY,vZ]] dc (by kernel_rfl) _ _ 3 dc dc rfl rfl [1,2,3,2,3,5] rfl aw2) rfl ?_;simp only[go_sem,simprocAttr];refine cR (e24 1) ?_;refine⟨rfl,?_⟩;refine cR (ZrA [43] vX (Ye 1)) ?_;refine⟨rfl,?_⟩;refine cR (Zmi [112] vX (ZbG vX (Ye 1))) ?_;refine cR (e24 1) ?_;refine cR (e30 (Ye 1) vX) ?_;refine cR (e28 1 vY (.mk 6 0 [] [Ye 1,vX])) ?_;refine cR (e24 2) ?_;refine cR (e28 2 vY (Ye 2)) ?_;refine⟨rfl,?_⟩;refine⟨rfl,?_⟩;refine ZbJ (Zf func29 rfl rfl) (fun G hG=>ZuD (n+1+1) G (X4 hG▸hTp.full (QO _)) (QO _) [Zf7 [vX,ZbG vX (Ye 1)],ZgO 1 vY (.mk 6 0 [] [Ye 1,vX]),ZgO 2 vY (Ye 2)] dc (by kernel_rfl) _ _ 2 dc dc rfl rfl [1,1,2,1] rfl aw3) rfl ?_;simp only[go_sem,simprocAttr];refine nV ?_;exact Zn (.refl _) (.bool _) ⟨rfl,ZiF (Qg n)⟩
structure InJ (l:List Lt) (A:List Am) (b:Bnd):Prop where
 hl:l.length≤100000000000000
 hA:A.length≤100000000000000
 hb:b.length≤100000000000000
 gl:szLs l≤300→ ∀x∈l,x.Good
 gA:szA A≤300→Vp A
 gb:sumN (b.map fun p=>p.2.sz)≤300→ ∀p∈b,p.2.Good
 op:∀x∈l,0≤x.op∧x.op≤255
 bn:∀p∈b,p.1.length≤140737488355328
def szLs_mem:∀{l:List Lt} {x:Lt},x∈l→1+x.at_.sz+x.L.sz+x.R.sz≤szLs l+1
 |y::l,x,h=>by
  simp only[szLs,szX];rcases Ql.1 h with rfl|h
  ·omega
  ·have:=szLs_mem h;omega
structure SmJ (l:List Lt) (A:List Am) (b:Bnd):Prop where
 l5:l.length≤5
 A24:A.length≤24
 b300:b.length≤300
 sm:∀x∈l,Sm x
 gA:Vp A
 gb:∀p∈b,p.2.Good
def InJ.small{l:List Lt}{A:List Am}{b:Bnd}(h:InJ l A b)(hg:ZcT l A b=false):SmJ l A b:=by
 obtain⟨h1,h2,h3⟩:=ZeV hg;refine⟨h2,h3,om,fun x hx=>?_,h.gA om,h.gb om⟩;have:=szLs_mem hx;have h0:x.at_.sz=1+Tm.sz.szs x.at_.args:=rfl;exact⟨h.gl om x hx,om,om,om⟩
def Znz(A:List Am):∀(p:List Stp) (now:List Bnd),now.length≤20001→(Vt A p now).1.length≤20001
 |[],now,h=>h
 |s::r,now,_=>by
  rw[Vt];split
  ·exact Znz A r _ (ZnP _ _)
  ·simp
def Zo2(A:List Am)(l:List Lt)(b:Bnd):(YL A l b).1.length≤20001:=by
 unfold YL;split
 ·dsimp only;split
  ·simp
  ·rename_i p _;split
   ·refine Ue (Zr8 _ _) ?_;rw[Qw];exact Znz A p [b] sm
   ·simp
 ·simp
def Zo3{A:List Am}(hA:∀a∈A,Yh a=true){l:List Lt}{b:Bnd}(hl:l.length≤10)(hs:∀x∈l,Sm x)(hb:b.length≤1000):∀σ∈(YL A l b).1,σ.length≤7100:=fun σ hσ=>by
 rcases ZbZ hA l b with⟨_,h⟩|⟨_,_,_,h⟩|⟨_,_,_,⟨e,_,h⟩|⟨r,h,_,hm⟩⟩
 ·rw[h]at hσ;cases hσ
 ·rw[h]at hσ;cases hσ
 ·rw[h]at hσ;cases hσ
 ·rw[h]at hσ;have h1:=((hm σ).1 hσ).1;have h2:=Xd (p:=Zp σ) (q:=Z5 l b) ((ZdJ h1.1.asc).imp fun{x y} h e=>by subst e;rw[cmpBytes_self]at h;omega) fun x hx=>(h1.2 x).1 hx
  have h3:=Zha hl hs hb;simp only[Zp,Qw]at h2;omega
open Go.ChangeShapes Go.WideShapes Go.ChangeAt Go.RowKit
def rdS:List TypeId:=[3,4,5,9,22,23,34,37,40,42,52,54]
theorem rdOk:Zmt tt rdS=true:=by kernel_rfl
def wf_i64{n:Int}(h:(Lit.int .i64 n).wf=true):-9223372036854775808≤n∧n≤9223372036854775807:=by
 simp[Lit.wf,IntKind.min,IntKind.max,IntKind.signed,IntKind.bits]at h;omega
def wf_u8{n:Int}(h:(Lit.int .u8 n).wf=true):0≤n∧n≤255:=by
 simp[Lit.wf,IntKind.min,IntKind.max,IntKind.signed,IntKind.bits]at h;omega
def ZfU{n:Nat}(h:n≤reachBytes):n≤140737488355328:=Ue h dc
theorem r3:tt 3=some ⟨.int .i64,1,8,[.int .i64 0]⟩:=rfl
theorem r4:tt 4=some ⟨.bool,1,1,[.bool false]⟩:=rfl
theorem r5:tt 5=some ⟨.int .u8,1,1,[.int .u8 0]⟩:=rfl
theorem r9:tt 9=some ⟨.str,1,16,[.str []]⟩:=rfl
theorem r22:tt 22=some ⟨.slice 54,1,24,[.sl 13 [] .full]⟩:=rfl
theorem r23:tt 23=some ⟨.slice 52,1,24,[.sl 2 [] .full]⟩:=rfl
theorem r37:tt 37=some ⟨.slice 40,1,24,[.sl 4 [] .full]⟩:=rfl
theorem r40:tt 40=some ⟨.struct [(0,5),(1,3),(2,9),(3,37)],4,56,[.int .u8 0,.int .i64 0,.str [],.sl 4 [] .full]⟩:=rfl
theorem r52:tt 52=some ⟨.struct [(0,9),(1,37)],2,40,[.str [],.sl 4 [] .full]⟩:=rfl
theorem r54:tt 54=some ⟨.struct [(0,5),(1,4),(2,52),(4,5),(5,40),(9,40)],13,168,[.int .u8 0,.bool false,.str [],.sl 4 [] .full,.int .u8 0,.int .u8 0,.int .i64 0,.str [],.sl 4 [] .full,.int .u8 0,.int .i64 0,.str [],.sl 4 [] .full]⟩:=rfl
inductive NmW:Tm→Prop
 |mk (k n:Int) (s:Str) (l:List Tm) (h:s.length≤140737488355328) (hk:0≤k∧k≤255) (hn:-9223372036854775808≤n∧n≤9223372036854775807) (hl:∀u∈l,NmW u):NmW (.mk k n s l)
def NmW.nm:∀{t:Tm},NmW t→t.sz≤1000000→t.Nm
 | .mk k n s l,h,hs=>by
  cases h with
  |mk _ _ _ _ h hk hn hl=>
   have h1:=Tm.ZgM (.mk k n s l);simp only[Tm.args]at h1;exact .mk _ _ _ _ h hk hn om fun u hu=>(hl u hu).nm (by have:=Tm.ZpB (t:=.mk k n s l) (u:=u) hu;omega)
termination_by t=>SizeOf.sizeOf t
decreasing_by exact Tm.Y2 (t:=.mk k n s l) hu
def NmW.good{t:Tm}(h:NmW t)(hs:t.sz≤1000000):t.Good:=⟨om,h.nm hs⟩
structure NmA (a:Am):Prop where
 pred:a.pred.length≤140737488355328
 nm:∀t∈a.args,NmW t
def NmA.good{a:Am}(h:NmA a)(hs:a.sz≤1000000):a.Good:=⟨h.pred,hs,fun t ht=>(h.nm t ht).nm (by have:=Tm.ZbY ht;simp only[Am.sz]at hs;omega)⟩
structure NmX (x:Lt):Prop where
 at_:NmA x.at_
 L:NmW x.L
 R:NmW x.R
 op:0≤x.op∧x.op≤255
def NmX.good{x:Lt}(h:NmX x)(hs:szX x≤1000000):x.Good:=by
 unfold szX at hs;exact⟨h.at_.good om,h.L.good om,h.R.good om⟩
def ZmE{α:Type}{p:α→Prop}{enc:α→List AV}:∀{xs:List (List AV)},(∀x∈xs,∃a,x=enc a∧p a)→ ∃l:List α,xs=l.map enc∧ ∀a∈l,p a
 |[],_=>⟨[],rfl,sm⟩
 |x::xs,h=>by
  obtain⟨a,h1,h2⟩:=h x sm;obtain⟨l,h3,h4⟩:=ZmE (xs:=xs) (fun y hy=>h y (by simp[hy]));exact⟨a::l,by rw[h1,h3];rfl,fun b hb=>by rcases Ql.1 hb with rfl|hb;exact h2;exact h4 b hb⟩
section
variable {cs:List AV}
def ZlH{t:TypeId}(h:XE tt t cs):(t=40→ ∃u:Tm,cs=u.cs∧NmW u)∧(t=37→ ∃l:List Tm,cs=[.sl 4 (l.map Tm.enc) .any]∧ ∀u∈l,NmW u):=by
 induction h with
 |int h hd hw=>exact⟨fun e=>(by subst e;rw[r40]at h;cases h;cases hd),fun e=>(by subst e;rw[r37]at h;cases h;cases hd)⟩
 |bool h hd=>exact⟨fun e=>(by subst e;rw[r40]at h;cases h;cases hd),fun e=>(by subst e;rw[r37]at h;cases h;cases hd)⟩
 |str h hd hl=>exact⟨fun e=>(by subst e;rw[r40]at h;cases h;cases hd),fun e=>(by subst e;rw[r37]at h;cases h;cases hd)⟩
 |slice xs h hd he hx hl ih=>
  refine⟨fun e=>(by subst e;rw[r40]at h;cases h;cases hd),fun e=>?_⟩;subst e;rw[r37]at h;cases h;cases hd;rw[r40]at he;cases he;obtain⟨l,h1,h2⟩:=ZmE (enc:=Tm.cs) (p:=NmW) (fun x hx=>(ih x hx).1 rfl);refine⟨l,?_,h2⟩;rw[h1,QbN];congr 2
  exact MH fun u _=>by simp[XY,Zu.isAgg,Tm.J4]
 |struct h hd ps hl hf ih=>
  refine⟨fun e=>?_,fun e=>(by subst e;rw[r37]at h;cases h;cases hd)⟩;subst e;rw[r40]at h;cases h;cases hd
  match ps,hl with
  |[p0,p1,p2,p3],_=>
   obtain⟨k,rfl,hk⟩:=(hf 0 sm sm).ZdM r5 rfl;obtain⟨n,rfl,hn⟩:=(hf 1 sm sm).ZdM r3 rfl;obtain⟨s,rfl,hs⟩:=(hf 2 sm sm).Zjd r9 rfl;obtain⟨l,rfl,hl⟩:=(ih 3 sm sm).2 rfl;exact⟨.mk k n s l,rfl,.mk k n s l (ZfU hs) (wf_u8 hk) (wf_i64 hn) hl⟩
def ZqI(h:XE tt 52 cs):∃a:Am,cs=a.cs∧NmA a:=by
 obtain⟨ps,rfl,hl,hf⟩:=h.Zhe r52 rfl
 match ps,hl with
 |[p0,p1],_=>
  obtain⟨s,rfl,hs⟩:=(hf 0 sm sm).Zjd r9 rfl;obtain⟨l,rfl,hl⟩:=(ZlH (hf 1 sm sm)).2 rfl;exact⟨⟨s,l⟩,rfl,ZfU hs,hl⟩
def Zk0{α:Type}{e t k:Nat}{r re:Zu}{enc:α→AV}{acs:α→List AV}{p:α→Prop}(h:XE tt t cs)(hr:tt t=some r)(hd:r.td= .slice e)(he:tt e=some re)(hk:re.size=k)(ha:re.isAgg=true)(hby:2≤re.bytes)
  (hc:∀x,enc x= .agg (acs x)) (hf:∀cs,XE tt e cs→ ∃a:α,cs=acs a∧p a):∃l:List α,cs=[.sl k (l.map enc) .any]∧l.length≤100000000000000∧ ∀a∈l,p a:=by
 obtain⟨xs,rfl,hx,hlen⟩:=h.Zor hr hd he;obtain⟨l,rfl,h2⟩:=ZmE (enc:=acs) (p:=p) (fun x hx'=>hf x (hx x hx'));refine⟨l,?_,?_,h2⟩
 ·rw[QbN,hk];congr 2
  exact MH fun u _=>by simp only[Function.comp,XY,ha,if_true,hc]
 ·rw[Qw]at hlen;have h1:=ZfU hlen;have h3:=Qaz l.length hby;omega
def Zr5(h:XE tt 23 cs):∃l:List Am,cs=[.sl 2 (l.map Am.enc) .any]∧l.length≤100000000000000∧ ∀a∈l,NmA a:=Zk0 h r23 rfl r52 rfl rfl dc (fun _=>rfl) fun _ h=>ZqI h
def ZsH(h:XE tt 54 cs):∃x:Lt,cs=x.cs∧NmX x:=by
 obtain⟨ps,rfl,hl,hf⟩:=h.Zhe r54 rfl
 match ps,hl with
 |[p0,p1,p2,p3,p4,p5],_=>
  obtain⟨k,rfl,_⟩:=(hf 0 sm sm).ZdM r5 rfl;obtain⟨g,rfl⟩:=(hf 1 sm sm).ZjC r4 rfl;obtain⟨a,rfl,ha⟩:=ZqI (hf 2 sm sm);obtain⟨o,rfl,ho⟩:=(hf 3 sm sm).ZdM r5 rfl;obtain⟨u,rfl,hu⟩:=(ZlH (hf 4 sm sm)).1 rfl;obtain⟨v,rfl,hv⟩:=(ZlH (hf 5 sm sm)).1 rfl;exact⟨⟨k,g,a,o,u,v⟩,rfl,ha,hu,hv,wf_u8 ho⟩
def Zr4(h:XE tt 22 cs):∃l:List Lt,cs=[.sl 13 (l.map Lt.enc) .any]∧l.length≤100000000000000∧ ∀x∈l,NmX x:=Zk0 h r22 rfl r54 rfl rfl dc (fun _=>rfl) fun _ h=>ZsH h
def Zrg(h:XE tt 22 cs):∃l:List Lt,Zic tt 22 cs= .sl 13 (l.map Lt.enc) .any∧l.length≤100000000000000∧ ∀x∈l,NmX x:=by
 obtain⟨a,rfl,h2⟩:=Zr4 h;exact⟨a,rfl,h2⟩
def Zq8(h:XE tt 23 cs):∃l:List Am,Zic tt 23 cs= .sl 2 (l.map Am.enc) .any∧l.length≤100000000000000∧ ∀a∈l,NmA a:=by
 obtain⟨a,rfl,h2⟩:=Zr5 h;exact⟨a,rfl,h2⟩
def szA_mem:∀{l:List Am} {a:Am},a∈l→a.sz≤szA l
 |b::l,a,h=>by
  simp only[szA];rcases Ql.1 h with rfl|h
  ·omega
  ·have:=szA_mem h;omega
def sumN_mem:∀{l:List Nat} {a:Nat},a∈l→a≤sumN l
 |b::l,a,h=>by
  simp only[sumN];rcases Ql.1 h with rfl|h
  ·omega
  ·have:=sumN_mem h;omega
def ZtE{l:List Lt}{A:List Am}{b:Bnd}(hl:l.length≤100000000000000∧ ∀x∈l,NmX x)(hA:A.length≤100000000000000∧ ∀a∈A,NmA a)(hb:b.length≤100000000000000∧ ∀p∈b,p.1.length≤140737488355328∧NmW p.2):InJ l A b where
 hl:=hl.1
 hA:=hA.1
 hb:=hb.1
 gl h x hx:=(hl.2 x hx).good (by have:=szLs_mem hx;unfold szX;omega)
 gA h a ha:=(hA.2 a ha).good (by have:=szA_mem ha;omega)
 gb h p hp:=(hb.2 p hp).2.good (by have:=sumN_mem (l:=b.map fun p=>p.2.sz) (Qi.2 ⟨p,hp,rfl⟩);omega)
 op x hx:=(hl.2 x hx).op
 bn p hp:=(hb.2 p hp).1
/-! The variables of Go's library. -/
theorem own:ownKnob prog.godebug=none:=by kernel_rfl
theorem ZtO : Tryz.prog.globalNamed "internal/strconv.uint64pow10" = some 1 := by kernel_rfl
theorem gPowT:(prog.globals[1]?).map (·.type)=some 292:=by kernel_rfl
theorem cells292:prog.cellsOf 292=20:=by kernel_rfl
theorem cells196:prog.cellsOf 196=1:=by kernel_rfl
variable {W:World}
def Zr0 (h : laidMetH Tryz.prog Rows.joinAllRow.laid W) : Lib.TabIs Tryz.prog W "internal/strconv.uint64pow10" .u64 Lib.pow10Tab := by
 have h1 := laidMetH.filter (fun x => x.1 == "internal/strconv.uint64pow10") h
 exact Lib.tabIs_of_head (rest:=[]) ZtO gPowT Tryz.underlying292 Tryz.underlying196 cells196 cells292 h1
def Zfu(W:World):Env where
 F:=fun b o=>if b=0∨b=1 then none else W.cell? ⟨b,o,none⟩
 m:=fun l k=>if l=0∧k=0 then some 0 else if l=0∧k=1 then some 1 else none
 hist:=fun _ _ _=>none
 g:=fun _ _=>none
 qd:=false
def ZhA(m:Int):Za:=fun l k=>if l=0∧k=0 then some (.var 0 3 [.int .i64 m])else if l=0∧k=1 then some (.var 1 292 (Lib.pow10Tab.map (.int .u64)))else none
def ZuW(m:Int):Tabs (ZhA m):=⟨m,3,292,rfl,rfl⟩
def ZrK (hsh : W.ShapedOpen Tryz.prog) (hL : Lib.TabIs Tryz.prog W "internal/strconv.uint64pow10" .u64 Lib.pow10Tab) :
  ∃m,W.heap[0]? =some (.cells #[.int .i64 m] 3 (0,0))∧W.heap[1]? =some (.cells (Lib.pow10Tab.map fun z=>Value.int .u64 z).toArray 292 (0,0)):=by
 obtain⟨m,hm⟩:=cell_of_shapedOpen_int (P:=prog) (g:=0) (t:=3) (zero:=#[.int .i64 0]) hsh (of_decide_eq_true (by kernel_rfl)) (by kernel_rfl) rfl (by kernel_rfl) (by kernel_rfl) Tryz.underlying3;obtain⟨cs,h1,h2,_⟩:=hsh.1 0 #[.int .i64 0] 3 (of_decide_eq_true (by kernel_rfl)) (by kernel_rfl);obtain⟨cs3,h3,h4,_⟩:=hsh.1 1 (Array.replicate 20 (.int .u64 0)) 292 (of_decide_eq_true (by kernel_rfl)) (by kernel_rfl);refine⟨m,?_,?_⟩
 ·have hs:cs.size=1:=h2;simp only[World.cell?,h1]at hm;rw[h1];have:cs= #[.int .i64 m]:=by
   apply Array.ext_getElem?;intro i;cases i with
   |zero=>simpa using hm
   |succ i=>rw[Qai om,Qai sm]
  rw[this]
 ·unfold Lib.TabIs World.var? at hL;rw[ZtO]at hL;simp only[UJ,h3]at hL;rw[h3,U7 hL]
def Zt5{m:Int}(h0:W.heap[0]? =some (.cells #[.int .i64 m] 3 (0,0)))(h3:W.heap[1]? =some (.cells (Lib.pow10Tab.map fun z=>Value.int .u64 z).toArray 292 (0,0))):Zt 1 (ZhA m) (Zfu W) W:=by
 have hm:∀l k b,(Zfu W).m l k=some b→(l=0∧k=0∧b=0)∨(l=0∧k=1∧b=1):=fun l k b h=>by
  simp only[Zfu]at h;split at h
  ·rename_i e;cases h;exact .inl ⟨e.1,e.2,rfl⟩
  ·split at h
   ·rename_i e;cases h;exact .inr ⟨e.1,e.2,rfl⟩
   ·cases h
 refine{norm:=⟨fun l k hl=>?_,fun _ _ _=>rfl,fun _ _ _ _=>rfl⟩,F:=fun b o v h=>?_,blk:=fun l k b hl h=>?_,dom:=fun l k hl h=>?_,nobuf:=fun l k h=>absurd rfl h,inj:=fun l k l' k' b h h'=>?_,injg:=fun _ _ _ _ _ h=>(by cases h),mg:=fun _ _ _ _ _ _ h=>(by cases h),mF:=fun l k b o h=>?_,lt:=fun b h=>?_}
 ·simp only[Zfu];rw[if_neg om,if_neg om]
 ·simp only[Zfu]at h;split at h
  ·cases h
  ·exact h
 ·simp only[ZhA]at h;split at h
  ·rename_i e;obtain⟨rfl,rfl⟩:=e;cases h;exact⟨rfl,rfl,_,h0,VRs.cons (.int _ _) (VRs.nil _)⟩
  ·split at h
   ·rename_i e;obtain⟨rfl,rfl⟩:=e;cases h;exact⟨rfl,rfl,_,h3,sm,fun i h1 h2=>by simp only[QN,MG];exact .int _ _⟩
   ·cases h
 ·simp only[ZhA]at h;split at h
  ·cases h
  ·rename_i c1;split at h
   ·cases h
   ·rename_i c2;simp only[Zfu];rw[if_neg c1,if_neg c2];simp
 ·rcases hm _ _ _ h with⟨rfl,rfl,rfl⟩|⟨rfl,rfl,rfl⟩<;>rcases hm _ _ _ h' with⟨rfl,rfl,e⟩|⟨rfl,rfl,e⟩<;>first|(cases e;done)|exact⟨trivial,trivial⟩|exact⟨rfl,rfl⟩|simp
 ·rcases hm _ _ _ h with⟨_,_,rfl⟩|⟨_,_,rfl⟩<;>simp[Zfu]
 ·rcases h with⟨l,k,h⟩|⟨l,k,h⟩
  ·rcases hm _ _ _ h with⟨_,_,rfl⟩|⟨_,_,rfl⟩
   ·exact(QX.1 h0).1
   ·exact(QX.1 h3).1
  ·cases h
def ZsG{W':World}{m:Int}{E':Env}(h0:W.heap[0]? =some (.cells #[.int .i64 m] 3 (0,0)))(h3:W.heap[1]? =some (.cells (Lib.pow10Tab.map fun z=>Value.int .u64 z).toArray 292 (0,0)))
  (hh:Zt 1 (ZhA m) E' W') (hx:Ext 1 (Zfu W) W E' W'):Go.RowKit.Below W.heap.size W W':=by
 refine⟨hx.os,hx.tape,hx.output,hx.size,fun k hk=>?_⟩;by_cases e0:k=0
 ·subst e0;obtain⟨_,_,c,h1,h2⟩:=hh.blk 0 0 (.var 0 3 [.int .i64 m]) om rfl;obtain⟨x,r,hr,hv,hn⟩:=h2.YW;cases hv;rw[h1,h0,show c= #[.int .i64 m] from Qau.1 (by rw[hr,hn.of_nil])]
 ·by_cases e3:k=1
  ·subst e3;obtain⟨_,_,c,h1,h2⟩:=hh.blk 0 1 (.var 1 292 (Lib.pow10Tab.map (.int .u64))) om rfl;rw[h1,h3,show c=_ from Qau.1 (VRs.ZsJ h2)]
  ·refine hx.block k hk ?_;rintro(⟨l,j,h⟩|⟨l,j,h⟩)
   ·simp only[Zfu]at h;split at h
    ·cases h;exact e0 rfl
    ·split at h
     ·cases h;exact e3 rfl
     ·cases h
   ·cases h
def ZpD{H:Type}{enc:TypeId×Value→H}(f:Nat)(ts:List TypeId)(hts:∀t∈ts,t∈rdS)(h:∀cs,Zk9 tt ts cs→ZR prog f (wraps tt ts cs) (.bool true))
  (W:World) (base:Nat) (args:Array Value) (ds:List (DataW H)) (ps:List MemPlace) (hA:DataW.TrodAll enc prog W 0 (fun _=>true) true ts args.toList ds ps)
  (hok:∀(j:Nat) t v,ts[j]? =some t→args.toList[j]? =some v→Value.okWide prog W .any base t v) (hw:∀n∈DataW.weightsEach prog ts ds,n≤reachBytes)
  (hsh : W.ShapedOpen Tryz.prog) (hL : Lib.TabIs Tryz.prog W "internal/strconv.uint64pow10" .u64 Lib.pow10Tab) :
  Calls prog f args W fun e W'=>e= .returned (.bool true)∧Go.RowKit.Below W.heap.size W W':=by
 obtain⟨m,h0,h3⟩:=ZrK hsh hL;obtain⟨cs,hf,hv⟩:=Zm1 (E:=Zfu W) (X:=fun b=>b=0∨b=1) tok rdS rdOk (fun b o v hX hc=>by simp only[Zfu];rw[if_neg hX];exact hc)
  (fun b o v hX hc=>by
   rcases hX with rfl|rfl
   ·simp only[World.cell?,h0]at hc;cases o with
    |zero=>simp at hc;exact .inl ⟨m,hc.symm⟩
    |succ o=>simp at hc
   ·simp only[World.cell?,h3]at hc;simp only[Qah,QW,if_false,List.getElem?_toArray,Ua,Ur]at hc;obtain⟨z,_,rfl⟩:=hc;exact .inr ⟨z,rfl⟩) ts args.toList ds ps hA hts hok hw
 have hc:=h cs hf 1 (ZhA m) Nat.one_pos (ZuW m) (Zfu W) W args.toList (Zt5 h0 h3) hv;refine Calls.mono hc ?_;rintro e W' ⟨r,v,H',E',rfl,⟨rfl,rfl⟩,h1,h2,h4⟩;cases h1;exact⟨rfl,ZsG h0 h3 h2 h4⟩
end

theorem laidOut : laidOutB Tryz.prog = true := by kernel_rfl
theorem Zsz : rdS.all (fun t => Tryz.prog.readableRec t && decide (t < Tryz.prog.types.size)) = true := by kernel_rfl
theorem ZuN {t : TypeId} (h : t ∈ rdS) : Tryz.prog.readableRec t = true ∧ t < Tryz.prog.types.size := by
  have := List.all_eq_true.1 Zsz t h
  simpa using this

theorem Zdz {H : Type} {enc : TypeId × Value → H} {P : Program} {W : World} {b : Nat} {sp : Nat → Bool} {hd : Bool} : ∀ {ts : List TypeId} {vs : List Value} {ds : List (DataW H)} {ps : List MemPlace}, DataW.TrodAll enc P W b sp hd ts vs ds ps → ds.length = ts.length
  | [], [], [], _, _ => rfl
  | t :: ts, v :: vs, d :: ds, ps, h => by
    obtain ⟨p, q, _, h2, _⟩ := h
    simp only [List.length_cons, Zdz h2]
  | [], _ :: _, _, _, h => h.elim
  | [], [], _ :: _, _, h => h.elim
  | _ :: _, [], _, _, h => h.elim
  | _ :: _, _ :: _, [], _, h => h.elim

theorem Zh7 {H : Type} {enc : TypeId × Value → H} {W W' : World} (hb : Go.RowKit.Below W.heap.size W W') : ∀ {ts : List TypeId} {vs : List Value} {ds : List (DataW H)} {ps : List MemPlace}, (∀ t ∈ ts, t ∈ rdS) →
    DataW.TrodAll enc Tryz.prog W 0 (fun _ => true) true ts vs ds ps → (∀ x ∈ ps, x.block < W.heap.size) → DataW.TrodAll enc Tryz.prog W' 0 (fun b => decide (b < W.heap.size)) true ts vs ds ps
  | [], [], [], _, _, h, _ => h
  | t :: ts, v :: vs, d :: ds, ps, hts, h, hlt => by
    obtain ⟨p, q, h1, h2, rfl⟩ := h
    have hr := ZuN (hts t (List.mem_cons_self ..))
    exact ⟨p, q, Go.RowKit.Below.trod laidOut hr.1 hr.2 h1 hb (fun x hx => hlt x (List.mem_append_left _ hx)), Zh7 hb (fun t h => hts t (List.mem_cons_of_mem _ h)) h2 (fun x hx => hlt x (List.mem_append_right _ hx)), rfl⟩
  | [], _ :: _, _, _, _, h, _ => h.elim
  | [], [], _ :: _, _, _, h, _ => h.elim
  | _ :: _, [], _, _, _, h, _ => h.elim
  | _ :: _, _ :: _, [], _, _, h, _ => h.elim

theorem Zvq : Tryz.prog.underlying 4 = some .bool := by kernel_rfl

/-- A law's post, from its walk. -/
theorem Zq1 {H : Type} {enc : TypeId × Value → H} (f : Nat) (fn : Func) (s : ChangeSpec) (ts : List TypeId) (hp : fn.params.toList = ts) (hr : fn.resultTypes = #[4]) (hs : s.vars = [])
    (hfn : ∀ ds : List (DataW H), ds.length = ts.length → s.fn H ds = { results := [.lit (.bool true)], args := ds })
    (hts : ∀ t ∈ ts, t ∈ rdS) (h : ∀ cs, Zk9 tt ts cs → ZR Tryz.prog f (wraps tt ts cs) (.bool true))
    (W : World) (base : Nat) (args : Array Value) (ds gs : List (DataW H)) (before : List MemPlace)
    (hval : ∀ (j : Nat) t v, fn.params[j]? = some t → args[j]? = some v → Value.okWide Tryz.prog W .any base t v)
    (hW : DataW.Whole enc Tryz.prog fn.params.toList s.vars false W args.toList ds gs before)
    (hw : ∀ n ∈ DataW.weightsEach Tryz.prog ts ds, n ≤ reachBytes)
    (hsh : W.ShapedOpen Tryz.prog) (hL : Lib.TabIs Tryz.prog W "internal/strconv.uint64pow10" .u64 Lib.pow10Tab) :
    Calls Tryz.prog f args W fun e W' => ∃ v, e = .returned v ∧ s.post enc Tryz.prog fn false true false false W args v W' := by
  have hlt := hW.lt
  have hW' := hW
  obtain ⟨p, q, hA, hV, rfl, hfz, hnd⟩ := hW
  rw [hs] at hV
  obtain ⟨rfl, rfl⟩ := trodVars_none hV
  rw [hp] at hA
  simp only [List.append_nil] at hlt hW'
  have hval' : ∀ (j : Nat) t v, ts[j]? = some t → args.toList[j]? = some v → Value.okWide Tryz.prog W .any base t v := fun j t v h1 h2 =>
    hval j t v (by rw [← hp] at h1; simpa using h1) (by simpa using h2)
  have w := ZpD f ts hts h W base args ds p hA hval' hw hsh hL
  refine w.mono fun e W' ⟨he, hg⟩ => ?_
  subst he
  refine ⟨_, rfl, ds, [], p, [], p, [], hW', ?_, ?_, ?_, hg.frame _, fun h => by cases h⟩
  · rw [List.append_nil, hfn ds (Zdz hA), hr]
    exact trodAll_mk1 (shut_bool Zvq true)
  · rw [List.append_nil, hfn ds (Zdz hA), hp]
    exact Zh7 hg hts hA hlt
  · rw [List.append_nil, hfn ds (Zdz hA), hs]
    exact rfl

theorem Zly {H : Type} {ts : List TypeId} {ds : List (DataW H)} (h : (DataW.weightsEach Tryz.prog (ts ++ []) (ds ++ [])).all (· ≤ reachBytes) = true) : ∀ n ∈ DataW.weightsEach Tryz.prog ts ds, n ≤ reachBytes := by
  intro n hn
  rw [List.append_nil, List.append_nil] at h
  simpa using List.all_eq_true.1 h n hn

def Zsl : DataW Unit → List Value
  | .lit (.int k n) => [.int k n]
  | _ => []
def Zsv : DataW Unit → List Value
  | .agg l => l.flatMap Zsl
  | d => Zsl d
def Zuf : DataW Unit → List Value
  | .agg l => l.flatMap Zsv
  | d => Zsv d
def lay (d : DataW Unit) : Obj → Obj
  | .cells _ t frozen => .cells (Zuf d).toArray t frozen
  | o => o
/-- A world for the witness: the settled one, Go's own tables holding what their initialisers lay. -/
noncomputable def laidWorld (os : Os) : World :=
  { World.holding Tryz.prog os ⟨#[], #[], []⟩ with heap := (((((World.holding Tryz.prog os ⟨#[], #[], []⟩).heap.modify 4 (lay Rows.laid_math_bits_deBruijn32tab)).modify 5 (lay Rows.laid_math_bits_deBruijn64tab)).modify 1
      (lay Rows.laid_internal_strconv_uint64pow10)).modify 3 (lay Rows.laid_unicode_utf8_acceptRanges)).modify 2 (lay Rows.laid_unicode_utf8_first) }
theorem laid_met (os : Os) (args : Array Value) : laidMet Tryz.prog Rows.joinAllRow.laid ((laidWorld os).forCall (fun _ _ => 0) ⟨#[], args, []⟩).memory :=
  laidMet_of_run' 8 (by kernel_rfl) (by kernel_rfl)
end Go.Proofs.YtmdeagmbfhbbnaaGreatDoorR
