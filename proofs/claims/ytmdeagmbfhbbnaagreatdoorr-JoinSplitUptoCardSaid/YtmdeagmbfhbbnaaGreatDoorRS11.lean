/- Elements that are equal to the one ahead are taken out of a slice that may be written. -/
import Derived.Test.YtmdeagmbfhbbnaaGreatDoorRS10
import Derived.Test.YtmdeagmbfhbbnaaGreatDoorRS09
import Derived.Test.YtmdeagmbfhbbnaaGreatDoorRS05
import Derived.Test.YtmdeagmbfhbbnaaGreatDoorRS07
import Derived.Ground.SlsfProg
import Derived.Shelf.SlGeneric
import Derived.Shelf.SlSortCmp.NoneTotal
import Derived.Shelf.SlSortCmp.WholeK
import Derived.Test.YtmdeagmbfhbbnaaGreatDoorRS06
import Derived.Shelf.SlSortCmp.Whole1
import Derived.Test.YtmdeagmbfhbbnaaGreatDoorRS08
set_option linter.all false
set_option maxRecDepth 100000
open Go.Proofs.Tryz
namespace Go.Proofs.YtmdeagmbfhbbnaaGreatDoorR
open Go.Abs
def Zgz{α:Type}(c:α→α→Int)(xs:List α)(a:Nat):∀m,(kpt c xs (a+m)).length≤(kpt c xs a).length+m
 |0=>Qe _
 |m+1=>by
  have:=Zgz c xs a m;rw[←MS,kpt,Qd];split
  ·split<;>simp<;>omega
  ·simp;omega
def Zh1{α:Type}(c:α→α→Int)(xs:List α)(m:Nat)(h:m<xs.length)(h0:0<m)(e:c xs[m] xs[m - 1]=0):kpt c xs (m+1)=kpt c xs m:=by
 rw[kpt,dif_pos h,if_neg (by simp only[e];omega),Qs]
def Zqq{α:Type}(c:α→α→Int)(xs:List α)(m:Nat)(h:m<xs.length)(e:c xs[m] xs[m - 1]≠0):kpt c xs (m+1)=kpt c xs m++[xs[m]]:=by
 rw[kpt,dif_pos h,if_pos (.inr e)]
def ZmB(l:List Bnd):∀y∈l.map Zj,y.cells.length=1:=fun y hy=>by obtain⟨x,_,rfl⟩:=Qi.1 hy;rfl
def Zhd{n m:Nat}(l:List Bnd):Ze.Below n (.Zg 34 1 (flat (l.map Zj)) m):=⟨(XG fun x hx=>by obtain⟨y,_,rfl⟩:=Qi.1 hx;exact ZC n y).mem,by simp[Ze.at_]⟩
def Zmo(l:List Bnd)(j:Nat)(h:j<l.length):((flat (l.map Zj)).drop (j*1)).getD 0 .dead=Zj l[j]:=by
 have:=ZhW (ZmB l) j (by simpa using h);rw[QV]at this;have h2:=congrArg (fun q:List AV=>q.getD 0 .dead) this;simp only[Qp]at h2⊢;rw[QX om]at h2;exact h2
def Zo8(l:List Bnd):(flat (l.map Zj)).length=l.length*1:=by rw[flat_length (ZmB l),Qv]
def zBn:AV:=.sl 5 [] .full
def ZtV(l k:Nat)(xs:List Bnd)(H:Za)(r:AV)(H':Za):Prop:=
 (r= .msl 1 l k xs.length∧H'=H∧kpt YJ xs xs.length=xs)∨
 (r= .sub 1 l k xs.length 0 (kpt YJ xs xs.length).length∧0<xs.length∧(kpt YJ xs xs.length).length≤xs.length∧H'=H.upd l k (.Zg 34 1 (flat ((kpt YJ xs xs.length).map Zj++List.replicate (xs.length - (kpt YJ xs xs.length).length) zBn)) xs.length))
def u52:Opt:=⟨false,false,fun d=>if d=31∨d=61 then .heap else .auto,[]⟩
def Zt8(l k:Nat)(xs:List Bnd)(H:Za)(j:Nat):Zb:=⟨[(5,.int .i64 j),(0,.msl 1 l k xs.length),(1,.fn (.func 53) [])],[],H⟩
def ZmZ(l k:Nat)(xs:List Bnd)(H:Za)(j m:Nat):Zb:=
 ⟨[(7,.int .i64 m),(6,.sub 1 l k xs.length j (xs.length - j)),(5,.int .i64 (kpt YJ xs (j+m)).length),(0,.msl 1 l k xs.length),(1,.fn (.func 53) [])],[],H.upd l k (.Zg 34 1 (flat ((mix (kpt YJ xs (j+m)) xs).map Zj)) xs.length)⟩
def k52(n:Nat)(H:Za)(l k:Nat)(hl:l<n)(xs:List Bnd)(hx:xs.length≤1000000)(hb:∀b∈xs,b.length≤1000000∧ ∀q∈b,q.2.Good)(hH:H l k=some (.Zg 34 1 (flat (xs.map Zj)) xs.length)):
  Zh prog n 52 [.msl 1 l k xs.length,.fn (.func 53) []] H (ZtV l k xs H):=by
 have hne:¬l=n:=om;have hmi:∀q,Inside n q (.msl 1 l k xs.length):=fun q=>.msl _ _ _ _ (.inl hl)
 have hms:∀q a b,Inside n q (.sub 1 l k xs.length a b):=fun q a b=>.sub _ _ _ _ _ _ (.inl hl)
 have heq:∀i j (h:i<xs.length) (h':j<xs.length),Pure prog 53 [Zj xs[i],Zj xs[j]] (.bool (YJ xs[i] xs[j]==0)):=fun i j h h'=>
  k53 _ _ (hb _ (Qa h)).1 (hb _ (Qa h')).1 (hb _ (Qa h)).2 (hb _ (Qa h')).2
 refine aF func52 fun B=>?_
 refine gc ?_;by_cases h2:xs.length<2
 ·have h2':((xs.length:Int)<2):=om;refine nTq h2' ?_;refine ge ?_;refine Zk (.refl _) (.msl _ _ _ _ hl) (.inl ⟨rfl,rfl,?_⟩);rw[ZaA YJ xs _ (Qe _) fun i h h' h0=>by omega,QN]
 have h2':¬((xs.length:Int)<2):=om;refine nFq h2' ?_;refine gh ?_;refine ZX (fun i=>Zt8 l k xs H (1+i)) (fun i=>∀j (h:j<xs.length),j<1+i→0<j→YJ xs[j] xs[j - 1]≠0) (xs.length - 1) rfl ?_ (fun j h h1 h0=>by omega) ?_
 ·exact KK
 intro i hi hq;obtain⟨j,hj⟩:∃j,j=1+i:=⟨_,rfl⟩
 rw[show 1+(i+1)=j+1 by omega,←hj];rw[←hj]at hq;have hj0:0<j:=om;refine Yc rfl ?_;rcases Qj j xs.length with h|h
 ·have h1:=Zmo xs j h;have h3:=Zmo xs (j - 1) om;have hln:=Zo8 xs;have hw:IntKind.i64.wrap ((j:Int) - 1)=((j - 1:Nat):Int):=by rw[show(j:Int) - 1=((j - 1:Nat):Int) by omega];exact iw
  have hj1:j - 1<xs.length:=om;refine nq h ?_;refine nT ?_;refine nD drawO ?_;simp only[go_sem,simprocAttr,h,hne,hH,h1,h3,hw,hj1];refine⟨⟨om,om,om⟩,⟨om,om,om⟩,?_⟩;refine YG (avs:=[Zj xs[j],Zj xs[j - 1]]) rfl (Zf func53 rfl rfl) (heq j (j - 1) h hj1 _ _) rfl ?_;cases hc:(YJ xs[j] xs[j - 1]==0)with
  |false=>
   have hc':YJ xs[j] xs[j - 1]≠0:=by simpa using hc
   refine aq hc ?_;refine gm ?_;refine⟨om,fun j' h' hlt h0'=>?_,?_⟩
   ·rcases Qj j' j with h5|h5
    ·exact hq j' h' h5 h0'
    ·have:j'=j:=om;subst this;exact hc'
   ·apply kZ;repeat' first|apply q0|exact xx|apply aI
    ·refine aS ?_;rw[iw];exact .refl _
    all_goals exact hmi _
  |true=>
   have hc':YJ xs[j] xs[j - 1]=0:=by simpa using hc
   have hkj:kpt YJ xs j=xs.take j:=ZaA YJ xs j om hq;have hkj1:kpt YJ xs (j+1)=xs.take j:=by rw[Zh1 YJ xs j h hj0 hc',hkj]
   have htl:(xs.take j).length=j:=by rw[QK];omega
   simp only[go_sem,simprocAttr,hc];refine nT ?_;repeat refine kn rfl ?_
   refine YF tok u52 rfl rfl (by kernel_rfl) ?_;simp only[go_sem,simprocAttr,u52];refine Step.look (v:=.sub 1 l k xs.length j (xs.length - j)) (XU (a:=j) (h:=(xs.length:Int)) tok rfl rfl rfl rfl rfl ((Zi hl _ _ _).trans hH) rfl rfl ?_ ?_ ?_ ?_ ?_) ?_
   ·omega
   ·omega
   ·omega
   ·omega
   ·rw[if_pos om];rfl
   refine aS ?_;refine gh ?_;refine Zt (fun m=>ZmZ l k xs H j (1+m)) (xs.length - j - 1) rfl ?_ ?_
   ·unfold ZmZ;rw[Uz,hkj1,htl,show mix (xs.take j) xs=xs by unfold mix;rw[htl,QZ],Yb hH];exact KK
   intro m hm;obtain⟨r,hr⟩:∃r,r=1+m:=⟨_,rfl⟩
   rw[show 1+(m+1)=r+1 by omega,←hr];refine Yc rfl ?_;have hkl:(kpt YJ xs (j+r)).length≤j+r - 1:=by
    have:=Zgz YJ xs (j+1) m;rw[hkj1,htl,show j+1+m=j+r by omega]at this;omega
   generalize hK:kpt YJ xs (j+r)=K at hkl;have hup:H.upd l k (.Zg 34 1 (flat ((mix K xs).map Zj)) xs.length) l k=some (.Zg 34 1 (flat ((mix K xs).map Zj)) xs.length):=Za.upd_same _ _ _ _;rcases Qj (j+r) xs.length with h5|h5
   ·have hml:=Zfj (kept:=K) (xs:=xs) om;have g1:=Zmo (mix K xs) (j+r) om;rw[ZcU (j+r) om om h5]at g1;have g2:=Zmo (mix K xs) (j+r - 1) om;rw[ZcU (j+r - 1) om om om]at g2;have g3:=Zo8 (mix K xs);rw[hml]at g3;have hrl:r<xs.length - j:=om;have hr1:r - 1<xs.length - j:=om;have hwr:IntKind.i64.wrap ((r:Int) - 1)=((r - 1:Nat):Int):=by rw[show(r:Int) - 1=((r - 1:Nat):Int) by omega];exact iw
    have er:j+(r - 1)=j+r - 1:=om;refine nq hrl ?_;refine nT ?_;refine nD drawO ?_;simp only[go_sem,simprocAttr,hrl,hne,hup,g1,g2,hwr,hr1,er];refine⟨⟨om,om,om⟩,⟨om,om,om⟩,?_⟩;refine YG (avs:=[Zj xs[j+r],Zj xs[j+r - 1]]) rfl (Zf func53 rfl rfl) (heq (j+r) (j+r - 1) h5 om _ _) rfl ?_;cases hd:(YJ xs[j+r] xs[j+r - 1]==0)with
    |true=>
     have hd':YJ xs[j+r] xs[j+r - 1]=0:=by simpa using hd
     have hk2:kpt YJ xs (j+(r+1))=K:=by rw[←MS,Zh1 YJ xs (j+r) h5 om hd',hK]
     refine aq hd ?_;refine gm ?_;refine⟨om,?_⟩;unfold ZmZ;rw[hk2];apply kZ;repeat' first|apply q0|exact xx|apply aI
     ·refine aS ?_;rw[iw];exact .refl _
     all_goals first|exact hmi _|exact hms _ _ _
    |false=>
     have hd':YJ xs[j+r] xs[j+r - 1]≠0:=by simpa using hd
     have hk2:kpt YJ xs (j+(r+1))=K++[xs[j+r]]:=by rw[←MS,Zqq YJ xs (j+r) h5 hd',hK]
     have hKl:K.length<xs.length:=om;have hsp:=ZcB Zj (fun _=>rfl) (kept:=K) (xs:=xs) xs[j+r] hKl;simp only[go_sem,simprocAttr]at hsp;refine aq hd ?_;refine gH ?_;simp only[go_sem,simprocAttr,hrl,hne,hup,g1,hKl,hsp];refine⟨⟨om,om,om⟩,⟨om,om⟩,.inr (Zhd _),?_⟩;rw[Za.Zar];refine gc ?_;refine nN ?_;refine⟨om,?_⟩;unfold ZmZ;rw[hk2,Qd,Qae];apply kZ;repeat' first|apply q0|exact xx|apply aI
     ·refine aS ?_;rw[iw];exact .refl _
     ·refine aS ?_;rw[iw];exact .refl _
     all_goals first|exact hmi _|exact hms _ _ _
   ·have hre:j+r=xs.length:=om;have hKx:kpt YJ xs xs.length=K:=by rw[←hre];exact hK
    have hrl:¬r<xs.length - j:=om;have hKl:K.length<xs.length:=om;refine nq hrl ?_;refine gg ?_;repeat refine kn rfl ?_
    refine YF tok u52 rfl rfl (by kernel_rfl) ?_;simp only[go_sem,simprocAttr,u52];have hHM:∀L G,(∀j,G l j=(H.upd l k (.Zg 34 1 (flat ((mix K xs).map Zj)) xs.length)) l j)→full n L G l k=some (.Zg 34 1 (flat ((mix K xs).map Zj)) xs.length):=fun L G h=>(Zi hl _ _ _).trans ((h k).trans (by simp[Za.upd]))
    refine Step.look (v:=.sub 1 l k xs.length K.length (xs.length - K.length)) (XU (a:=K.length) (h:=(xs.length:Int)) tok rfl rfl rfl rfl rfl (hHM _ _ fun _=>rfl) rfl rfl ?_ ?_ ?_ ?_ ?_) ?_
    ·omega
    ·omega
    ·omega
    ·omega
    ·rw[if_pos om];rfl
    refine aS ?_;refine Step.turn (l:=l) (k:=k) (b:=.Zg 34 1 (flat (K.map Zj++List.replicate (xs.length - K.length) zBn)) xs.length) (Jb tok rfl rfl rfl rfl rfl rfl (hHM _ _ fun _=>rfl) ?_ rfl ?_ ?_) (.inr ?_) ?_
    ·decide
    ·omega
    ·exact ZbP Zj (fun _=>rfl) (z:=zBn) rfl om
    ·refine⟨(XG fun x hx=>?_).mem,by simp[Ze.at_]⟩;rcases Qg.1 hx with hx|hx
     ·obtain⟨y,_,rfl⟩:=Qi.1 hx;exact ZC n y
     ·rw[(Uh.1 hx).2];exact YR (fun _ h=>by cases h) (fun _ _ e=>by cases e)
    simp only[go_sem,simprocAttr,hne,Za.Zar];refine nr ?_;simp only[go_sem,simprocAttr,hne,Za.upd_same];refine⟨⟨om,om⟩,?_⟩;refine nW ?_;exact Zk (v:=.sub 1 l k xs.length 0 K.length) (.refl _) (.sub _ _ _ _ _ _ hl) (.inr ⟨by rw[hKx],om,by rw[hKx];omega,by rw[hKx]⟩)
 ·have hj':j=xs.length:=om;subst hj';refine nq (QI.2 h) ?_;refine gt ?_;refine Zk (.refl _) (.msl _ _ _ _ hl) (.inl ⟨rfl,rfl,?_⟩);rw[ZaA YJ xs _ (Qe _) fun i h h' h0=>hq i h om h0,QN]
def ZlW(l:List Tm):∀y∈l.map Tm.enc,y.cells.length=4:=fun y hy=>by obtain⟨x,_,rfl⟩:=Qi.1 hy;rw[Tm.Xf];rfl
def WJ{n m:Nat}(l:List Tm):Ze.Below n (.Zg 40 4 (flat (l.map Tm.enc)) m):=⟨(XG fun x hx=>by obtain⟨y,_,rfl⟩:=Qi.1 hx;exact Tm.blw n y).mem,by simp[Ze.at_]⟩
def Zm6(l:List Tm)(j:Nat)(h:j<l.length):((flat (l.map Tm.enc)).drop (j*4)).take 4=(l[j]).cs:=by
 have:=ZhW (ZlW l) j (by simpa using h);rw[QV,Tm.Xf]at this;exact this
def ZgI(l:List Tm):(flat (l.map Tm.enc)).length=l.length*4:=by rw[flat_length (ZlW l),Qv]
def zTm:AV:=.agg [.int .u8 0,.int .i64 0,.str [],.sl 4 [] .full]
def ZrF(l k:Nat)(xs:List Tm)(H:Za)(r:AV)(H':Za):Prop:=
 (r= .msl 4 l k xs.length∧H'=H∧kpt cmpT xs xs.length=xs)∨
 (r= .sub 4 l k xs.length 0 (kpt cmpT xs xs.length).length∧0<xs.length∧(kpt cmpT xs xs.length).length≤xs.length∧H'=H.upd l k (.Zg 40 4 (flat ((kpt cmpT xs xs.length).map Tm.enc++List.replicate (xs.length - (kpt cmpT xs xs.length).length) zTm)) xs.length))
def u265:Opt:=⟨false,false,fun d=>if d=31∨d=61 then .heap else .auto,[]⟩
def ZsZ(l k:Nat)(xs:List Tm)(H:Za)(j:Nat):Zb:=⟨[(5,.int .i64 j),(0,.msl 4 l k xs.length),(1,.fn (.func 16) [])],[],H⟩
def Zil(l k:Nat)(xs:List Tm)(H:Za)(j m:Nat):Zb:=
 ⟨[(7,.int .i64 m),(6,.sub 4 l k xs.length j (xs.length - j)),(5,.int .i64 (kpt cmpT xs (j+m)).length),(0,.msl 4 l k xs.length),(1,.fn (.func 16) [])],[],H.upd l k (.Zg 40 4 (flat ((mix (kpt cmpT xs (j+m)) xs).map Tm.enc)) xs.length)⟩
def ZuK(n:Nat)(H:Za)(l k:Nat)(hl:l<n)(xs:List Tm)(hx:xs.length≤1000000)(hb:∀t∈xs,t.Good)(hH:H l k=some (.Zg 40 4 (flat (xs.map Tm.enc)) xs.length)):
  Zh prog n 265 [.msl 4 l k xs.length,.fn (.func 16) []] H (ZrF l k xs H):=by
 have hne:¬l=n:=om;have hmi:∀q,Inside n q (.msl 4 l k xs.length):=fun q=>.msl _ _ _ _ (.inl hl)
 have hms:∀q a b,Inside n q (.sub 4 l k xs.length a b):=fun q a b=>.sub _ _ _ _ _ _ (.inl hl)
 have heq:∀i j (h:i<xs.length) (h':j<xs.length),Pure prog 16 [Tm.enc xs[i],Tm.enc xs[j]] (.bool (cmpT xs[i] xs[j]==0)):=fun i j h h'=>
  j16 _ _ (hb _ (Qa h)) (hb _ (Qa h'))
 refine aF func265 fun B=>?_
 refine gc ?_;by_cases h2:xs.length<2
 ·have h2':((xs.length:Int)<2):=om;refine nTq h2' ?_;refine ge ?_;refine Zk (.refl _) (.msl _ _ _ _ hl) (.inl ⟨rfl,rfl,?_⟩);rw[ZaA cmpT xs _ (Qe _) fun i h h' h0=>by omega,QN]
 have h2':¬((xs.length:Int)<2):=om;refine nFq h2' ?_;refine gh ?_;refine ZX (fun i=>ZsZ l k xs H (1+i)) (fun i=>∀j (h:j<xs.length),j<1+i→0<j→cmpT xs[j] xs[j - 1]≠0) (xs.length - 1) rfl ?_ (fun j h h1 h0=>by omega) ?_
 ·exact KK
 intro i hi hq;obtain⟨j,hj⟩:∃j,j=1+i:=⟨_,rfl⟩
 rw[show 1+(i+1)=j+1 by omega,←hj];rw[←hj]at hq;have hj0:0<j:=om;refine Yc rfl ?_;rcases Qj j xs.length with h|h
 ·have h1:=Zm6 xs j h;have h3:=Zm6 xs (j - 1) om;have hln:=ZgI xs;have hw:IntKind.i64.wrap ((j:Int) - 1)=((j - 1:Nat):Int):=by rw[show(j:Int) - 1=((j - 1:Nat):Int) by omega];exact iw
  have hj1:j - 1<xs.length:=om;refine nq h ?_;refine nT ?_;refine nD drawO ?_;simp only[go_sem,simprocAttr,h,hne,hH,h1,h3,hw,hj1];refine⟨⟨om,om⟩,⟨om,om⟩,?_⟩;refine YG (avs:=[Tm.enc xs[j],Tm.enc xs[j - 1]]) rfl (Zf func16 rfl rfl) (heq j (j - 1) h hj1 _ _) rfl ?_;cases hc:(cmpT xs[j] xs[j - 1]==0)with
  |false=>
   have hc':cmpT xs[j] xs[j - 1]≠0:=by simpa using hc
   refine aq hc ?_;refine gm ?_;refine⟨om,fun j' h' hlt h0'=>?_,?_⟩
   ·rcases Qj j' j with h5|h5
    ·exact hq j' h' h5 h0'
    ·have:j'=j:=om;subst this;exact hc'
   ·apply kZ;repeat' first|apply q0|exact xx|apply aI
    ·refine aS ?_;rw[iw];exact .refl _
    all_goals exact hmi _
  |true=>
   have hc':cmpT xs[j] xs[j - 1]=0:=by simpa using hc
   have hkj:kpt cmpT xs j=xs.take j:=ZaA cmpT xs j om hq;have hkj1:kpt cmpT xs (j+1)=xs.take j:=by rw[Zh1 cmpT xs j h hj0 hc',hkj]
   have htl:(xs.take j).length=j:=by rw[QK];omega
   simp only[go_sem,simprocAttr,hc];refine nT ?_;repeat refine kn rfl ?_
   refine YF tok u265 rfl rfl (by kernel_rfl) ?_;simp only[go_sem,simprocAttr,u265];refine Step.look (v:=.sub 4 l k xs.length j (xs.length - j)) (XU (a:=j) (h:=(xs.length:Int)) tok rfl rfl rfl rfl rfl ((Zi hl _ _ _).trans hH) rfl rfl ?_ ?_ ?_ ?_ ?_) ?_
   ·omega
   ·omega
   ·omega
   ·omega
   ·rw[if_pos om];rfl
   refine aS ?_;refine gh ?_;refine Zt (fun m=>Zil l k xs H j (1+m)) (xs.length - j - 1) rfl ?_ ?_
   ·unfold Zil;rw[Uz,hkj1,htl,show mix (xs.take j) xs=xs by unfold mix;rw[htl,QZ],Yb hH];exact KK
   intro m hm;obtain⟨r,hr⟩:∃r,r=1+m:=⟨_,rfl⟩
   rw[show 1+(m+1)=r+1 by omega,←hr];refine Yc rfl ?_;have hkl:(kpt cmpT xs (j+r)).length≤j+r - 1:=by
    have:=Zgz cmpT xs (j+1) m;rw[hkj1,htl,show j+1+m=j+r by omega]at this;omega
   generalize hK:kpt cmpT xs (j+r)=K at hkl;have hup:H.upd l k (.Zg 40 4 (flat ((mix K xs).map Tm.enc)) xs.length) l k=some (.Zg 40 4 (flat ((mix K xs).map Tm.enc)) xs.length):=Za.upd_same _ _ _ _;rcases Qj (j+r) xs.length with h5|h5
   ·have hml:=Zfj (kept:=K) (xs:=xs) om;have g1:=Zm6 (mix K xs) (j+r) om;rw[ZcU (j+r) om om h5]at g1;have g2:=Zm6 (mix K xs) (j+r - 1) om;rw[ZcU (j+r - 1) om om om]at g2;have g3:=ZgI (mix K xs);rw[hml]at g3;have hrl:r<xs.length - j:=om;have hr1:r - 1<xs.length - j:=om;have hwr:IntKind.i64.wrap ((r:Int) - 1)=((r - 1:Nat):Int):=by rw[show(r:Int) - 1=((r - 1:Nat):Int) by omega];exact iw
    have er:j+(r - 1)=j+r - 1:=om;refine nq hrl ?_;refine nT ?_;refine nD drawO ?_;simp only[go_sem,simprocAttr,hrl,hne,hup,g1,g2,hwr,hr1,er];refine⟨⟨om,om⟩,⟨om,om⟩,?_⟩;refine YG (avs:=[Tm.enc xs[j+r],Tm.enc xs[j+r - 1]]) rfl (Zf func16 rfl rfl) (heq (j+r) (j+r - 1) h5 om _ _) rfl ?_;cases hd:(cmpT xs[j+r] xs[j+r - 1]==0)with
    |true=>
     have hd':cmpT xs[j+r] xs[j+r - 1]=0:=by simpa using hd
     have hk2:kpt cmpT xs (j+(r+1))=K:=by rw[←MS,Zh1 cmpT xs (j+r) h5 om hd',hK]
     refine aq hd ?_;refine gm ?_;refine⟨om,?_⟩;unfold Zil;rw[hk2];apply kZ;repeat' first|apply q0|exact xx|apply aI
     ·refine aS ?_;rw[iw];exact .refl _
     all_goals first|exact hmi _|exact hms _ _ _
    |false=>
     have hd':cmpT xs[j+r] xs[j+r - 1]≠0:=by simpa using hd
     have hk2:kpt cmpT xs (j+(r+1))=K++[xs[j+r]]:=by rw[←MS,Zqq cmpT xs (j+r) h5 hd',hK]
     have hKl:K.length<xs.length:=om;have hsp:=ZcB (k:=4) Tm.enc (fun x=>by rw[Tm.Xf];rfl) (kept:=K) (xs:=xs) xs[j+r] hKl;simp only[go_sem,simprocAttr]at hsp;refine aq hd ?_;refine gH ?_;simp only[go_sem,simprocAttr,hrl,hne,hup,g1,hKl,hsp];refine⟨⟨om,om⟩,⟨om,om⟩,.inr (WJ _),?_⟩;rw[Za.Zar];refine gc ?_;refine nN ?_;refine⟨om,?_⟩;unfold Zil;rw[hk2,Qd,Qae];apply kZ;repeat' first|apply q0|exact xx|apply aI
     ·refine aS ?_;rw[iw];exact .refl _
     ·refine aS ?_;rw[iw];exact .refl _
     all_goals first|exact hmi _|exact hms _ _ _
   ·have hre:j+r=xs.length:=om;have hKx:kpt cmpT xs xs.length=K:=by rw[←hre];exact hK
    have hrl:¬r<xs.length - j:=om;have hKl:K.length<xs.length:=om;refine nq hrl ?_;refine gg ?_;repeat refine kn rfl ?_
    refine YF tok u265 rfl rfl (by kernel_rfl) ?_;simp only[go_sem,simprocAttr,u265];have hHM:∀L G,(∀j,G l j=(H.upd l k (.Zg 40 4 (flat ((mix K xs).map Tm.enc)) xs.length)) l j)→full n L G l k=some (.Zg 40 4 (flat ((mix K xs).map Tm.enc)) xs.length):=fun L G h=>(Zi hl _ _ _).trans ((h k).trans (by simp[Za.upd]))
    refine Step.look (v:=.sub 4 l k xs.length K.length (xs.length - K.length)) (XU (a:=K.length) (h:=(xs.length:Int)) tok rfl rfl rfl rfl rfl (hHM _ _ fun _=>rfl) rfl rfl ?_ ?_ ?_ ?_ ?_) ?_
    ·omega
    ·omega
    ·omega
    ·omega
    ·rw[if_pos om];rfl
    refine aS ?_;refine Step.turn (l:=l) (k:=k) (b:=.Zg 40 4 (flat (K.map Tm.enc++List.replicate (xs.length - K.length) zTm)) xs.length) (Jb tok rfl rfl rfl rfl rfl rfl (hHM _ _ fun _=>rfl) ?_ rfl ?_ ?_) (.inr ?_) ?_
    ·decide
    ·omega
    ·exact ZbP (k:=4) Tm.enc (fun x=>by rw[Tm.Xf];rfl) (z:=zTm) rfl om
    ·refine⟨(XG fun x hx=>?_).mem,by simp[Ze.at_]⟩;rcases Qg.1 hx with hx|hx
     ·obtain⟨y,_,rfl⟩:=Qi.1 hx;exact Tm.blw n y
     ·rw[(Uh.1 hx).2];exact Xa (Yg.mem (l:=[AV.int .u8 0,.int .i64 0,.str [],.sl 4 [] .full]) (p:=fun c=>Below n c) ⟨.int _ _,.int _ _,.str _,YR (fun _ h=>by cases h) (fun _ _ e=>by cases e),trivial⟩)
    simp only[go_sem,simprocAttr,hne,Za.Zar];refine nr ?_;simp only[go_sem,simprocAttr,hne,Za.upd_same];refine⟨⟨om,om⟩,?_⟩;refine nW ?_;exact Zk (v:=.sub 4 l k xs.length 0 K.length) (.refl _) (.sub _ _ _ _ _ _ hl) (.inr ⟨by rw[hKx],om,by rw[hKx];omega,by rw[hKx]⟩)
 ·have hj':j=xs.length:=om;subst hj';refine nq (QI.2 h) ?_;refine gt ?_;refine Zk (.refl _) (.msl _ _ _ _ hl) (.inl ⟨rfl,rfl,?_⟩);rw[ZaA cmpT xs _ (Qe _) fun i h h' h0=>hq i h om h0,QN]
end Go.Proofs.YtmdeagmbfhbbnaaGreatDoorR

namespace Go.Abs
def pivot(ops:List Oper)(p:Nat):Bool:=
 ancK ops [] fun ms=>(List.range ops.length).all fun i=>(!decide (i<p)||(ms.getD p 0).testBit i)&&(!decide (p<i)||(ms.getD i 0).testBit p)
def ZkX{ops:List Oper}{p:Nat}(h:pivot ops p=true):∀i,i<ops.length→ ∀D,Closed ops D→(i<p→D p→D i)∧(p<i→D i→D p):=by
 intro i hi D hD;simp only[pivot,ancK_eq,QA,MK]at h;have:=h i hi;have key:=ZgA hD ops [] rfl (fun i _ j hj=>by simp at hj);constructor
 ·intro h1 h2;refine key p h2 i ?_;simpa[h1,Nat.lt_asymm h1]using this
 ·intro h1 h2;refine key i h2 p ?_;simpa[h1,Nat.lt_asymm h1]using this
theorem Zpp{cx:Cx}{k:List Itm}{Q:Exit→Zb→Prop}{s:Zb}{c:Code}(t:Nat)(hT:TOK cx.P cx.T)(hm:cx.P.follows .mixedOrders=true)(op:Opt)(hop:op.dr=true){id:Nat}{ops:Array Oper}{pre post:List Oper}{o:Oper}{g:Operand}{args:Array Operand}{ts:Array TypeId}(hc:c= .region id ops true)(hl:ops.toList=pre++o::post)
  (hg:o.guard=none) (ho:o.op= .call {callee:=.value g,args:=args,argTypes:=ts})
  (h:YW cx op ops.toList [] (fun _ s'=>ZfS cx t o g args.toList ts.toList s' (fun _=>False) (Q (.panic (ch t)))) pre s)
  (hd:XY cx.N ops.toList=true:=by kernel_rfl) (hok:(VE ops.toList (Zdm op ops.toList)&&ZeL op ops.toList&&pivot ops.toList pre.length)=true:=by kernel_rfl):AKc cx (.code c::k) Q s:=fun E w a hs=>by
 subst hc;obtain⟨hok,hpiv⟩:=QaH.1 hok;obtain⟨hok,hlay⟩:=QaH.1 hok;obtain⟨tm',L',H',hr,hos,hF⟩:=J3 hT (kd:=Zdm op ops.toList) hop (fun i o hi=>by simp only[Zdm,hi]) pre 0 s (by simpa using hl) h;obtain⟨T,G,V,t0,g0,t1,g1,hc⟩:=(hr.mono (ZgP hlay)).course;refine wpIn_region_any hm ?_;have hu:unl (Array.replicate ops.size false)≤ops.size:=by
  unfold unl;exact Ux Qbr sm
 have hL:∀i,(Array.replicate ops.size false).getD i false=false:=fun i=>by
  rw[QF];by_cases hi:i<ops.size<;>simp[hi]
 have hva:∀n t,va ops.toList (lkv (T 0)) V ((Array.replicate ops.size false).getD · false) n t=lkv (T 0) t:=by
  intro n t;induction n with
  |zero=>rfl
  |succ n ih=>rw[va,if_neg (fun c=>by rw[hL]at c;cases c.1),ih]
 have hhv:∀n,hv cx.n (Zdm op ops.toList) G ((Array.replicate ops.size false).getD · false) n=G 0:=by
  intro n;induction n with
  |zero=>rfl
  |succ n ih=>
   funext l s;rw[Zcb,if_neg (fun c=>by rw[hL]at c;cases c.1),ih]
 refine Zcm cx.φ.ro a.defers (m:=cx.n+1) (N:=cx.N) (post:=o::post) hl (WH hd) hc (Zcs hok) E {w with drawn:=w.drawn+1} (fun _ i hi=>ZkX hpiv i (by simpa using hi)) ?_ (fun h=>by cases h) ops.size _ E {w with drawn:=w.drawn+1} a hu sm (fun i o _ hi=>by have:=hL i;simp only at hi;rw[this]at hi;cases hi) (hL _) hs.size rfl ?_ ?_ (.refl _ _ _)
 ·intro o' ho' E1 w1 a1 K h1 h2 h3 h4 h5;have:o'=o:=by
   have e:ops.toList[pre.length]? =some o:=by rw[hl];simp
   rw[UM,ho']at e;exact UU e
  subst this;rw[t1]at h3;rw[g1]at h4;simp only[wpOpIn,ho'];rw[show Region.wanted o' (yielded ops a1.tmps)=true by simp[Region.wanted,hg]];simp only[if_true];obtain⟨Qc,Xc,hcall,hk,hX⟩:=hF;have has:∀E (a:Act),(∀x∈args,VR E (evT tm' x) (a.eval x))→VRs E (Yo cx.T (evT tm') args.toList ts.toList) (args.toList.map a.eval):=fun E a hx=>Wj _ _ (fun x hx'=>hx x (by simpa using hx'))
  have hsem:Ziu cx.P t (cx.n+1) o' (evT tm') (full cx.n L' H') Qc Xc:=by
   rcases hcall with⟨f,fn,c,caps,e1,e2,e3⟩|⟨l,e1,e2⟩
   ·exact Zjt e2 ho e1 _ has e3
   ·exact ZhI ho e1 _ has e2
  refine hsem E1 w1 a1 _ _ h4 (fun x _=>Zc4 h3 x) ?_ ?_ cx.φ.ro
  ·rintro E' w' cv v H1 hq hcv hh hx';obtain⟨_,_,_,_,hff⟩:=hk _ _ hq;exact hff.elim
  ·rintro E' w' H1 hq hh hx';obtain⟨L2,H2,rfl,hos2,hF2⟩:=hX _ hq;exact⟨⟨tm',L2,H2⟩,E',Vb hF2 k,⟨h1,by rw[h2];exact(hs.defs.ext (Env.ZaS cx.n E w)).ext (h5.trans hx'),fun t=>(h3 t).mono h4.norm hx'.le,hh,Yp.Wv (Yp.Wv hs.out hos) hos2⟩,(Env.ZaS cx.n E w).trans ((h5.trans hx').mono (Uj _))⟩
 ·intro t;rw[hva,t0];exact hs.tmps t
 ·rw[hhv,g0];exact hs.heap.drew
def Zlz{P:Program}{T:TT}{o:Oper}{ρ:Operand→AV}{m:Nat}{H:Za}{t:TypeId}{x:Operand}{kt e:TypeId}{re:Zu}{l j:Nat}{es:List (AV×AV)}(hT:TOK P T)(ho:o.op= .call {callee:=.builtin .len,args:=#[x],argTypes:=#[t]})
  (h1:mapOf T t=some (kt,e,re)) (hx:ρ x= .map l j) (hH:H l j=some (.map es)):Yr P m o ρ H (.int .i64 es.length) H:=fun E w a hr hops=>by
 have hxv:=hops x sC;rw[hx]at hxv;obtain⟨hu,hre⟩:=Vg hT h1;generalize hp:a.eval x=p at hxv;cases hxv with|map _ _ b hm=>
 obtain⟨b',hm',ent,hc,hs,hv⟩:=hr.map l j es (hr.norm.Zaa hm) hH;rw[hm]at hm';cases hm';have hg:(getObj b).run P w= .ok (.map ent es.length) w:=by simp[getObj,Sem.run,hc]
 refine⟨.int .i64 es.length,E,w,.inl ?_,.int _ _,hr,.refl m E w⟩;simp[execOp,ho,hp,resolve,invoke,builtin,Builtin.len_,run_underlying hu,hg,hs,goInt]
def seqs:List Code→Code→Code
 |[],d=>d
 |c::r,d=>.seq c (seqs r d)
def Zf4{P:Program}{φ:Fm}{n N:Nat}{Q:Exit→Zb→Prop}{s:Zb}:∀{r:List Code} {e:Exit},e≠ .normal→AX P φ n N Q (r.map .code) e s→Q e s
 |[],_,_,h=>h
 |c::r,e,he,h=>by
  cases e with
  |normal=>exact absurd rfl he
  |_=>exact Zf4 (r:=r) sm h
section
variable {P:Program} {φ:Fm} {f0:FuncId} {n N:Nat} {Q:Exit→Zb→Prop} {s:Zb} {k:List Itm}
def ZaZ.block{id:Nat}{c:Code}(h:ZaZ P φ f0 n N c (fun e s'=>match e with| .exit id'=>if id'=id then Q .normal s' else Q (.exit id') s'|e=>Q e s') s):ZaZ P φ f0 n N (.block id c) Q s:=fun E w a hs b k cs h1 h2=>by
 have h0:(lone (b.atR a (.code (.block id c)::k)) cs w).fenced P (fr φ.ro):=calm rfl;obtain⟨e,a1,w1,⟨s1,E1,hq,hs1,hx1⟩,harr⟩:=h E w a hs b (.inBlock id::k) cs h1 h2;cases e with
 |normal=>exact⟨.normal,a1,w1,⟨s1,E1,hq,hs1,hx1⟩,.head h0 stepR_block (StepsIn.trans harr (.one (calm rfl) stepR_inBlock))⟩
 |exit id'=>
  by_cases hid:id'=id
  ·simp only[hid,if_true]at hq;exact⟨.normal,a1,w1,⟨s1,E1,hq,hs1,hx1⟩,.head h0 stepR_block (harr.1 k (by simp[exitTo,hid]))⟩
  ·simp only[hid,if_false]at hq;have this:(id==id')=false:=by simp;exact fun h=>hid h.symm
   have hx:exitTo id' (.inBlock id::k)=exitTo id' k:=by simp[exitTo,this]
   exact⟨.exit id',a1,w1,⟨s1,E1,hq,hs1,hx1⟩,fun k' hk=>.head h0 stepR_block (harr.1 k' (by rw[hx];exact hk)),
    fun hr' hk=>let⟨k₁,h1,h2⟩:=harr.2 hr' (by rw[hx];exact hk);⟨k₁,h1,.head h0 stepR_block h2⟩⟩
 |goto l=>
  have hx:gotoIn l (.inBlock id::k)=gotoIn l k:=by simp[gotoIn]
  exact⟨_,a1,w1,⟨s1,E1,hq,hs1,hx1⟩,fun k' hk=>.head h0 stepR_block (harr.1 k' (by rw[hx];exact hk)),
   fun hr' hk=>let⟨k₁,h1,h2⟩:=harr.2 hr' (by rw[hx];exact hk);⟨k₁,h1,.head h0 stepR_block h2⟩⟩
 |ret=>exact⟨_,a1,w1,⟨s1,E1,hq,hs1,hx1⟩,.of_steps (.one h0 stepR_block) harr⟩
 |panic ch=>exact⟨_,a1,w1,⟨s1,E1,hq,hs1,hx1⟩,.of_steps (.one h0 stepR_block) harr⟩
 |outgrown=>exact⟨_,a1,w1,⟨s1,E1,hq,hs1,hx1⟩,.of_steps (.one h0 stepR_block) harr⟩
def Zgp{id:Nat}{c:Code}(hc:c= .block id c.fst)(h:Zbd P φ f0 n N (.code c.fst:: .blk id::k) Q s):Zbd P φ f0 n N (.code c::k) Q s:=by
 rw[hc];refine ZaZ.block ?_;exact ZaZ.mono h fun e s' hq=>by cases e<;>exact hq
def Zd7{c:Code}{s':Zb}(hw:AWk n N s s')(h:Zbd P φ f0 n N (.code c::k) Q s'):Zbd P φ f0 n N (.code c::k) Q s:=fun E w a hs b k0 cs h1 h2=>by
 obtain⟨E1,hs1,hx1⟩:=hw _ E w a hs;obtain⟨e,a',w',⟨s2,E2,hq,hs2,hx2⟩,harr⟩:=h E1 w a hs1 b k0 cs h1 h2;exact⟨e,a',w',⟨s2,E2,hq,hs2,hx1.trans hx2⟩,harr⟩
def ZkA{id:Nat}(h:Zbd P φ f0 n N k Q s):Zbd P φ f0 n N (.blk id::k) Q s:=h
def Zhp(T:TT){c d:Code}(l:List Code)(hc:c=seqs l d)(h:AKc ⟨P,T,φ,n,N⟩ (l.map .code) (fun e s'=>match e with| .normal=>Zbd P φ f0 n N (.code d::k) Q s'|e=>ZgD P φ f0 n N Q k e s') s):Zbd P φ f0 n N (.code c::k) Q s:=by
 subst hc;induction l generalizing s with
 |nil=>exact h
 |cons c r ih=>
  show ZaZ P φ f0 n N (.seq c (seqs r d)) (ZgD P φ f0 n N Q k) s;refine ZaZ.seq (ZaZ.mono (Zna h) ?_);intro e s' hq;cases e with
  |normal=>exact ih hq
  |_=>
   have:=Zf4 (r:=r) sm hq;exact this
end
end Go.Abs

namespace Go.Proofs.YtmdeagmbfhbbnaaGreatDoorR
open Go.Abs
def Zti(t:Tm)(n:Nat)(H:Za)(i:Nat):Zb:=
 ⟨[(11,.int .i64 i),(10,.int .i64 t.args.length),(9,.sl 4 (t.args.map Tm.enc) .any),(1,.ptr n 1 0),(2,.ptr n 2 0)],
  [(200,.buf 40 4 i),(1,.box [.int .u8 t.kind,.int .i64 t.num,.str t.name,.sl 4 ((t.args.take i).map Tm.enc) (.buf n 200)]),(2,.box [.int .u8 0,.int .i64 0,.str [],.sl 4 [] .full])],H⟩
def o155:Opt:=⟨true,true,fun d=>if d=20 then .own 200 else .auto,[200]⟩
def Zsh(t:Tm)(ht:t.Good):Pure prog 155 [t.enc] t.enc:=by
 intro n H;have ih:∀u∈t.args,Pure prog 155 [u.enc] u.enc:=fun u hu=>Zsh u (ht.arg hu)
 have hl:=ht.len;have ho:∀(q:Nat→Prop) (r:List Tm),q 200→Inside n q (.sl 4 (r.map Tm.enc) (.buf n 200)):=fun q r h=>Abs.Yz (mB fun u=>Tm.blw n u) h
 refine aF func155 fun B=>?_
 refine gc ?_;refine gk ?_;refine Zfw 1 200 3 40 4 rfl rfl rfl ?_;simp only[go_sem,simprocAttr,Mc,UR];refine Zt (Zti t n H) t.args.length rfl ?_ ?_
 ·exact KK
 intro i hi;refine Yc rfl ?_;rcases Qj i t.args.length with h|h
 ·have hm:(t.args.take i).map Tm.enc++[(t.args[i]).enc]=(t.args.take (i+1)).map Tm.enc:=by rw[Qn h,QL];rfl
  have hmin:(t.args.take i).length=i:=Ut hi;refine nr ?_;refine aq h ?_;refine nT ?_;refine nq2 (Tm.Zp _ _ h) h ?_;refine nD o155 ?_;simp only[go_sem,simprocAttr,o155];refine⟨rfl,rfl,?_⟩;refine ZgN (Zf func155 rfl rfl) (ih _ (Qa h)) sS ?_;simp only[go_sem,simprocAttr,o155,hmin];refine⟨rfl,⟨Zm om,om⟩,?_⟩;rw[hm];refine gd ?_;exact KK
 ·have hi':i=t.args.length:=om;subst hi';refine nq (QI.2 h) ?_;refine gg ?_;refine gE ?_;refine Ye (.inl rfl) _ n 2 0 [.int .u8 t.kind,.int .i64 t.num,.str t.name,.sl 4 (t.args.map Tm.enc) (.buf n 200)] sS sF rfl (Qe _) sS ?_ (Tm.blw _ t) rfl;refine aS ?_;rw[Tm.VY];exact .deep (.Ze7 ⟨.refl _,.refl _,.refl _,.any _ _ _,trivial⟩)
termination_by SizeOf.sizeOf t
decreasing_by exact Tm.Xp hu
def opM:Opt:=⟨false,false,fun x=>if x=7 then .call else .auto,[]⟩
def Zud(n:Nat)(H:Za)(q j N:Nat)(hq:q<n)(ys:List Tm)(hN:ys.length=N+1)(hl:N+1≤1000000)(hH:H q j=some (.Zg 40 4 (flat (ys.map Tm.enc)) (N+1))):PC prog n 240 [.msl 4 q j (N+1)] H (.sl 4 (ys.map Tm.enc) .any):=by
 have hne:¬q=n:=om;refine aF func240 fun B=>?_
 refine gc ?_;refine⟨⟨_,rfl⟩,?_⟩;refine nF ?_;repeat refine kn rfl ?_
 refine YF tok opM rfl rfl (by kernel_rfl) ?_;simp only[go_sem,simprocAttr,opM];refine⟨rfl,?_⟩;refine Step.same (v:=.sl 4 (ys.map Tm.enc) .any) ?_ ?_
 ·refine ZgT (ys:=ys.map Tm.enc) (n:=N+1) (q:=q) (j:=j) tok rfl rfl rfl rfl rfl dc rfl rfl ((Zi hq _ _ _).trans hH) (ZlW ys) (by simp[hN]) om (Zm om) ?_;show(N+1)*56≤_;omega
 refine gw ?_;exact Zc (.refl _) (ZH _) rfl
/-! The number of combinations. -/
def cntF(n:Nat)(p:List Tm):Option Nat:=if 1000<n*p.length then none else some (n*p.length)
theorem ZmV(ps:List (List Tm)):Zn4 ps=ps.foldlM cntF 1:=rfl
def rows_len:∀ps:List (List Tm),∀a m,ps.foldlM cntF a=some m→a*(Yd ps).length=m
 |[],a,m,h=>by simp at h;simp[Yd,h]
 |p::r,a,m,h=>by
  rw[MG]at h;unfold cntF at h;split at h
  ·cases h
  ·have:=rows_len r (a*p.length) m h;have e:(Yd (p::r)).length=p.length*(Yd r).length:=by
    rw[Yd,List.length_flatMap];simp[List.map_const']
   rw[e,←Nat.mul_assoc];exact this
def ZhJ{α β:Type}(g:α→β):∀(l:List α) (a:List β),l.foldlM (fun o r=>(some (o++[g r]):Option (List β))) a=some (a++l.map g)
 |[],a=>by simp
 |x::l,a=>by
  rw[MG];show l.foldlM _ (a++[g x])=_;rw[ZhJ g l];simp
def ZdW{n:Nat}{p:Nat→Prop}(l:List Tm):Yg (fun c=>Inside n p c) (flat (l.map Tm.enc)):=ZY fun c hc=>((WJ (n:=n) (m:=0) l).1 c hc).inside
def Zdv{S:List Str}:∀{f c k:Nat},(∀j,j<k→newV (c+j)∈S)→newV (c+k)∉S→k≤f→Zbb S f c=c+k
 |0,c,k,_,_,hk=>by
  have:k=0:=om;subst this;rfl
 |f+1,c,0,_,h,_=>by rw[Uz]at h;rw[Zbb,if_neg h];rfl
 |f+1,c,k+1,h1,h2,hk=>by
  have h0:=h1 0 om;rw[Uz]at h0;rw[Zbb,if_pos h0];have:=Zdv (S:=S) (f:=f) (c:=c+1) (k:=k) (fun j hj=>by have:=h1 (j+1) om;rwa [show c+(j+1)=c+1+j by omega]at this) (by rwa [show c+(k+1)=c+1+k by omega]at h2) om;rw[this];omega
section
variable {k:Nat}
def Zb7{S:List Str}{c:Nat}(h:∀j,j<k→newV (c+j)∈S):k≤S.length:=by
 have h2:((List.range k).map fun i=>newV (c+i)).length≤S.length:=by
  refine YL ?_ fun x hx=>?_
  ·refine List.Pairwise.map _ (fun a b hab e=>?_) QaC;have:=Zdh e;omega
  ·obtain⟨i,hi,rfl⟩:=Qi.1 hx;exact h i (MK.1 hi)
 rwa [Qv,MV]at h2
def Ja(d:Nat×Tm):AV:=.agg [.int .u8 2,.bool false,.str [],.sl 4 [] .full,.int .u8 1,.int .u8 3,.int .i64 0,.str (newV d.1),.sl 4 [] .full,.int .u8 d.2.kind,.int .i64 d.2.num,.str d.2.name,.sl 4 (d.2.args.map Tm.enc) .any]
structure FZs where
 n:Nat
 ds:List (Nat×Tm)
def fsH(H:Za)(l b m q:Nat)(s:FZs):Za:=(H.upd l q (.Zg 54 13 (flat (s.ds.map Ja)) s.ds.length)).upd l b (.box [.map l m,.int .i64 s.n,.msl 13 l q s.ds.length])
variable {l:Nat}
def Znm(H:Za){l' k':Nat}(h:¬(l=l'∧k=k'))(x y:Ze):(H.upd l k x).upd l' k' y=(H.upd l' k' y).upd l k x:=by
 funext i j;simp only[Za.upd];by_cases h1:i=l'∧j=k'<;>by_cases h2:i=l∧j=k
 ·exact absurd ⟨h2.1.symm.trans h1.1,h2.2.symm.trans h1.2⟩ h
 ·rw[if_pos h1,if_neg h2,if_pos h1]
 ·rw[if_neg h1,if_pos h2,if_pos h2]
 ·rw[if_neg h1,if_neg h2,if_neg h2,if_neg h1]
section
variable {H:Za} {l b m q:Nat} {s:FZs}
def fsH_box:fsH H l b m q s l b=some (.box [.map l m,.int .i64 s.n,.msl 13 l q s.ds.length]):=Za.upd_same _ _ _ _
def ZmC(h:b≠q):fsH H l b m q s l q=some (.Zg 54 13 (flat (s.ds.map Ja)) s.ds.length):=by
 unfold fsH;rw[Za.upd_ne _ _ om,Za.upd_same]
def ZlU{l' k':Nat}(h1:¬(l'=l∧k'=b))(h2:¬(l'=l∧k'=q)):fsH H l b m q s l' k'=H l' k':=by
 unfold fsH;rw[Za.upd_ne _ _ h1,Za.upd_ne _ _ h2]
def Zrk(h:b≠q)(s':FZs):((fsH H l b m q s).upd l q (.Zg 54 13 (flat (s'.ds.map Ja)) s'.ds.length)).upd l b (.box [.map l m,.int .i64 s'.n,.msl 13 l q s'.ds.length])=fsH H l b m q s':=by
 unfold fsH;rw[Znm (H.upd l q (.Zg 54 13 (flat (s.ds.map Ja)) s.ds.length)) (l:=l) (k:=b) (l':=l) (k':=q) om,Za.Zar,Za.Zar]
def ZkE(n':Nat):(fsH H l b m q s).upd l b (.box [.map l m,.int .i64 n',.msl 13 l q s.ds.length])=fsH H l b m q ⟨n',s.ds⟩:=by
 unfold fsH;rw[Za.Zar]
def Zc0{n:Nat}(h:l≠n)(L:List (Nat×Ze)):full n L (fsH H l b m q s)=fsH (full n L H) l b m q s:=by
 unfold fsH;rw[Yk _ _ _ _ _ _ h,Yk _ _ _ _ _ _ h]
end
variable {n:Nat}
def ZaU{P:Program}{T:TT}{t ty:Nat}{v:AV}{s:Zb}{Q:AV→Za→Prop}(r:Zu)(l k off:Nat)(cs:List AV)(h1:lkv s.tmps t= .ptr l k off)(h2:full n s.L s.H l k=some (.box cs))(h3:T ty=some r)
  (h4:off+r.size≤cs.length) (h5:r.isAgg=false→off<cs.length) (hv:Wk (if r.isAgg then .agg ((cs.drop off).take r.size)else(cs.drop off).getD 0 .dead) v) (hb:Below n v) (hQ:Q v s.H):
  PostF P T n [.cell t ty] Q .ret s:=by
 refine⟨by simp only[Ql,forall_eq,XZ];exact⟨l,k,off,cs,r,h1,h2,h3,h4,h5⟩,[v],⟨?_,trivial⟩,by simpa using hb,hQ⟩;simp only[Zdo,h1,h2,h3];rw[if_pos ⟨h4,h5⟩];exact hv
def Zgf(n:Nat)(d:Nat×Tm):Below n (Ja d):=Xa (by
 intro c hc;simp only[Qk,QD,or_false]at hc;rcases hc with rfl|rfl|rfl|rfl|rfl|rfl|rfl|rfl|rfl|rfl|rfl|rfl|rfl
 all_goals first|exact .int _ _|exact .bool _|exact .str _|exact ZH _|exact YR (fun _ h=>by cases h) (fun _ _ e=>by cases e))
def Zer{e:Nat}(ds:List (Nat×Tm)):Ze.Below n (.Zg e 13 (flat (ds.map Ja)) k):=⟨fun a ha=>by
 simp only[Ze.avs,flat,Qw,Qi]at ha;obtain⟨_,⟨d,_,rfl⟩,ha⟩:=ha;have:=Zgf n d;exact this.cells _ ha,by simp[Ze.at_]⟩
def Zid{H:Za}{b m q:Nat}{s s':FZs}(h:l<n)(hbq:b≠q):ZJ n (fsH H l b m q s) (fsH H l b m q s'):=fun l' k' x hl hx=>by
 by_cases h1:l'=l∧k'=b
 ·obtain⟨rfl,rfl⟩:=h1;rw[fsH_box]at hx;cases hx;exact .inr (Ze.Zz ⟨.map _ _ h,.int _ _,.msl _ _ _ _ h,trivial⟩)
 ·by_cases h2:l'=l∧k'=q
  ·obtain⟨rfl,rfl⟩:=h2;rw[ZmC hbq]at hx;cases hx;exact .inr (Zer _)
  ·rw[ZlU h1 h2]at hx⊢;exact .inl hx
def Zum(l:List Tm)(f:Nat)(bs:List AV)(ys:List Tm)(n:Nat)(S:Nat→Za)(i:Nat):Zb:=
 ⟨[(10,.int .i64 i),(9,.int .i64 l.length),(8,.sl 4 (l.map Tm.enc) .any),(5,.sl 4 ((ys.take i).map Tm.enc) (.buf n 200)),(1,.bfn (.func f) bs)],[(200,.buf 40 4 i)],S i⟩
def Zty(n:Nat)(l:List Tm)(hl:l.length≤1000000)(f:Nat)(bs:List AV)(fn:Func)(c:Code)(hf:Fun prog f fn c)(ys:List Tm)(hy:ys.length=l.length)(S:Nat→Za)
  (hbl:Below n (.bfn (.func f) bs)) (hc:∀i (h:i<l.length) L,Zh prog (n+1) f (bs++[l[i].enc]) (full n L (S i)) fun r H1=>r=(ys[i]'om).enc∧H1=full n L (S (i+1))) (hout:∀i,i<l.length→ZJ n (S i) (S (i+1))):
  Zh prog n 70 [.sl 4 (l.map Tm.enc) .any,.bfn (.func f) bs] (S 0) fun r H'=>r= .sl 4 (ys.map Tm.enc) .any∧H'=S l.length:=by
 have hfi:∀q,Inside n q (.bfn (.func f) bs):=fun q=>hbl.inside
 have hxi:∀q,Inside n q (.sl 4 (l.map Tm.enc) .any):=fun q=>(ZH _).inside
 refine aF func70 fun B=>?_
 refine gz ?_;refine XL 5 200 40 4 rfl rfl ?_;refine Zt (Zum l f bs ys n S) l.length rfl ?_ ?_
 ·exact KK
 intro i hi;refine Yc rfl ?_;rcases Qj i l.length with h|h
 ·have hmin:(ys.take i).length=i:=Ut om;refine nq h ?_;refine nT ?_;refine nq2 (Tm.Zp _ _ h) h ?_;refine nR ?_;refine Zr0 (bs:=bs) (avs:=[l[i].enc]) rfl hf (hc i h _) sS ?_;rintro r H1 ⟨rfl,rfl⟩;refine⟨_,S (i+1),rfl,hout i h,?_⟩;refine aq hmin ?_;refine⟨by first|exact⟨rfl,dc⟩|exact rfl,⟨Zm om,om⟩,?_⟩;refine gd ?_;apply kZ;repeat' first|apply q0|exact xx|apply aI
  ·refine aS ?_;rw[iw];exact .refl _
  ·simp only[go_sem,simprocAttr,Qn (show i<ys.length by omega),QL];exact .refl _
  all_goals first|exact hfi _|exact hxi _|exact Tm.Yz rfl
 ·refine nq (QI.2 h) ?_;refine gg ?_;have hi':i=l.length:=om;subst hi';have ht:ys.take l.length=ys:=Q7 om;refine nq ht ?_;refine nV ?_;refine Zk ?_ (ZH _) ⟨rfl,rfl⟩;refine aS ?_;exact .any _ _ _
def Zbj(S:List Str):∀(p q:List Tm) (c:Nat),flT.flTs S (p++q) c=((flT.flTs S p c).1++(flT.flTs S q (flT.flTs S p c).2.1).1,(flT.flTs S q (flT.flTs S p c).2.1).2.1,(flT.flTs S p c).2.2++(flT.flTs S q (flT.flTs S p c).2.1).2.2)
 |[],q,c=>by simp[flT.flTs]
 |t::p,q,c=>by
  have:=Zbj S p q (flT S t c).2.1;simp only[Q9,flT.flTs,this,Ua]
def ZhP(S:List Str)(l:List Tm)(c i:Nat)(h:i<l.length):flT.flTs S (l.take (i+1)) c=((flT.flTs S (l.take i) c).1++[(flT S l[i] (flT.flTs S (l.take i) c).2.1).1],(flT S l[i] (flT.flTs S (l.take i) c).2.1).2.1,(flT.flTs S (l.take i) c).2.2++(flT S l[i] (flT.flTs S (l.take i) c).2.1).2.2):=by
 rw[Qn h,Zbj];simp[flT.flTs]
def Zmi(S:List Str)(l:List Tm)(c i:Nat)(h:i<l.length)(h':i<(flT.flTs S l c).1.length):(flT.flTs S l c).1[i]=(flT S l[i] (flT.flTs S (l.take i) c).2.1).1:=by
 have h1:flT.flTs S l c=flT.flTs S (l.take (i+1)++l.drop (i+1)) c:=by rw[QZ]
 have h2:=Zbj S (l.take (i+1)) (l.drop (i+1)) c;have h3:=ZhP S l c i h;have hlen:(flT.flTs S (l.take i) c).1.length=i:=by rw[Zad,QK];omega
 have h4:(flT.flTs S l c).1=(flT.flTs S (l.take i) c).1++[(flT S l[i] (flT.flTs S (l.take i) c).2.1).1]++(flT.flTs S (l.drop (i+1)) (flT.flTs S (l.take (i+1)) c).2.1).1:=by
  rw[h1,h2,h3]
 simp only[h4];rw[MJ (by simp[hlen]),Qa5 om];simp
def Zj7(S:List Str):∀f n,Zbb S f n≤n+f
 |0,n=>Qe _
 |f+1,n=>by
  have:=Zj7 S f (n+1);unfold Zbb;split<;>omega
def ZcM(S:List Str):(∀t c,(flT S t c).2.1≤c+t.sz*(S.length+2)∧(flT S t c).2.2.length≤t.sz)∧ ∀l c,(flT.flTs S l c).2.1≤c+Tm.sz.szs l*(S.length+2)∧(flT.flTs S l c).2.2.length≤Tm.sz.szs l:=by
 refine X4 (fun k n s l ih c=>?_) (fun c=>by simp[flT.flTs,Tm.sz.szs]) fun t r h1 h2 c=>?_
 ·have hz:=(Tm.mk k n s l).ZcO;by_cases hk:k=5∨k=6
  ·rw[WY hk];have:=Zj7 S (S.length+1) (c+1);have h3:1*(S.length+2)≤(Tm.mk k n s l).sz*(S.length+2):=QE _ hz;refine⟨?_,by simpa using hz⟩;show Zbb S (S.length+1) (c+1)≤_;omega
  ·rw[WR hk];have:=ih c;simp only[Tm.sz,QY];exact⟨by have:=this.1;omega,by have:=this.2;omega⟩
 ·have a1:=h1 c;have a2:=h2 (flT S t c).2.1;simp only[flT.flTs,Tm.sz.szs,Qd,QY];omega
def Zhe(S:List Str)(l:List Tm)(c i:Nat):(flT.flTs S (l.take i) c).2.1≤c+Tm.sz.szs (l.take i)*(S.length+2)∧(flT.flTs S (l.take i) c).2.2.length≤Tm.sz.szs (l.take i):=(ZcM S).2 _ _
def Zoa(t:Tm)(n l b m q c k:Nat)(ds:List (Nat×Tm))(H:Za):Zb:=
 ⟨[(4,.ptr n 4 0),(3,.ptr n 3 0),(0,.ptr l b 0)],[(3,.box t.cs),(4,.box [.int .u8 0,.int .i64 0,.str [],.sl 4 [] .full])],fsH H l b m q ⟨c+1+k,ds⟩⟩
def flO:Opt:=⟨true,false,fun d=>if d=64 then .heap else .auto,[]⟩
def JM(S:List Str)(l:List Tm)(s:FZs)(i:Nat):FZs:=⟨(flT.flTs S (l.take i) s.n).2.1,s.ds++(flT.flTs S (l.take i) s.n).2.2⟩
def fsT(S:List Str)(t:Tm)(s:FZs):FZs:=⟨(flT S t s.n).2.1,s.ds++(flT S t s.n).2.2⟩
def ZhQ(S:List Str)(l:List Tm)(s:FZs):JM S l s 0=s:=by simp[JM,flT.flTs]
def Zg9(S:List Str)(l:List Tm)(s:FZs)(i:Nat)(h:i<l.length):JM S l s (i+1)=fsT S l[i] (JM S l s i):=by
 unfold JM fsT;rw[ZhP S l s.n i h];simp
structure Zmv (S:List Str) (s:FZs) (k:Nat):Prop where
 sl:S.length≤100000
 n:s.n+k*(S.length+2)≤1000000000
 d:s.ds.length+k≤900000
def Tabs.fs{H:Za}{b m q:Nat}{s:FZs}(h:Tabs H)(hl:0<l):Tabs (fsH H l b m q s):=h.up fun k=>ZlU om om
def ZuC(S:List Str)(t:Tm)(ht:t.Good)(n:Nat)(H:Za)(l b m q:Nat)(s:FZs)(hl:l<n)(hl0:0<l)(hbq:b≠q)(hbm:b≠m)(hmq:m≠q)(hmap:H l m=some (.map (encS S)))(hn:0<n)(hT:Tabs H)(hr:Zmv S s t.sz)
  (hc:∀u∈t.args,∀(n':Nat) (H':Za) (s':FZs),l<n'→H' l m=some (.map (encS S))→Tabs H'→Zmv S s' u.sz→Zh prog n' 71 [.ptr l b 0,u.enc] (fsH H' l b m q s') fun r H1=>r=(flT S u s'.n).1.enc∧H1=fsH H' l b m q (fsT S u s')):
  Zh prog n 71 [.ptr l b 0,t.enc] (fsH H l b m q s) fun r H1=>r=(flT S t s.n).1.enc∧H1=fsH H l b m q (fsT S t s):=by
 have hne:¬l=n:=om;have hbox:fsH H l b m q s l b=some (.box [.map l m,.int .i64 s.n,.msl 13 l q s.ds.length]):=fsH_box;refine aF func71 fun B=>?_
 refine nR ?_;have hsz:=t.ZcO;by_cases hk:t.kind=5∨t.kind=6
 ·have hroom:s.n+(S.length+2)≤1000000000:=by
   have h1:=hr.n;have h2:1*(S.length+2)≤t.sz*(S.length+2):=QE _ hsz;omega
  have hds:s.ds.length+1≤900000:=by have:=hr.d;omega
  have hfl:flT S t s.n=(.mk 3 0 (newV (XC S s.n)) [],XC S s.n,[(XC S s.n,t)]):=by
   cases t;exact WY hk
  have hfs:fsT S t s=⟨XC S s.n,s.ds++[(XC S s.n,t)]⟩:=by unfold fsT;rw[hfl]
  rw[hfs,hfl];have hwn:IntKind.i64.wrap ((s.n:Int)+1)=((s.n+1:Nat):Int):=by rw[iw];omega
  have hcut:AKc ⟨prog,tt,⟨none,B⟩,n,Tryz.f71.ntmps⟩ [.code (ZR Tryz.f71).snd.snd.snd] (PostF prog tt n Tryz.f71.results.toList fun r H1=>r=(Tm.mk 3 0 (newV (XC S s.n)) []).enc∧H1=fsH H l b m q ⟨XC S s.n,s.ds++[(XC S s.n,t)]⟩) (Zoa t n l b m q s.n 0 s.ds H):=by
   repeat refine kn rfl ?_
   refine Zaf (fun M st=>∃k,k≤S.length∧M=S.length+1 - k∧(∀j,j<k→newV (s.n+1+j)∈S)∧st=Zoa t n l b m q s.n k s.ds H) (m0:=S.length+1) (s0:=Zoa t n l b m q s.n 0 s.ds H) rfl (AWk.refl _ _ _) ⟨0,Uo _,rfl,fun j hj=>absurd hj (Qm _),rfl⟩ ?_;rintro M st ⟨k,hk1,rfl,hk2,rfl⟩;refine Yc rfl ?_;have hbk:fsH H l b m q ⟨s.n+1+k,s.ds⟩ l b=some (.box [.map l m,.int .i64 ((s.n+1+k:Nat):Int),.msl 13 l q s.ds.length]):=fsH_box;have hT:Tabs (fsH H l b m q ⟨s.n+1+k,s.ds⟩):=Tabs.fs hT hl0;refine nD drawO ?_;refine aq2 hne hbk ?_;refine cT (Zr3 ((s.n+1+k:Nat):Int) om om) ?_;have hil:=Lib.itoa_length_le ((s.n+1+k:Nat):Int) om om;have hmap':∀L,full n L (fsH H l b m q ⟨s.n+1+k,s.ds⟩) l m=some (.map (encS S)):=fun L=>by
    rw[Zi hl,ZlU (fun e=>hbm e.2.symm) (fun e=>hmq e.2)];exact hmap
   refine⟨om,rfl,?_⟩;refine ZhD (Zf func48 rfl rfl) (Zh.args (j48 (n+1) _ l m om S [newV (s.n+1+k)] sm (hmap' _)) (args':=[.map l m,.sl 1 [.str (newV (s.n+1+k))] .full]) ⟨.refl _,.any _ _ _,trivial⟩) (by simp only[go_sem,simprocAttr];rfl) ?_;have hh:WX S [newV (s.n+1+k)]=decide (newV (s.n+1+k)∈S):=by simp[WX]
   by_cases hx:newV (s.n+1+k)∈S
   ·have hk3:∀j,j<k+1→newV (s.n+1+j)∈S:=fun j hj=>by
     rcases Qj j k with h|h
     ·exact hk2 j h
     ·have:j=k:=om;subst this;exact hx
    have hk4:=Zb7 hk3;have hw2:IntKind.i64.wrap (((s.n+1+k:Nat):Int)+1)=((s.n+1+(k+1):Nat):Int):=by rw[iw];omega
    rw[hh,decide_eq_true hx];simp only[go_sem,simprocAttr];refine gH ?_;simp only[go_sem,simprocAttr,hne,hbk,hw2,ZkE];refine⟨.inr (Ze.Zz ⟨.map _ _ hl,.int _ _,.msl _ _ _ _ hl,trivial⟩),?_⟩;refine nN ?_;refine⟨S.length+1 - (k+1),Zoa t n l b m q s.n (k+1) s.ds H,om,?_,k+1,hk4,rfl,hk3,rfl⟩;unfold Zoa;exact KK
   ·have hnx:XC S s.n=s.n+1+k:=by
     unfold XC;exact Zdv hk2 hx om
    rw[hh,decide_eq_false hx,hnx];refine aS ?_;refine gg ?_;refine nq2 hne hbk ?_;refine cT (Zr3 ((s.n+1+k:Nat):Int) om om) ?_;refine⟨om,?_⟩;have hbuf:fsH H l b m q ⟨s.n+1+k,s.ds⟩ l q=some (.Zg 54 13 (flat (s.ds.map Ja)) s.ds.length):=ZmC hbq;have hlen1:(s.ds++[(s.n+1+k,t)]).length=s.ds.length+1:=sm;have hset:=Zrk (H:=H) (l:=l) (m:=m) (s:=⟨s.n+1+k,s.ds⟩) hbq ⟨s.n+1+k,s.ds++[(s.n+1+k,t)]⟩;have hflt:flat ((s.ds++[(s.n+1+k,t)]).map Ja)=flat (s.ds.map Ja)++flat [Ja (s.n+1+k,t)]:=by rw[QL,YQ];rfl
    rw[hlen1]at hset;rw[hflt]at hset;refine nD flO ?_;simp only[go_sem,simprocAttr,flO,hne,hbk,hbuf];refine ZmT (Zf func49 rfl rfl) (j49 t ht) hn hT sS ?_;have hub:∀x,(fsH H l b m q ⟨s.n+1+k,s.ds⟩).upd l q x l b=some (.box [.map l m,.int .i64 ((s.n+1+k:Nat):Int),.msl 13 l q s.ds.length]):=fun x=>by
     rw[Za.upd_ne _ _ om];exact hbk
    simp only[go_sem,simprocAttr,flO,hne,hbk,hbuf,hub];have hbl:=Zer (n:=n) (e:=54) (k:=s.ds.length+1) (s.ds++[(s.n+1+k,t)]);rw[hflt]at hbl;refine⟨rfl,⟨Zm om,om⟩,.inr hbl,.inr (Ze.Zz ⟨.map _ _ hl,.int _ _,.msl _ _ _ _ hl,trivial⟩),?_⟩;refine ge ?_;refine ZaU _ n 4 0 [.int .u8 3,.int .i64 0,.str (newV (s.n+1+k)),.sl 4 [] .full] sS (by simp only[go_sem,simprocAttr,full];rfl) rfl (Qe _) sS ?_ (Tm.blw _ _) ⟨rfl,hset⟩;rw[Tm.VY];exact .deep (.Ze7 ⟨.refl _,.refl _,.refl _,.nil _ _ _,trivial⟩)
  have go:AKc ⟨prog,tt,⟨none,B⟩,n,Tryz.f71.ntmps⟩ [.code (ZR Tryz.f71).snd.snd.fst,.code (ZR Tryz.f71).snd.snd.snd] (PostF prog tt n Tryz.f71.results.toList fun r H1=>r=(Tm.mk 3 0 (newV (XC S s.n)) []).enc∧H1=fsH H l b m q ⟨XC S s.n,s.ds++[(XC S s.n,t)]⟩) ⟨[(4,.ptr n 4 0),(3,.ptr n 3 0),(0,.ptr l b 0)],[(3,.box t.cs),(4,.box [.int .u8 0,.int .i64 0,.str [],.sl 4 [] .full])],fsH H l b m q s⟩:=by
   refine nr ?_;simp only[go_sem,simprocAttr,hne,hbox,hwn,ZkE];refine⟨.inr (Ze.Zz ⟨.map _ _ hl,.int _ _,.msl _ _ _ _ hl,trivial⟩),?_⟩;refine ZK ?_ hcut;unfold Zoa;exact KK
  rcases hk with hk|hk
  ·have k5:(t.kind !=5)=false:=by simp;omega
   refine nq k5 ?_;refine gu ?_;refine ZK ?_ go;exact KK
  ·have k5:(t.kind !=5)=true:=by simp;omega
   have k6:(t.kind !=6)=false:=by simp;omega
   refine nq2 k5 k6 ?_;refine gu ?_;refine ZK ?_ go;exact KK
 ·have k5:(t.kind !=5)=true:=by simp;omega
  have k6:(t.kind !=6)=true:=by simp;omega
  have hfl:flT S t s.n=(.mk t.kind t.num t.name (flT.flTs S t.args s.n).1,(flT.flTs S t.args s.n).2.1,(flT.flTs S t.args s.n).2.2):=by
   cases t;exact WR hk
  have hend:JM S t.args s t.args.length=fsT S t s:=by unfold JM fsT;rw[QN,hfl]
  have hroom:∀i (h:i<t.args.length),Zmv S (JM S t.args s i) t.args[i].sz:=fun i h=>by
   have h1:=Zhe S t.args s.n i;have h2:=Zf3 t.args i h;have h3:=ZbD t.args (i+1);have h4:=t.Zhh;have h5:(Tm.sz.szs (t.args.take i)+t.args[i].sz)*(S.length+2)≤t.sz*(S.length+2):=QE _ om;rw[QY]at h5;refine⟨hr.sl,?_,?_⟩
   ·have:=hr.n;simp only[JM];omega
   ·have:=hr.d;simp only[JM,Qd];omega
  rw[hfl];refine nq2 k5 k6 ?_;refine gi ?_;obtain⟨L,hL⟩:∃L:List (Nat×Ze),L=[(3,.box [.int .u8 t.kind,.int .i64 t.num,.str t.name,.sl 4 (t.args.map Tm.enc) .any]),(4,.box [.int .u8 0,.int .i64 0,.str [],.sl 4 [] .full])]:=⟨_,rfl⟩
  rw[←hL];refine YV (caps:=[]) (avs:=[.sl 4 (t.args.map Tm.enc) .any,.bfn (.func 71) [.ptr l b 0]]) (Qc:=fun r H1=>r= .sl 4 ((flT.flTs S t.args s.n).1.map Tm.enc) .any∧H1=full n L (fsH H l b m q (JM S t.args s t.args.length))) rfl (Zf func70 rfl rfl) (by
   rw[Qs];have he:=Zty (n+1) t.args ht.len 71 [.ptr l b 0] _ _ (Zf func71 rfl rfl) (flT.flTs S t.args s.n).1 (Zad S t.args s.n) (fun i=>full n L (fsH H l b m q (JM S t.args s i))) ?_ ?_ ?_
   ·have h0:full n L (fsH H l b m q (JM S t.args s 0))=full n L (fsH H l b m q s):=by rw[ZhQ]
    simp only[h0]at he;exact he
   ·exact .bfn _ _ fun i hi=>by
     simp only[Qo,QC]at hi;have:i=0:=om;subst this;exact .ptr _ _ _ om
   ·intro i h L';have h1:=hc t.args[i] (Qa h) (n+1+1) (full (n+1) L' (full n L H)) (JM S t.args s i) om (by rw[Zi om,Zi om];exact hmap) ((hT.full hn).full om) (hroom i h);simp only[Zc0 (show l≠n+1 by omega),Zc0 (show l≠n by omega),Zg9 S t.args s i h];rw[Zmi S t.args s.n i h (by rw[Zad];exact h)];exact h1
   ·intro i h;simp only[Zc0 (show l≠n by omega)];exact Zid om hbq) sS ?_
  rintro r H1 ⟨rfl,rfl⟩;refine⟨L,fsH H l b m q (JM S t.args s t.args.length),rfl,Zid hl hbq,?_⟩;rw[hL,hend];refine aS ?_;refine ge ?_;refine ZaU _ n 4 0 (Tm.mk t.kind t.num t.name (flT.flTs S t.args s.n).1).cs sS (by simp only[go_sem,simprocAttr,full];rfl) rfl (Qe _) sS ?_ (Tm.blw _ _) ⟨rfl,rfl⟩;rw[Tm.Zcz];exact .refl _
def j71(S:List Str)(l b m q:Nat)(hl0:0<l)(hbq:b≠q)(hbm:b≠m)(hmq:m≠q)(t:Tm)(ht:t.Good)(n:Nat)(H:Za)(s:FZs)(hl:l<n)(hmap:H l m=some (.map (encS S)))(hT:Tabs H)(hr:Zmv S s t.sz):
  Zh prog n 71 [.ptr l b 0,t.enc] (fsH H l b m q s) fun r H1=>r=(flT S t s.n).1.enc∧H1=fsH H l b m q (fsT S t s):=
 ZuC S t ht n H l b m q s hl hl0 hbq hbm hmq hmap om hT hr fun u hu n' H' s' h1 h2 h3 h4=>j71 S l b m q hl0 hbq hbm hmq u (ht.arg hu) n' H' s' h1 h2 h3 h4
termination_by SizeOf.sizeOf t
decreasing_by exact Tm.Xp hu
end
def e238(l:List Tm):Pure prog 238 [eTs l] (.bool l.isEmpty):=by
 intro n H;refine aF func238 fun B=>?_
 have h0:((l.length:Int)==0)=l.isEmpty:=by cases l<;>simp;omega
 refine nR ?_;refine nr ?_;simp only[go_sem,simprocAttr,eTs,h0];exact pB
def ZqG(ps:List (List Tm)):ZeU 238 [] eTs ps (·.isEmpty):=⟨⟨_,_,Zf func238 rfl rfl⟩,fun x _=>Abs.Pure.tabs (e238 x),fun _=>trivial⟩
def ZeZ(s:Str)(n:Nat)(out:List Tm):List (Nat×Ze):=[(200,.Zg 40 4 (flat (out.map Tm.enc)) out.length),(4,.box [.msl 4 n 200 out.length]),(2,.box [.str s])]
def Zam(ps:List (List Tm))(n:Nat):List (Nat×AV):=[(24,.fn (.func 267) [.iptr [.sl 1 (ps.map eTs) .any]]),(4,.ptr n 4 0),(2,.ptr n 2 0)]
noncomputable abbrev c201:Code:=(ZR Tryz.f201).snd.snd.snd.snd.fst.snd
noncomputable def Zba(s:Str)(ps:List (List Tm))(n l:Nat)(out:List Tm):List (Nat×Ze):=setb (ZeZ s n out) 100 (.lrec l Tryz.f201.ntmps 202 (Zam ps n) #[25] c201.fst.fst c201.fst.snd .ready none)
noncomputable def Zbc(s:Str)(ps:List (List Tm))(n l:Nat)(H:Za)(out:List Tm):Za:=full n (Zba s ps n l out) H
def ZsO(n:Nat):Opt:=⟨true,true,fun d=>if d=29∨d=33 then .heap else if d=34 then .at_ n 200 else if d=4 then .at_ n 4 else .auto,[]⟩
def Zqa(s:Str)(ps:List (List Tm))(n:Nat)(H:Za)(i c:Nat):Zb:=
 ⟨[(13,.int .i64 i),(12,.int .i64 ps.length),(11,.sl 1 (ps.map eTs) .any),(5,.int .i64 c),(1,.sl 1 (ps.map eTs) .any),(2,.ptr n 2 0),(4,.ptr n 4 0)],[(4,.box [.sl 4 [] .full]),(2,.box [.str s])],H⟩
def Zck(s:Str)(r:List Tm):Tm:=.mk 4 0 s r
def ZkS(s:Str)(o r:List Tm):Option (List Tm):=some (o++[Zck s r])
def ZmK(s:Str)(l:List (List Tm))(a:List Tm):l.foldlM (ZkS s) a=some (a++l.map (Zck s)):=ZhJ (Zck s) l a
def Zj4(s:Str)(ps:List (List Tm)):WI (ZkS s) [] ps []=some ((Yd ps).map (Zck s)):=by
 have:=ZmK s (Yd ps) [];unfold WI;simpa using this
section
variable {ps:List (List Tm)}
def Zjp{s:Str}{n l:Nat}{H:Za}(o o':List Tm):low (n+1) (Zbc s ps n l H o') (Zbc s ps n l H o)=Zbc s ps n l H o':=by
 funext a b;by_cases h:a<n+1
 ·rw[ZcG h]
 ·rw[Jl h];unfold Zbc full;rw[if_neg om,if_neg om]
def ZoL(σ:List Tm)(z:AV)(hz:z.cells.length=4)(t:Tm):(flat (σ.map Tm.enc)++flat [z]).take (σ.length*4)++(t.cs++(flat (σ.map Tm.enc)++flat [z]).drop (σ.length*4+4))=flat ((σ++[t]).map Tm.enc):=by
 have hl:=ZgI σ;have hz1:flat [z]=z.cells:=by simp[flat]
 rw[←hl,GI,UC (by rw[Qd,hz1,hz];exact Qe _),Qs,QL,YQ];congr 1
 simp[flat,Tm.Zei]
def ZqU{s:Str}{n l:Nat}{H G:Za}{σ σ':List Tm}(hA:∀a j,a<n+1→G a j=Zbc s ps n l H σ a j):
  ((((G.upd n 100 (.lrec l Tryz.f201.ntmps 202 (Zam ps n) #[25] c201.fst.fst c201.fst.snd .busy none)).upd n 200 (.Zg 40 4 (flat (σ'.map Tm.enc)) σ'.length)).upd n 4 (.box [.msl 4 n 200 σ'.length])).upd n 100 (.lrec l Tryz.f201.ntmps 202 (Zam ps n) #[25] c201.fst.fst c201.fst.snd .ready none))=low (n+1) (Zbc s ps n l H σ') G:=by
 funext a j;by_cases h:a<n+1
 ·rw[ZcG h];have h1:=hA a j h;unfold Za.upd;by_cases e:a=n
  ·subst e;by_cases e1:j=100
   ·subst e1;simp[Zbc,full,Zba,ZeZ,setb,lkb]
   ·by_cases e2:j=4
    ·subst e2;simp[Zbc,full,Zba,ZeZ,setb,lkb]
    ·by_cases e3:j=200
     ·subst e3;simp[Zbc,full,Zba,ZeZ,setb,lkb]
     ·simp only[e1,e2,e3,and_false,if_false];rw[h1];simp[Zbc,full,Zba,ZeZ,setb,lkb,Ne.symm e1,Ne.symm e2,Ne.symm e3]
  ·simp only[e,false_and,if_false];rw[h1];simp[Zbc,full,e]
 ·rw[Jl h];unfold Za.upd;simp only[show¬a=n from fun c=>h om,false_and,if_false]
def Zsk(s:Str)(ps:List (List Tm))(N:Nat)(hN:ps.length=N+1)(hl:N+1≤1000)(n l:Nat)(H:Za):ZnJ (n+1) l ps.length 40 4 Tm.enc (Zbc s ps n l H) (ZkS s) (fun o _=>o.length<1000):=by
 have hbt:Yg (fun p=>Below (n+1) p.2) (Zam ps n):=⟨ZaJ ⟨ZL (Zb2 _),trivial⟩,.ptr _ _ _ (Qq n),.ptr _ _ _ (Qq n),trivial⟩
 refine⟨fun m G σ row hok hm hrl hA h7=>?_,fun σ σ' a b x ha hx=>?_,fun x=>⟨by rw[Tm.Xf];rfl,fun m=>by rw[Tm.Zei];exact(Tm.bcs x).mem⟩⟩
 ·have h100:G n 100=some (.lrec l Tryz.f201.ntmps 202 (Zam ps n) #[25] c201.fst.fst c201.fst.snd .ready none):=(hA n 100 (Qq n)).trans (by simp[Zbc,full,Zba,ZeZ,setb,lkb]);have h200:G n 200=some (.Zg 40 4 (flat (σ.map Tm.enc)) σ.length):=(hA n 200 (Qq n)).trans (by simp[Zbc,full,Zba,ZeZ,setb,lkb]);have h4:G n 4=some (.box [.msl 4 n 200 σ.length]):=(hA n 4 (Qq n)).trans (by simp[Zbc,full,Zba,ZeZ,setb,lkb]);have h2:G n 2=some (.box [.str s]):=(hA n 2 (Qq n)).trans (by simp[Zbc,full,Zba,ZeZ,setb,lkb]);refine ZfI tt (x:=n) (y:=100) (Zf func201 rfl rfl).get h100 om rfl dc fun B'=>?_
  show AKc _ _ _ ⟨(25,.msl 4 (n+1) 7 ps.length)::Zam ps n,[],G⟩;unfold Zam;refine gd ?_;refine⟨rfl,h100,?_⟩;refine aS ?_;obtain⟨G1,hG1⟩:∃G1,G1=G.upd n 100 (.lrec l Tryz.f201.ntmps 202 (Zam ps n) #[25] c201.fst.fst c201.fst.snd .busy none):=⟨_,rfl⟩
  have h200':G1 n 200=some (.Zg 40 4 (flat (σ.map Tm.enc)) σ.length):=by rw[hG1,Za.upd_ne _ _ sm];exact h200
  have h4':G1 n 4=some (.box [.msl 4 n 200 σ.length]):=by rw[hG1,Za.upd_ne _ _ sm];exact h4
  have h2':G1 n 2=some (.box [.str s]):=by rw[hG1,Za.upd_ne _ _ sm];exact h2
  have h7':G1 (n+1) 7=some (.Zg 40 4 (flat (row.map Tm.enc)) ps.length):=by rw[hG1,Za.upd_ne _ _ sm];exact h7
  have hnm:¬n=m:=om;have hnm1:¬n+1=m:=om;change AKc _ _ _ ⟨_,[],G.upd n 100 (.lrec l Tryz.f201.ntmps 202 (Zam ps n) #[25] c201.fst.fst c201.fst.snd .busy none)⟩;rw[←hG1];refine nD (ZsO n) ?_;simp only[go_sem,simprocAttr,ZsO,hnm,h4',h2'];rw[hN];rw[hN]at h7';refine Zbf (Zf func240 rfl rfl) (fun G' hG'=>Zud (m+1) G' (n+1) 7 N om row om om (XV hG'▸(Zi hm _ _ _).trans h7')) sS ?_;have hu4:∀x,G1.upd n 200 x n 4=some (.box [.msl 4 n 200 σ.length]):=fun x=>by rw[Za.upd_ne _ _ sm];exact h4'
  have hs1:=ZoL σ (.agg [.int .u8 0,.int .i64 0,.str [],.sl 0 [] .full]) rfl (Zck s row);have hzl:(flat (σ.map Tm.enc)++flat [AV.agg [.int .u8 0,.int .i64 0,.str [],.sl 0 [] .full]]).length=σ.length*4+4:=by rw[Qd,ZgI];rfl
  simp only[go_sem,simprocAttr,ZsO,hnm,h4',h2',h200',Za.upd_same,hu4,hzl,Za.Zar];have hs1':(flat (σ.map Tm.enc)++flat [AV.agg [.int .u8 0,.int .i64 0,.str [],.sl 0 [] .full]]).take (σ.length*4)++(AV.int .u8 4::AV.int .i64 0::AV.str s::AV.sl 4 (row.map Tm.enc) .any::(flat (σ.map Tm.enc)++flat [AV.agg [.int .u8 0,.int .i64 0,.str [],.sl 0 [] .full]]).drop (σ.length*4+4))=flat ((σ++[Zck s row]).map Tm.enc):=hs1;rw[hs1'];have hb0:Ze.Below m (.Zg 40 4 (flat (σ.map Tm.enc)++flat [.agg [.int .u8 0,.int .i64 0,.str [],.sl 0 [] .full]]) (σ.length+1)):=by
   refine⟨fun c hc=>?_,by simp[Ze.at_]⟩;rcases Qg.1 hc with hc|hc
   ·exact(WJ (m:=0) σ).1 c hc
   ·exact Yg.mem (l:=[AV.int .u8 0,.int .i64 0,.str [],.sl 0 [] .full]) (p:=fun c=>Below m c) ⟨.int _ _,.int _ _,.str _,YR (fun _ h=>by cases h) (fun _ _ e=>by cases e),trivial⟩ c (by simpa[flat,AV.cells]using hc)
  refine⟨rfl,⟨Zm om,om⟩,.inr hb0,om,om,.inr (WJ _),.inr (Ze.Zz ⟨.msl _ _ _ _ om,trivial⟩),?_⟩;refine nN ?_;refine⟨by show Za.upd (Za.upd _ _ _ _) _ _ _ _ _=_;rw[Za.upd_ne _ _ sm,Za.upd_ne _ _ sm,hG1,Za.upd_same];rfl,σ++[Zck s row],rfl,rfl,?_⟩;rw[hG1];have hlow:=ZqU (σ':=σ++[Zck s row]) hA;rw[Qd]at hlow;exact hlow
 ·unfold Zbc full at hx⊢;by_cases h:a=n
  ·rw[if_pos h]at hx;have hb:Yg (fun q:Nat×Ze=>q.2.Below (n+1)) (Zba s ps n l σ'):=
    ⟨WJ _,Ze.Zz ⟨.msl _ _ _ _ (Qq n),trivial⟩,Ze.Zz ⟨.str _,trivial⟩,Ze.ZaX hbt,trivial⟩
   exact .inr (hb.mem _ (lkb_mem hx))
  ·rw[if_neg h]at hx⊢;exact .inl hx
def ZvF(s:Str)(ps:List (List Tm))(N:Nat)(hN:ps.length=N+1)(hl:N+1≤1000)(hq:∀q∈ps,q.length≤1000000)(n:Nat)(H:Za)(hn:0<n)(hT:Tabs H):
  Z9 prog 197 n 201 [.str s,.sl 1 (ps.map eTs) .any] H (fun r H'=>∃l,Zd0 s ps=some l∧r= .sl 4 (l.map Tm.enc) .any∧H'=H) (fun H'=>Zd0 s ps=none∧H'=H):=by
 have hcf:=Zuu ps om 238 [] (·.isEmpty) (ZqG ps);refine ZgR (T:=tt) tok (Zf func201 rfl rfl) sm fun B=>?_
 refine Zhp tt (d:=(ZR Tryz.f201).snd.snd.snd.snd) [(ZR Tryz.f201).fst,(ZR Tryz.f201).snd.fst,(ZR Tryz.f201).snd.snd.fst,(ZR Tryz.f201).snd.snd.snd.fst] rfl ?_;show AKc _ [.code _,.code _,.code _,.code _] _ _;refine gc ?_;refine cT (hcf) ?_;cases hany:ps.any (·.isEmpty)with
 |true=>
  have hf:Zd0 s ps=some []:=by unfold Zd0;rw[hany];rfl
  refine gj ?_;refine Ve (ZaU _ n 4 0 [.sl 4 [] .full] sS sF rfl (Qe _) sS (.any _ _ _) (ZH []) ⟨[],hf,rfl,rfl⟩)
 |false=>
  have hf:Zd0 s ps=(Zn4 ps).bind fun _=>some ((Yd ps).map fun r=>.mk 4 0 s r):=by unfold Zd0;rw[hany];rfl
  refine nF ?_;refine gk ?_;refine Zaf (fun μ st=>∃i c,i≤ps.length∧μ=ps.length - i∧(ps.take i).foldlM cntF 1=some c∧c≤1000∧st=Zqa s ps n H i c) (m0:=ps.length) (s0:=Zqa s ps n H 0 1) rfl ?_ ⟨0,1,Uo _,rfl,rfl,om,rfl⟩ ?_
  ·exact KK
  rintro μ st ⟨i,c,hi,rfl,hc,hc1,rfl⟩;refine Yc rfl ?_;rcases Qj i ps.length with h|h
  ·have hql:=hq _ (Qa h);have hstep:=fold_at cntF h hc;have hmul:c*ps[i].length≤1000*1000000:=Qaw hc1 hql;have hw:IntKind.i64.wrap ((c:Int)*(ps[i].length:Int))=((c*ps[i].length:Nat):Int):=by
    rw[IntWalk.i64_in _ (by rw[←Int.natCast_mul];omega)];simp
   refine nr ?_;refine aq h ?_;refine nT ?_;refine nq2 (getD_map eTs _ _ h) h ?_;repeat refine kn rfl ?_
   refine Yx 197 tok (pre:=[_,_,_,_]) (post:=[_]) rfl rfl rfl rfl ?_;simp only[go_sem,simprocAttr,eTs,hw];refine Js (Zf func232 rfl rfl) (e232 (n+1) _ ((c*ps[i].length:Nat):Int)) sS ?_ ?_
   ·rintro r H1 ⟨hle,rfl,rfl⟩;refine⟨_,_,rfl,.refl _ _,?_⟩;have hle':¬1000<c*ps[i].length:=om;have hcF:cntF c ps[i]=some (c*ps[i].length):=by unfold cntF;rw[if_neg hle']
    refine aS ?_;refine gd ?_;refine⟨ps.length - (i+1),Zqa s ps n H (i+1) (c*ps[i].length),om,?_,i+1,_,h,rfl,by rw[Zd5 _ h hc];exact hcF,om,rfl⟩;exact KK
   ·rintro H1 ⟨hgt,rfl⟩;refine⟨_,_,rfl,.refl _ _,?_⟩;refine Vb ⟨rfl,?_,rfl⟩ _;have hcF:cntF c ps[i]=none:=by unfold cntF;rw[if_pos om]
    rw[hf,ZmV,hstep,hcF];rfl
  ·have hi':i=ps.length:=om;subst hi';rw[QN]at hc;rw[ZmV,hc]at hf;have hrl:=rows_len ps 1 c hc;rw[QaK]at hrl;refine nr ?_;simp only[go_sem,simprocAttr,Ui];refine gg ?_;refine Zh0 (show Zbd _ _ _ _ _ _ _ _ from ?_);refine ZdP rfl (ZdP rfl (ZrA (T:=tt) ?_));refine nR ?_;refine cP (ZuJ ps) ?_;refine Zh0 (show Zbd _ _ _ _ _ _ _ _ from ?_);refine Zd7 (JK (j0:=4) (j:=200) (i:=0) 40 4 rfl rfl rfl) ?_;refine Zd7 (s':=⟨Zam ps n,ZeZ s n [],H⟩) ?_ ?_
   ·unfold Zam ZeZ;apply kZ;repeat' first|apply q0|exact xx|apply aI
    all_goals first|exact Below.inside (v:=.fn (.func 267) [.iptr [.sl 1 (ps.map eTs) .any]]) (ZaJ ⟨ZL (Zb2 _),trivial⟩)|exact .msl _ _ _ _ (.inr ⟨rfl,rfl⟩)
   refine Zgp rfl ?_;refine Zbx (t:=197) (T:=tt) (caps:=[.iptr [.sl 1 (ps.map eTs) .any]]) 100 rfl (by unfold Zam;simp only[go_sem,simprocAttr]) (Zf func267 rfl rfl) rfl fun l=>?_
   have hok:∀pr r po σ',Yd ps=pr++r::po→pr.foldlM (ZkS s) []=some σ'→σ'.length<1000:=fun pr r po σ' e1 e2=>by
    rw[ZmK]at e2;cases e2;have:=congrArg List.length e1;simp at this⊢;omega
   refine⟨_,_,e267 (n:=n+1) (l:=l) (A:=Zbc s ps n l H) (step:=ZkS s) (ok:=fun o _=>o.length<1000) _ ps om hq (Zsk s ps N hN hl n l H) [] (fun a b _=>rfl) hok,?_,?_⟩
   ·rintro r H1 ⟨σ',hs,rfl⟩;rw[Zj4]at hs;cases hs;refine⟨Zba s ps n l ((Yd ps).map (Zck s)),H,.ready,Zjp _ _,.refl _ _,rfl,sm,?_⟩;generalize hout:(Yd ps).map (Zck s)=out at*;have hfu:Zd0 s ps=some out:=by rw[hf,←hout];rfl
    refine ZkA (ZrA (T:=tt) ?_);refine ZK (s':=⟨[(4,.ptr n 4 0)],[(200,.Zg 40 4 (flat (out.map Tm.enc)) out.length),(4,.box [.msl 4 n 200 out.length])],H⟩) ?_ ?_
    ·unfold Zam Zba ZeZ;exact KK
    refine ZK (YU (tm':=[(4,.ptr n 4 0)]) (av':=.sl 4 (out.map Tm.enc) .any) (j0:=4) (i:=0) (j:=200) 30 (show 30<Tryz.f201.ntmps by decide) (out.map Tm.enc) dc rfl rfl (.inl ⟨4,rfl,rfl⟩) rfl rfl (by rw[Qv]) (ZlW out) (ZdW out).mem ?_ ?_) ?_
    ·intro p hp;simp only[Ql]at hp;subst hp;exact⟨sm,.refl _,.ptr _ _ _ (.inr ⟨rfl,dc⟩)⟩
    ·intro p hp;simp[setb,delb]at hp;subst hp;exact Ze.Zx ⟨.dead,trivial⟩
    simp only[go_sem,simprocAttr,setb,delb,Mc,UR];refine ge ?_;refine Ve (ZaU _ n 4 0 [.sl 4 (out.map Tm.enc) .any] sS sF rfl (Qe _) sS (.refl _) (ZH _) ⟨out,hfu,rfl,rfl⟩)
   ·rintro H1 ⟨hs,_⟩;rw[Zj4]at hs;cases hs
end
end Go.Proofs.YtmdeagmbfhbbnaaGreatDoorR

namespace Go.Proofs
open Go.Shelf
def bO {P : Program} {i : FuncId} {B : Func} (h : ((((P.funcs[i]?).map Func.name).getD "") == "runtime.NumGoroutine") = false := by kernel_rfl) (h2 : P.funcs[i]? = some { B with name := ((P.funcs[i]?).map Func.name).getD "" } := by kernel_rfl) : Bears P i B := ⟨_, h, h2⟩
def Tryz.sort50_ren:Go.Shelf.Ren:=⟨fun|6=>50|15=>97|14=>96|28=>150|29=>151|20=>142|21=>143|22=>144|23=>145|24=>146|25=>147|26=>148|27=>149|46=>192|47=>193|48=>194|49=>195|50=>196|57=>229|n=>n,fun|22=>28|24=>34|25=>92|3=>3|39=>144|0=>0|53=>194|55=>196|4=>4|46=>188|45=>187|50=>165|5=>5|9=>9|66=>223|70=>227|76=>253|77=>254|n=>n,fun|n=>n⟩
def Tryz.sort50:Go.Proofs.SlLaysF0.n6 prog Tryz.sort50_ren:=by
 repeat' first|kernel_rfl|exact bO|(intro w;kernel_rfl)|constructor
def Tryz.sort264_ren:Go.Shelf.Ren:=⟨fun|6=>264|15=>97|14=>286|28=>150|29=>151|20=>293|21=>294|22=>295|23=>296|24=>297|25=>298|26=>299|27=>300|46=>301|47=>193|48=>194|49=>302|50=>303|57=>304|n=>n,fun|22=>37|24=>40|25=>100|3=>3|39=>144|0=>0|53=>194|55=>196|4=>4|46=>188|45=>187|50=>165|5=>5|9=>9|66=>223|70=>227|76=>253|77=>254|n=>n,fun|n=>n⟩
def Tryz.sort264:Go.Proofs.SlLaysF0.n6 prog Tryz.sort264_ren:=by
 repeat' first|kernel_rfl|exact bO|(intro w;kernel_rfl)|constructor
end Go.Proofs

namespace Go.Abs
open Go.Proofs Go.Shelf Go.Sort
def bare(E:Env):Env:={F:=E.F,m:=fun _ _=>none,hist:=fun _ _ _=>none,g:=fun _ _=>none,qd:=true}
section
variable {E:Env}
def VR.Zua(q:Bool){a:AV}{v:Value}(hv:VR E a v):VR {E with qd:=q} a v:=by
 induction hv with
 |int k n=>exact .int k n
 |bool b=>exact .bool b
 |str l=>exact .str l
 |nilp=>exact .nilp
 |ptr l k off b hm=>exact .ptr l k off b hm
 |iptr cs b off c hc _ ih=>exact .iptr cs b off c hc ih
 |slnil k o a ho ha=>exact .slnil k o a (by cases o<;>exact ho) ha
 |sl k xs o b off cap c hk hc _ hcap hm ho ih=>exact .sl k xs o b off cap c hk hc ih hcap hm (by cases o<;>exact ho)
 |nilf=>exact .nilf
 |fn f caps vs hl _ ih=>exact .fn f caps vs hl ih
 |bfn f caps vs hl _ ih=>exact .bfn f caps vs hl ih
 |nilm=>exact .nilm
 |map l k b hm=>exact .map l k b hm
 |mnil sz l k a hh ha=>exact .mnil sz l k a hh ha
 |msl sz l k n g cap hh=>exact .msl sz l k n g cap hh
 |eptr l k n off g cap hh=>exact .eptr l k n off g cap hh
 |ssl k xs ys b off cap c hk hc _ hcap hm ih=>exact .ssl k xs ys b off cap c hk hc ih hcap hm
 |nili=>exact .nili
 |Xg=>exact .Xg
 |sln k a cap hc=>exact .sln k a cap hc
 |sub sz l k n off m g cap hh hm=>exact .sub sz l k n off m g cap hh hm
 |ifc t a v _ ih=>exact .ifc t a v ih
 |agg cs vs hl _ ih=>exact .agg cs vs hl ih
 |tup cs vs hl _ ih=>exact .tup cs vs hl ih
 |dead v=>exact .dead v
def bare_eq(E:Env):bare E={(E.cut 0)with qd:=true}:=by
 simp[bare,Env.cut]
def VR.bare{E:Env}{a:AV}{v:Value}(hv:VR E a v)(hb:Below 0 a):VR (bare E) a v:=by
 rw[bare_eq];exact(hv.cut hb).Zua true
def Zoc{w:World}(hF:∀b o v,E.F b o=some v→w.cell? ⟨b,o,none⟩=some v):Zq 0 (fun _ _=>none) (bare E) w where
 norm:=⟨fun _ _ _=>rfl,fun _ _ _=>rfl,fun _ _ _ _=>rfl⟩
 F:=hF
 blk l k b hl _:=absurd hl (Qm _)
 dom l k hl _:=absurd hl (Qm _)
 nobuf l k h:=absurd rfl h
 inj l k l' k' b h:=by cases h
 injg l k l' k' b h:=by cases h
 mg l k l' k' b h:=by cases h
 mF l k b o h:=by cases h
 lt b h:=by rcases h with⟨_,_,h⟩|⟨_,_,h⟩<;>cases h
def Zfx{P:Program}{g:FuncId}{args:List AV}{r:AV}{w:World}{vs:List Value}(h:Pure P g args r)(hv:VRs E args vs)(hb:∀a∈args,Below 0 a)
  (hF:∀b o v,E.F b o=some v→w.cell? ⟨b,o,none⟩=some v):Calls P g vs.toArray w fun e w'=>(∃v E',e= .returned v∧VR E' r v)∧ ∃q os,w'=grow (w.drewN q) os:=by
 have hv':VRs (bare E) args vs:=⟨hv.1,fun i h1 h2=>(hv.2 i h1 h2).bare (hb _ (Qa h1))⟩
 refine(h 0 _ (bare E) w vs (Zoc hF) hv').mono ?_;rintro e w' ⟨r',v,H',E',rfl,⟨rfl,_⟩,h1,h2,hx⟩;refine⟨⟨v,E',rfl,h1⟩,w'.drawn - w.drawn,w'.heap.extract w.heap.size w'.heap.size,?_⟩;obtain⟨heap,tape,drawn,os,output⟩:=w';have e1:=hx.os;have e2:=hx.tape;have e3:=hx.output;have e4:=hx.drawn rfl;have e5:=hx.size;have e6:=hx.block;simp only at e1 e2 e3 e4 e5 e6;subst e1 e2 e3;have e7:heap=w.heap++heap.extract w.heap.size heap.size:=by
  apply Array.ext_getElem?;intro i;rcases Qj i w.heap.size with hi|hi
  ·rw[MW hi];exact e6 i hi (by rintro(⟨_,_,h⟩|⟨_,_,h⟩)<;>cases h)
  ·rw[Array.getElem?_append_right hi,Array.getElem?_extract];rcases Qj i heap.size with hj|hj
   ·rw[if_pos om];congr 1;omega
   ·rw[if_neg om,G8 hj]
 simp only[grow,World.drewN,World.mk.injEq,true_and,and_true];exact⟨e7,om⟩
def ZcA{α β:Type}(f:α→List β)(k:Nat)(hk:∀x,(f x).length=k)(k0:0<k):∀(l:List α) (t:Nat),(l.flatMap f)[t]? =(l[t / k]?).bind fun x=>(f x)[t % k]?
 |[],t=>by simp
 |x::l,t=>by
  rw[QM];rcases Qj t k with h|h
  ·rw[Uw (by rw[hk];exact h),Qbf h,Qah h];rfl
  ·rw[MX (by rw[hk];exact h),hk,ZcA f k hk k0 l (t - k)];have e1:t / k=(t - k) / k+1:=by rw[Nat.div_eq_sub_div k0 h]
   have e2:t % k=(t - k) % k:=QaX h;rw[e1,e2,UO]
section
variable {X:Type} {P:Program} {ρ:Ren}
structure ZsL (G:X→Prop) (lt:X→X→Bool):Prop where
 irrefl:∀x,G x→lt x x=false
 trans:∀x y z,G x→G y→G z→lt x y=true→lt y z=true→lt x z=true
 ntrans:∀x y z,G x→G y→G z→lt x y=false→lt y z=false→lt x z=false
def Elt(E:Env)(cs:X→List AV)(G:X→Prop):={p:List Value×X // G p.2∧VRs E (cs p.2) p.1}
def ZoV(L:SlLaysF0.n6 P ρ)(k:Nat)(k0:0<k)(aE:∀w,(isAgg (ρ.t 24)).run P w= .ok true w)(zE:∀w,(Go.sizeOf (ρ.t 24)).run P w= .ok k w)(cs:X→List AV)(hk:∀x,(cs x).length=k)(hone:∀x,∀c∈cs x,c.one=true)
  (hbl:∀x,∀c∈cs x,Below 0 c) (cf:X→X→Int) (G:X→Prop) (hO:ZsL G (ltOf cf)) (g:Nat) (fn:Func) (c:Code) (hf:Fun P g fn c) (hp:∀x y,G x→G y→Pure P g [.agg (cs x),.agg (cs y)] (.int .i64 (cf x y)))
  (n:Nat) (H:Za) (l j e sz0:Nat) (xs:List X) (hl:l<n) (hG:∀x∈xs,G x) (hH:H l j=some (.Zg e k (xs.flatMap cs) xs.length)) (hlen:xs.length≤1000000000):
  Zh P n (ρ.f 6) [.msl sz0 l j xs.length,.fn (.func g) []] H fun r H'=>r= .tup []∧ ∃ys:List X,ys.Perm xs∧(∀i i' (h:i<ys.length) (h':i'<ys.length),i<i'→ltOf cf ys[i'] ys[i]=false)∧H'=H.upd l j (.Zg e k (ys.flatMap cs) ys.length):=fun E w vs hr hv=>by
 obtain⟨v1,r1,rfl,h1,hv⟩:=hv.YS;obtain⟨v2,r2,rfl,h2,hv⟩:=hv.YS;rw[hv.of_nil];cases h2 with|fn _ _ vs2 hl2 hv2=>
 have e2:vs2=[]:=by simpa using hl2
 subst e2;have hfl:∀(l:List X),(l.flatMap cs).length=l.length*k:=fun l=>by
  induction l with
  |nil=>simp
  |cons x l ih=>rw[QM,Qd,hk,ih,Qo,QY];omega
 cases hxs:xs with
 |nil=>
  subst hxs;have hnone:∀a cap,Calls P (ρ.f 6) #[.slice a 0 cap,.func (.func g) #[] #[]] w fun e' w'=>∃r v H' E',e'= .returned v∧(r= .tup []∧ ∃ys:List X,ys.Perm []∧(∀i i' (h:i<ys.length) (h':i'<ys.length),i<i'→ltOf cf ys[i'] ys[i]=false)∧H'=H.upd l j (.Zg e k (ys.flatMap cs) ys.length))∧VR E' r v∧Zq n H' E' w'∧Ext n E w E' w':=fun a cap=>
   (AnyF.slices_SortFunc_none L a cap _ w).mono fun e' w' ⟨he,hw⟩=>by
    subst hw he;exact⟨.tup [],_,H,E,rfl,⟨rfl,[],.refl _,fun i _ h=>absurd h (Qm _),(Yb hH).symm⟩,.tup [] [] rfl (fun i h=>absurd h (Qm _)),hr,.refl _ _ _⟩
  generalize hz:AV.msl sz0 l j ([]:List X).length=av at h1;cases h1<;>cases hz
  ·exact hnone _ _
  ·exact hnone _ _
 |cons x0 xr=>
  rw[←hxs];have hpos:0<xs.length:=by rw[hxs];simp
  obtain⟨nx,hnx⟩:∃m,m=xs.length:=⟨_,rfl⟩
  rw[←hnx]at h1;generalize hz:AV.msl sz0 l j nx=av at h1;cases h1<;>cases hz
  ·omega
  rename_i gb cap hh;subst hnx;obtain⟨cc,q1,q2,q3,q4,q5,q6,q7,q8⟩:=hr.mrow hh hH hpos;have hle:xs.length*k≤cap*k:=QE _ q3;have hcs:xs.length*k≤cc.size:=om;have hgb:gb<w.heap.size:=(QU.1 q2).1;have elt:∀i (hi:i<xs.length),G xs[i]∧VRs E (cs xs[i]) ((cc.toList.drop (i*k)).take k):=fun i hi=>by
   refine⟨hG _ (Qa hi),?_⟩;have hik:i*k+k≤xs.length*k:=by
    have:=QE k (show i+1≤xs.length from hi);rwa [QY,QaK]at this
   refine⟨by rw[hk,QK,QO,Ug];omega,fun t ht ht'=>?_⟩;have htk:t<k:=by rw[hk]at ht;exact ht
   have hd:(i*k+t) / k=i:=by rw[Gw,Nat.mul_add_div k0,Qbf htk,Uz]
   have hm:(i*k+t) % k=t:=by rw[Gw,Nat.mul_add_mod,Qah htk]
   have a1:=ZcA cs k hk k0 xs (i*k+t);rw[hd,hm,Qb hi,UH,Qb ht]at a1;obtain⟨a2,a3⟩:=Ub.1 a1;have a4:=q7.2 (i*k+t) a2 (by rw[q7.1];exact a2);rw[a3]at a4;simpa[Gp,Qaf]using a4
  letI inh:Inhabited (Elt E cs G):=⟨⟨((cc.toList.drop (0*k)).take k,xs[0]),elt 0 hpos⟩⟩
  let enc:Elt E cs G→List Value:=fun p=>p.1.1
  let cf':Elt E cs G→Elt E cs G→Int:=fun p q=>cf p.1.2 q.1.2
  let d:Array (Elt E cs G):=Array.ofFn fun i:Fin xs.length=>⟨((cc.toList.drop (i.1*k)).take k,xs[i.1]),elt i.1 i.2⟩
  have hds:d.size=xs.length:=Array.size_ofFn;have hdg:∀i (hi:i<xs.length),d[i]! =⟨((cc.toList.drop (i*k)).take k,xs[i]),elt i hi⟩:=fun i hi=>by
   rw[getElem!_pos d i (by rw[hds];exact hi)];exact Array.getElem_ofFn _
  have hek:∀x,(enc x).length=k:=fun x=>by have:=x.2.2.1;rw[hk]at this;exact this
  have he1:∀x,∀v∈enc x,v.oneCell'=true:=fun x v hv=>by
   obtain⟨t,ht,rfl⟩:=QJ hv;have h0:=x.2.2.2 t (by rw[←x.2.2.1];exact ht) ht;exact h0.one (hone _ _ (Qa _))
  have hO':SWO (ltOf cf'):=⟨fun x=>hO.irrefl _ x.2.1,fun x y z=>hO.trans _ _ _ x.2.1 y.2.1 z.2.1,fun x y z=>hO.ntrans _ _ _ x.2.1 y.2.1 z.2.1⟩
  have hH0:HoldsK enc k w gb 0 d:=fun t ht=>by
   rw[size_flatK,hds]at ht;have hi:t / k<xs.length:=GL (by rw[Gw];exact ht);have htm:t % k<k:=Qa0 _ k0;have hcell:w.cell? ⟨gb,0+t,none⟩=cc[t]?:=by simp only[World.cell?,q2];simp
   have hfro:w.frozen? ⟨gb,0+t,none⟩=false:=by simp[World.frozen?,q2]
   refine⟨?_,hfro⟩;rw[hcell,get_flatK _ _ _ _ (by rw[hds];exact ht),hdg _ hi];have htt:t / k*k+t % k=t:=by rw[Gw];exact Qbo t k
   have hlt:t % k<((cc.toList.drop (t / k*k)).take k).length:=by rw[QK,QO,Ug];omega
   show cc[t]? =some (((cc.toList.drop (t / k*k)).take k)[t % k]!);have hgp:((cc.toList.drop (t / k*k)).take k)[t % k]! =((cc.toList.drop (t / k*k)).take k)[t % k]'hlt:=getElem!_pos ((cc.toList.drop (t / k*k)).take k) (t % k) hlt;rw[hgp,Gp,Qaf];rw[Uy om];simp[htt]
  have hcmp:CmpLays P g #[] enc k cf' gb 0 d.size w:=fun m os dk hdk x y=>by
   have hs0:w.heap.size≤(sortWorldK enc k w gb 0 m dk os).heap.size:=size_sortWorldK_c enc k w gb 0 m dk os;have hcb:=Zfx (E:=E) (w:=sortWorldK enc k w gb 0 m dk os) (vs:=[.agg (enc x).toArray,.agg (enc y).toArray]) (hp _ _ x.2.1 y.2.1)
    (VRs.cons (.agg _ _ (by have:=x.2.2.1;exact this) x.2.2.2) (VRs.cons (.agg _ _ (by have:=y.2.2.1;exact this) y.2.2.2) (VRs.nil _)))
    (fun a ha=>by
     simp only[Qk,QD,or_false]at ha;rcases ha with rfl|rfl<;>exact Xa (hbl _))
    (fun b o v hFv=>by
     have hne:b≠gb:=fun e'=>by subst e';rw[q6]at hFv;cases hFv
     have hlt:=hr.Zcj hFv;unfold sortWorldK;rw[cell?_grow _ _ _ (by rw[size_putRowK];exact hlt),cell?_putRowK_other _ _ _ _ _ _ _ hne];exact hr.F _ _ _ hFv)
   refine Calls.mono hcb ?_;rintro e' w' ⟨⟨v,E',rfl,hvv⟩,hw⟩;cases hvv;exact⟨rfl,hw⟩
  have hs:=AnyQ.slices_SortFunc L k aE zE enc hek he1 cf' hO' g #[] gb 0 cap d w (Y4 hf) hcmp hH0 hgb (by rw[hds];omega);rw[hds]at hs;refine Calls.mono hs ?_;rintro e' w' ⟨rfl,d',m,os,⟨p1,p2,p3⟩,hso,rfl⟩;have hd's:d'.size=xs.length:=by rw[p1,hds]
  have pe1:d'.extract 0 xs.length=d':=by rw[←hd's];simp
  have pe2:d.extract 0 xs.length=d:=by rw[←hds];simp
  rw[pe1,pe2]at p3;have hdx:d.toList.map (fun p=>p.1.2)=xs:=by
   apply Gl
   ·simp[hds]
   ·intro i h1 h2;have hi:i<xs.length:=by simpa[hds]using h1
    have:=hdg i hi;rw[getElem!_pos d i (by rw[hds];exact hi)]at this;simp only[QV,U9,this]
  obtain⟨ys,hys⟩:∃ys,ys=d'.toList.map (fun p=>p.1.2):=⟨_,rfl⟩
  have hyl:ys.length=xs.length:=by rw[hys];simp[hd's]
  have hyg:∀i (hi:i<ys.length),ys[i]=(d'[i]!).1.2:=fun i hi=>by
   subst hys;rw[getElem!_pos d' i (by simpa using hi)];simp
  have hyp:ys.Perm xs:=by rw[hys,←hdx];exact p3.map _
  have hc':(putRowK enc k (Go.Sort.ahead w m) gb 0 d').heap[gb]? =some (.cells (putCells id 0 (flatK enc k d') cc) e (0,0)):=by
   simp only[putRowK,putRow,mapBlock,Gh,if_true,Go.Sort.ahead,q2,Un,onCells]
  have hsz':(putCells id 0 (flatK enc k d') cc).size=cc.size:=by simp[putCells]
  obtain⟨hh2,hx2⟩:=hr.turn (w':=putRowK enc k (Go.Sort.ahead w m) gb 0 d') (.inr q1) (.Zg e k (ys.flatMap cs) ys.length) (fun _=>rfl) rfl rfl rfl (fun _=>Gx _ _) (by rw[size_putRowK];rfl)
   (fun b' hb'=>by simp only[putRowK,putRow,mapBlock,Gh,Go.Sort.ahead];rw[if_neg (fun e=>hb' e.symm)]) q6 (by
    obtain⟨⟨_,v0,hv0,hj0,_⟩,hm0⟩:=hr.Zg l j e k (xs.flatMap cs) xs.length (hr.norm.Xu hh) hH;rw[hh]at hv0;cases hv0;rw[hyl];refine⟨⟨by rw[hfl,hyl],_,hh,hj0,.inr ⟨gb,cap,_,rfl,q1,hc',q3,q4,by rw[hsz',q5],q6,?_⟩⟩,hm0⟩;have hpl:(putCells id 0 (flatK enc k d') cc).toList.length=cc.size:=by rw[Ug];exact hsz'
    refine⟨by rw[hfl,hyl,QK,hpl];omega,fun t ht ht'=>?_⟩;rw[hfl,hyl]at ht;have hi:t / k<xs.length:=GL (by rw[Gw];exact ht);have htm:t % k<k:=Qa0 _ k0;have a1:=ZcA cs k hk k0 ys t;rw[Qb (l:=ys) (i:=t / k) om,UH,Qb (l:=cs ys[t / k]) (i:=t % k) (by rw[hk];exact htm),Qb (l:=ys.flatMap cs) (i:=t) (by rw[hfl,hyl];exact ht)]at a1;have a2:=UU a1;rw[a2];have a3:((putCells id 0 (flatK enc k d') cc).toList.take (xs.length*k))[t]=(enc d'[t / k]!)[t % k]!:=by
     rw[Gp];simp only[putCells,U9,QaJ,size_flatK,hd's];rw[if_pos ⟨Uo _,om⟩,ML,get_flatK _ _ _ _ (by rw[hd's];exact ht)];rfl
    rw[a3];have a4:=(d'[t / k]!).2.2;have hyq:=hyg (t / k) om;have a5:=a4.2 (t % k) (by rw[hk];exact htm) (by rw[a4.1,hk];exact htm);have a6:(enc d'[t / k]!)[t % k]! =(d'[t / k]!).1.1[t % k]'(by rw[a4.1,hk];exact htm):=getElem!_pos _ _ _;rw[a6];simp only[hyq];exact a5)
  obtain⟨hh3,hx3⟩:=hh2.below (w':=sortWorldK enc k w gb 0 m d' os) ⟨rfl,rfl,rfl,by simp[sortWorldK],fun b hb=>by simp[sortWorldK,grow,Qbp,hb]⟩ (fun _=>Qe _);refine⟨.tup [],_,_,E,rfl,⟨rfl,ys,hyp,fun i i' hi hi' hii=>?_,rfl⟩,.tup [] [] rfl (fun i h=>absurd h (Qm _)),hh3,hx2.trans hx3⟩;have:=hso i i' (Uo _) hii om;rw[hyg i hi,hyg i' hi'];exact this
end
end
section
variable {P:Program} {ρ:Ren} {X:Type}
def ZnZ(L:SlLaysF.n6 P ρ)(L0:SlLaysF0.n6 P ρ)(c:X→AV)(hone:∀x,(c x).one=true)(hbl:∀x,Below 0 (c x))(cf:X→X→Int)(G:X→Prop)(hO:ZsL G (ltOf cf))(g:Nat)(fn:Func)(cd:Code)(hf:Fun P g fn cd)(hp:∀x y,G x→G y→Pure P g [c x,c y] (.int .i64 (cf x y)))
  (n:Nat) (H:Za) (l j e sz0:Nat) (xs:List X) (hG:∀x∈xs,G x) (hH:H l j=some (.Zg e 1 (xs.map c) xs.length)) (hlen:xs.length≤1000000000):
  Zh P n (ρ.f 6) [.msl sz0 l j xs.length,.fn (.func g) []] H fun r H'=>r= .tup []∧ ∃ys:List X,ys.Perm xs∧(∀i i' (h:i<ys.length) (h':i'<ys.length),i<i'→ltOf cf ys[i'] ys[i]=false)∧H'=H.upd l j (.Zg e 1 (ys.map c) ys.length):=fun E w vs hr hv=>by
 obtain⟨v1,r1,rfl,h1,hv⟩:=hv.YS;obtain⟨v2,r2,rfl,h2,hv⟩:=hv.YS;rw[hv.of_nil];cases h2 with|fn _ _ vs2 hl2 hv2=>
 have e2:vs2=[]:=by simpa using hl2
 subst e2;cases hxs:xs with
 |nil=>
  subst hxs;have hnone:∀a cap,Calls P (ρ.f 6) #[.slice a 0 cap,.func (.func g) #[] #[]] w fun e' w'=>∃r v H' E',e'= .returned v∧(r= .tup []∧ ∃ys:List X,ys.Perm []∧(∀i i' (h:i<ys.length) (h':i'<ys.length),i<i'→ltOf cf ys[i'] ys[i]=false)∧H'=H.upd l j (.Zg e 1 (ys.map c) ys.length))∧VR E' r v∧Zq n H' E' w'∧Ext n E w E' w':=fun a cap=>
   (AnyF.slices_SortFunc_none L0 a cap _ w).mono fun e' w' ⟨he,hw⟩=>by
    subst hw he;exact⟨.tup [],_,H,E,rfl,⟨rfl,[],.refl _,fun i _ h=>absurd h (Qm _),(Yb hH).symm⟩,.tup [] [] rfl (fun i h=>absurd h (Qm _)),hr,.refl _ _ _⟩
  generalize hz:AV.msl sz0 l j ([]:List X).length=av at h1;cases h1<;>cases hz
  ·exact hnone _ _
  ·exact hnone _ _
 |cons x0 xr=>
  rw[←hxs];have hpos:0<xs.length:=by rw[hxs];simp
  obtain⟨nx,hnx⟩:∃m,m=xs.length:=⟨_,rfl⟩
  rw[←hnx]at h1;generalize hz:AV.msl sz0 l j nx=av at h1;cases h1<;>cases hz
  ·omega
  rename_i gb cap hh;subst hnx;obtain⟨cc,q1,q2,q3,q4,q5,q6,q7,q8⟩:=hr.mrow hh hH hpos;rw[Qag]at q5 q7;have hgb:gb<w.heap.size:=(QU.1 q2).1;have ccs:xs.length≤cc.size:=om;have elt:∀i (hi:i<xs.length),G xs[i]∧VR E (c xs[i]) cc[i]:=fun i hi=>by
   refine⟨hG _ (Qa hi),?_⟩;have a4:=q7.2 i (by simpa using hi) (by rw[q7.1];simpa using hi);simpa using a4
  let Elt1:={p:Value×X // G p.2∧VR E (c p.2) p.1}
  letI inh:Inhabited Elt1:=⟨⟨(cc[0],xs[0]),elt 0 hpos⟩⟩
  let enc:Elt1→Value:=fun p=>p.1.1
  let cf':Elt1→Elt1→Int:=fun p q=>cf p.1.2 q.1.2
  let d:Array Elt1:=Array.ofFn fun i:Fin xs.length=>⟨(cc[i.1],xs[i.1]),elt i.1 i.2⟩
  have hds:d.size=xs.length:=Array.size_ofFn;have hdg:∀i (hi:i<xs.length),d[i]! =⟨(cc[i],xs[i]),elt i hi⟩:=fun i hi=>by
   rw[getElem!_pos d i (by rw[hds];exact hi)];exact Array.getElem_ofFn _
  have he1:OneCell enc:=fun x=>x.2.2.one (hone _)
  have hO':SWO (ltOf cf'):=⟨fun x=>hO.irrefl _ x.2.1,fun x y z=>hO.trans _ _ _ x.2.1 y.2.1 z.2.1,fun x y z=>hO.ntrans _ _ _ x.2.1 y.2.1 z.2.1⟩
  have hH0:Holds enc w gb 0 d:=fun t ht=>by
   have hi:t<xs.length:=by rw[hds]at ht;exact ht
   have hcell:w.cell? ⟨gb,0+t,none⟩=cc[t]?:=by simp only[World.cell?,q2];simp
   refine⟨?_,by simp[World.frozen?,q2]⟩;rw[hcell,hdg _ hi,Uy om]
  have hcmp:CmpLays1 P g #[] enc cf' gb 0 d.size w:=fun m os dk hdk x y=>by
   have hcb:=Zfx (E:=E) (w:=sortWorld enc w gb 0 m dk os) (vs:=[enc x,enc y]) (hp _ _ x.2.1 y.2.1) (VRs.cons x.2.2 (VRs.cons y.2.2 (VRs.nil _)))
    (fun a ha=>by
     simp only[Qk,QD,or_false]at ha;rcases ha with rfl|rfl<;>exact hbl _)
    (fun b o v hFv=>by
     have hne:b≠gb:=fun e'=>by subst e';rw[q6]at hFv;cases hFv
     have hlt:=hr.Zcj hFv;unfold sortWorld;rw[cell?_grow _ _ _ (by simp[putRow,mapBlock,Go.Sort.ahead];exact hlt),cell?_putRow_other _ _ _ _ _ _ (.inl hne)];exact hr.F _ _ _ hFv)
   refine Calls.mono hcb ?_;rintro e' w' ⟨⟨v,E',rfl,hvv⟩,hw⟩;cases hvv;exact⟨rfl,hw⟩
  have hs:=Any.slices_SortFunc L enc he1 cf' hO' g #[] gb 0 cap d w (Y4 hf) hcmp hH0 hgb (by rw[hds];omega);rw[hds]at hs;refine Calls.mono hs ?_;rintro e' w' ⟨rfl,d',m,os,⟨p1,p2,p3⟩,hso,rfl⟩;have hd's:d'.size=xs.length:=by rw[p1,hds]
  have pe1:d'.extract 0 xs.length=d':=by rw[←hd's];simp
  have pe2:d.extract 0 xs.length=d:=by rw[←hds];simp
  rw[pe1,pe2]at p3;have hdx:d.toList.map (fun p=>p.1.2)=xs:=by
   apply Gl
   ·simp[hds]
   ·intro i h1 h2;have hi:i<xs.length:=by simpa[hds]using h1
    have:=hdg i hi;rw[getElem!_pos d i (by rw[hds];exact hi)]at this;simp only[QV,U9,this]
  obtain⟨ys,hys⟩:∃ys,ys=d'.toList.map (fun p=>p.1.2):=⟨_,rfl⟩
  have hyl:ys.length=xs.length:=by rw[hys];simp[hd's]
  have hyg:∀i (hi:i<ys.length),ys[i]=(d'[i]!).1.2:=fun i hi=>by
   subst hys;rw[getElem!_pos d' i (by simpa using hi)];simp
  have hyp:ys.Perm xs:=by rw[hys,←hdx];exact p3.map _
  have hc':(putRow enc (Go.Sort.ahead w m) gb 0 d').heap[gb]? =some (.cells (putCells enc 0 d' cc) e (0,0)):=by
   simp only[putRow,mapBlock,Gh,if_true,Go.Sort.ahead,q2,Un,onCells]
  have hsz':(putCells enc 0 d' cc).size=cc.size:=by simp[putCells]
  obtain⟨hh2,hx2⟩:=hr.turn (w':=putRow enc (Go.Sort.ahead w m) gb 0 d') (.inr q1) (.Zg e 1 (ys.map c) ys.length) (fun _=>rfl) rfl rfl rfl (fun _=>Gx _ _) (by simp[putRow,mapBlock,Go.Sort.ahead])
   (fun b' hb'=>by simp only[putRow,mapBlock,Gh,Go.Sort.ahead];rw[if_neg (fun e=>hb' e.symm)]) q6 (by
    obtain⟨⟨_,v0,hv0,hj0,_⟩,hm0⟩:=hr.Zg l j e 1 (xs.map c) xs.length (hr.norm.Xu hh) hH;rw[hh]at hv0;cases hv0;rw[hyl];refine⟨⟨by simp[hyl],_,hh,hj0,.inr ⟨gb,cap,_,rfl,q1,hc',q3,q4,by rw[hsz',q5,Qag],q6,?_⟩⟩,hm0⟩;rw[Qag];have hpl:(putCells enc 0 d' cc).toList.length=cc.size:=by rw[Ug];exact hsz'
    refine⟨by rw[QK,hpl,Qv,hyl];omega,fun t ht ht'=>?_⟩;have ht2:t<ys.length:=by simpa using ht
    have htd:t<d'.size:=om;rw[QV,hyg t ht2,Gp];simp only[putCells,U9,QaJ];rw[if_pos ⟨Uo _,om⟩,ML];exact(d'[t]!).2.2)
  obtain⟨hh3,hx3⟩:=hh2.below (w':=sortWorld enc w gb 0 m d' os) ⟨rfl,rfl,rfl,by simp[sortWorld,grow,enc],fun b hb=>by show((putRow enc (Go.Sort.ahead w m) gb 0 d').heap++os)[b]? =_;rw[MW hb]⟩ (fun _=>Qe _);refine⟨.tup [],_,_,E,rfl,⟨rfl,ys,hyp,fun i i' hi hi' hii=>?_,rfl⟩,.tup [] [] rfl (fun i h=>absurd h (Qm _)),hh3,hx2.trans hx3⟩;have:=hso i i' (Uo _) hii om;rw[hyg i hi,hyg i' hi'];exact this
end
end Go.Abs

namespace Go.Proofs.YtmdeagmbfhbbnaaGreatDoorR
open Go.Abs
def Znc{X:Type}{G:X→Prop}{c:X→X→Int}(h:Zg5 G c):ZsL G (ltOf c) where
 irrefl x hx:=by rw[ltOf,h.self hx];rfl
 trans x y z hx hy hz h1 h2:=by
  rw[ltOf,decide_eq_true_eq]at*;exact h.trans hx hy hz h1 h2
 ntrans x y z hx hy hz h1 h2:=by
  obtain⟨f,hf⟩:=h.ex;rw[ltOf,decide_eq_false_iff_not]at*;rw[hf _ _ hx hy]at h1;rw[hf _ _ hy hz]at h2;rw[hf _ _ hx hz];have a1:=lexI_anti (f x) (f y);have a2:=lexI_anti (f y) (f z);have a3:=lexI_anti (f x) (f z);have:=lexI_trans (f z) (f y) (f x) om om;omega
def SD(K:List Str)(b:Bnd):Prop:=XO K b∧b.length≤1000000
def ZtY(K:List Str):Zg5 (SD K) YJ:=by
 obtain⟨⟨f,h1⟩,h2⟩:=Zrn K;exact⟨⟨f,fun x y hx hy=>h1 x y hx.1 hy.1⟩,fun x y hx hy=>h2 x y hx.1 hy.1⟩
def Tryz.sort50':Go.Proofs.SlLaysF.n6 prog Tryz.sort50_ren:={Tryz.sort50 with a24:=Tryz.isAgg34,z24:=Tryz.sizeOf34}
theorem k50(n:Nat)(H:Za)(l j:Nat)(K:List Str)(xs:List Bnd)(hg:∀b∈xs,SD K b)(hlen:xs.length≤1000000)(hH:H l j=some (.Zg 34 1 (flat (xs.map Zj)) xs.length)):
  Zh prog n 50 [.msl 1 l j xs.length,.fn (.func 51) []] H (fun r H'=>r= .tup []∧ ∃ys:List Bnd,ys.Perm xs∧(∀i i' (h:i<ys.length) (h':i'<ys.length),i<i'→ ¬YJ ys[i'] ys[i]<0)∧H'=H.upd l j (.Zg 34 1 (flat (ys.map Zj)) ys.length)):=by
 have hfl:∀q:List Bnd,flat (q.map Zj)=q.map Zj:=fun q=>by
  induction q with
  |nil=>rfl
  |cons x q ih=>rw[Qu,Yu,ih];rfl
 rw[hfl]at hH;have h:=ZnZ (P:=prog) (ρ:=Tryz.sort50_ren) Tryz.sort50' Tryz.sort50 Zj (fun _=>rfl) (fun b=>ZC 0 b) YJ (SD K) (Znc (ZtY K)) 51 _ _ (Zf func51 rfl rfl)
  (fun x y hx hy=>k51 x y hx.2 hy.2 (fun q hq=>Xx (hx.1.1.val q hq)) (fun q hq=>Xx (hy.1.1.val q hq))) n H l j 34 1 xs hg hH om
 refine Zh.mono h ?_;rintro r H' ⟨rfl,ys,hp,ha,rfl⟩;refine⟨rfl,ys,hp,fun i i' h h' hi=>?_,by rw[hfl]⟩;have:=ha i i' h h' hi;rw[ltOf,decide_eq_false_iff_not]at this;exact this
def serT:Zg5 Tm.Good cmpT:=⟨⟨ser,fun x y hx hy=>Zkp hx.nm hy.nm⟩,fun x y hx hy h=>cmpT_zero hx.nm hy.nm h⟩
theorem ZkN(q:List Tm):flat (q.map Tm.enc)=q.flatMap Tm.cs:=by
 induction q with
 |nil=>rfl
 |cons x q ih=>rw[Qu,Yu,ih,Tm.Xf];rfl
def Tm.cs1(x:Tm):∀c∈x.cs,c.one=true:=fun c hc=>by
 simp only[Tm.cs,Qk,QD,or_false]at hc;rcases hc with rfl|rfl|rfl|rfl<;>rfl
def e264(n:Nat)(H:Za)(l j:Nat)(hl:l<n)(xs:List Tm)(hg:∀b∈xs,b.Good)(hlen:xs.length≤1000000)(hH:H l j=some (.Zg 40 4 (flat (xs.map Tm.enc)) xs.length)):
  Zh prog n 264 [.msl 4 l j xs.length,.fn (.func 62) []] H (fun r H'=>r= .tup []∧ ∃ys:List Tm,ys.Perm xs∧(∀i i' (h:i<ys.length) (h':i'<ys.length),i<i'→ ¬cmpT ys[i'] ys[i]<0)∧H'=H.upd l j (.Zg 40 4 (flat (ys.map Tm.enc)) ys.length)):=by
 rw[ZkN]at hH;have h:=ZoV (P:=prog) (ρ:=Tryz.sort264_ren) Tryz.sort264 4 dc Tryz.isAgg40 Tryz.sizeOf40 Tm.cs (fun _=>rfl) Tm.cs1 (fun x=>x.bcs.mem) cmpT Tm.Good (Znc serT) 62 _ _ (Zf func62 rfl rfl)
  (fun x y hx hy=>by rw[←Tm.Zcz,←Tm.Zcz];exact a53 x y hx hy) n H l j 40 4 xs hl hg hH om
 refine Zh.mono h ?_;rintro r H' ⟨rfl,ys,hp,ha,rfl⟩;refine⟨rfl,ys,hp,fun i i' h h' hi=>?_,by rw[ZkN]⟩;have:=ha i i' h h' hi;rw[ltOf,decide_eq_false_iff_not]at this;exact this
def Zuk(l k m:Nat)(U:List Tm)(H:Za)(r:AV)(H':Za):Prop:=
 (r= .msl 4 l k m∧U.length=m∧H'=H.upd l k (.Zg 40 4 (flat (U.map Tm.enc)) m))∨
 (r= .sub 4 l k m 0 U.length∧0<m∧U.length≤m∧H'=H.upd l k (.Zg 40 4 (flat (U.map Tm.enc++List.replicate (m - U.length) zTm)) m))
def ZvI(n:Nat)(H:Za)(l k:Nat)(hl:l<n)(xs:List Tm)(hg:∀b∈xs,b.Good)(hlen:xs.length≤1000000)(hH:H l k=some (.Zg 40 4 (flat (xs.map Tm.enc)) xs.length)):
  Z9 prog 197 n 236 [.msl 4 l k xs.length] H (fun r H'=>(XI cmpT xs).length≤1000∧Zuk l k xs.length (XI cmpT xs) H r H') fun H'=>1000<(XI cmpT xs).length∧ ∃cs m,H'=H.upd l k (.Zg 40 4 cs m):=by
 have hne:¬l=n:=om;refine xF func236 fun B=>?_
 refine gc ?_;refine YV (caps:=[]) (avs:=[.msl 4 l k xs.length,.fn (.func 62) []]) rfl (Zf func264 rfl rfl) (e264 (n+1) _ l k om xs hg hlen (by rw[Zi hl];exact hH)) sS ?_;rintro r H1 ⟨rfl,ys,hp,ha,rfl⟩;have hyl:xs.length=ys.length:=hp.length_eq.symm;have hkp:kpt cmpT ys ys.length=XI cmpT xs:=ZmJ serT hg hp ha;refine⟨[],H.upd l k (.Zg 40 4 (flat (ys.map Tm.enc)) ys.length),(Yk n _ _ _ _ _ hne).symm,.upd (WJ ys),?_⟩;obtain⟨H2,hH2⟩:∃H2,H2=H.upd l k (.Zg 40 4 (flat (ys.map Tm.enc)) ys.length):=⟨_,rfl⟩
 rw[←hH2,hyl];refine gP ?_;refine YV (caps:=[]) (avs:=[.msl 4 l k ys.length,.fn (.func 16) []]) rfl (Zf func265 rfl rfl) (ZuK (n+1) _ l k om ys om (fun t ht=>hg t (hp.mem_iff.1 ht)) (by rw[Zi hl,hH2];exact Za.upd_same _ _ _ _)) sS ?_;rintro r H1 hq;unfold ZrF at hq;rw[hkp]at hq;generalize XI cmpT xs=U at*;rcases hq with⟨rfl,rfl,e⟩|⟨rfl,hpos,hle,rfl⟩
 ·have hUl:U.length=ys.length:=by rw[e]
  refine⟨[],H2,rfl,.refl _ _,?_⟩;refine gM ?_;refine Yx 197 tok (pre:=[_,_]) (post:=[]) rfl rfl rfl rfl ?_;refine aS ?_;refine Js (Zf func232 rfl rfl) (e232 (n+1) _ ys.length) sS ?_ ?_;rotate_left
  ·rintro H1 ⟨hgt,rfl⟩;exact⟨_,_,rfl,.refl _ _,rfl,om,_,_,hH2⟩
  rintro r H1 ⟨hle,rfl,rfl⟩;refine⟨_,_,rfl,.refl _ _,?_⟩;refine aS ?_;refine ge ?_;refine Ve (Zk (v:=.msl 4 l k ys.length) (.refl _) (.msl _ _ _ _ hl) ⟨om,.inl ⟨rfl,hUl,?_⟩⟩);rw[hH2,e]
 ·refine⟨[],H2.upd l k (.Zg 40 4 (flat (U.map Tm.enc++List.replicate (ys.length - U.length) zTm)) ys.length),(Yk n _ _ _ _ _ hne).symm,.upd ?_,?_⟩
  ·refine⟨(XG fun x hx=>?_).mem,by simp[Ze.at_]⟩;rcases Qg.1 hx with hx|hx
   ·obtain⟨y,_,rfl⟩:=Qi.1 hx;exact Tm.blw n y
   ·rw[(Uh.1 hx).2];exact Xa (Yg.mem (l:=[AV.int .u8 0,.int .i64 0,.str [],.sl 4 [] .full]) (p:=fun c=>Below n c) ⟨.int _ _,.int _ _,.str _,YR (fun _ h=>by cases h) (fun _ _ e=>by cases e),trivial⟩)
  refine gM ?_;refine Yx 197 tok (pre:=[_,_]) (post:=[]) rfl rfl rfl rfl ?_;refine aS ?_;refine Js (Zf func232 rfl rfl) (e232 (n+1) _ U.length) sS ?_ ?_;rotate_left
  ·rintro H1 ⟨hgt,rfl⟩;exact⟨_,_,rfl,.refl _ _,rfl,om,_,_,by rw[hH2,Za.Zar]⟩
  rintro r H1 ⟨hle2,rfl,rfl⟩;refine⟨_,_,rfl,.refl _ _,?_⟩;refine aS ?_;refine ge ?_;exact Ve (Zk (v:=.sub 4 l k ys.length 0 U.length) (.refl _) (.sub _ _ _ _ _ _ hl) ⟨om,.inr ⟨rfl,hpos,hle,by rw[hH2,Za.Zar]⟩⟩)
end Go.Proofs.YtmdeagmbfhbbnaaGreatDoorR

namespace Go.Abs
def AV.sc:AV→Bool
 | .int _ _=>true
 | .bool _=>true
 | .str _=>true
 |_=>false
def ZrQ{E E':Env}{a:AV}{v:Value}(h:a.sc=true)(hv:VR E a v):VR E' a v:=by
 cases a<;>first|cases h|skip
 ·cases hv;exact .int _ _
 ·cases hv;exact .bool _
 ·cases hv;exact .str _
def Zpw{E E':Env}{az:List AV}{vs:List Value}(h:∀a∈az,a.sc=true)(hv:VRs E az vs):VRs E' az vs:=⟨hv.1,fun i h1 h2=>ZrQ (h _ (Qa h1)) (hv.2 i h1 h2)⟩
theorem ZnT{P:Program}{n:Nat}{f:FuncId}{H:Za}{pre rs:List AV}{q j e sz N:Nat}{xs:List AV}(h:Pure P f (pre++[.sl sz xs .any]) (.tup rs))(hH:H q j=some (.Zg e sz (flat xs) N))(hN:0<N)(hxN:xs.length=N)(hml:N≤maxLen)
  (hk:∀x∈xs,x.cells.length=sz) (hx:∀c∈flat xs,c.sc=true) (hp:∀a∈pre,a.sc=true) (hr:∀a∈rs,a.sc=true):PC P n f (pre++[.msl sz q j N]) H (.tup rs):=fun E w vs hrel hv=>by
 obtain⟨us,vl,rfl,hu,hm⟩:∃us vl,vs=us++[vl]∧VRs E pre us∧VR E (.msl sz q j N) vl:=by
  have hl:=hv.1;simp only[Qd,Qo,QC]at hl;refine⟨vs.take pre.length,vs[pre.length]'om,?_,⟨by simp;omega,fun i h1 h2=>?_⟩,?_⟩
  ·conv=>lhs;rw[←QZ pre.length vs,Qz om]
   rw[Us om]
  ·have:=hv.2 i (by simp;omega) (by simp at h2;omega);rw[MJ h1]at this;simpa using this
  ·have:=hv.2 pre.length sm om;simpa using this
 cases hm with
 |mnil=>exact absurd hN (Ui 0)
 |msl _ _ _ _ g cap hh=>
  subst hxN;obtain⟨c,q1,q2,q3,q4,q5,q6,q7,q8⟩:=hrel.mrow hh hH hN;obtain⟨cs2,hcs⟩:∃cs2,cs2=c.toList.take (xs.length*sz):=⟨_,rfl⟩
  rw[←hcs]at q7;have hl2:cs2.length=xs.length*sz:=by rw[q7.1,flat_length hk]
  let E0:Env:={E with F:=fun b o=>if b=g then cs2[o]? else E.F b o,m:=fun _ _=>none,g:=fun _ _=>none,hist:=fun _ _ _=>none}
  have hF:∀b o v,E0.F b o=some v→w.cell? ⟨b,o,none⟩=some v:=fun b o v hb=>by
   simp only[E0]at hb;split at hb
   ·rename_i e;subst e;have hjl:o<xs.length*sz:=by rw[←hl2];exact(Ub.1 hb).1
    rw[hcs,QX hjl]at hb;simp only[World.cell?,q2];simpa using hb
   ·exact hrel.F b o v hb
  have h0:Zq n (fun _ _=>none) E0 w:=⟨⟨fun _ _ _=>rfl,fun _ _ _=>rfl,fun _ _ _ _=>rfl⟩,hF,fun _ _ _ _ h=>(by cases h),fun _ _ _ _=>⟨rfl,rfl,fun _=>rfl⟩,fun _ _ h=>absurd rfl h,fun _ _ _ _ _ h=>(by cases h),fun _ _ _ _ _ h=>(by cases h),fun _ _ _ _ _ h=>(by cases h),fun _ _ _ _ h=>(by cases h),fun b h=>by rcases h with⟨_,_,h⟩|⟨_,_,h⟩<;>cases h⟩
  have hs:VR E0 (.sl sz xs .any) (.slice (some ⟨g,0,none⟩) xs.length cap):=VR.Va (cs:=cs2) hk (Zpw hx q7) (fun jj u hj=>by simp only[E0,if_true,QG];exact hj) q3 hml trivial;have hcall:=h n (fun _ _=>none) E0 w (us++[.slice (some ⟨g,0,none⟩) xs.length cap]) h0 ((Zpw hp hu).append (VRs.cons hs (VRs.nil _)));refine hcall.mono ?_;rintro e' w' ⟨r,v,H',E',rfl,⟨rfl,rfl⟩,hrv,hrel',hext⟩;obtain⟨g1,g2⟩:=hrel.grow (w':=w') (F':=E.F) hext.os hext.tape hext.output hext.drawn hext.size (fun b hb=>hext.block b hb fun ho=>by rcases ho with⟨_,_,h⟩|⟨_,_,h⟩<;>cases h) (fun _ _ _ h=>h)
   (fun b o v hf=>by
    have hlt:=hrel.Zcj hf;have:=hrel.F b o v hf;simp only[World.cell?,hext.block b hlt fun ho=>by rcases ho with⟨_,_,h⟩|⟨_,_,h⟩<;>cases h]at this⊢;exact this) (fun _ _ _=>rfl)
  refine⟨_,v,H,_,rfl,⟨rfl,rfl⟩,?_,g1,g2⟩;cases hrv with
  |tup _ vs' hl' hv'=>exact .tup _ _ hl' fun i h1 h2=>ZrQ (hr _ (Qa h1)) (hv' i h1 h2)
end Go.Abs

namespace Go.Proofs.YtmdeagmbfhbbnaaGreatDoorR
open Go.Abs
/-! Sets of integers. -/
def Zdr(S:List Int)(x:Int):List Int:=if x∈S then S else S++[x]
def encI(S:List Int):List (AV×AV):=Zax eInt eInt (S.map fun x=>(x,x))
theorem Zjj(x:Int):∀S:List Int,ZfL x x (S.map fun s=>(s,s))=(Zdr S x).map fun s=>(s,s)
 |[]=>rfl
 |y::r=>by
  have ih:=Zjj x r;simp only[Qu,ZfL];by_cases h:y=x
  ·simp[h,Zdr]
  ·rw[if_neg h,ih];have:¬x=y:=fun e=>h e.symm
   unfold Zdr;by_cases h2:x∈r<;>simp[h2,this]
def ZqX(x:Int)(S:List Int):Zaw (.int .i64 x) (.int .i64 x) (encI S)=encI (Zdr S x):=by
 unfold encI;rw[←Zjj];exact Zls (ek:=eInt) kinj_int eInt x x _
def Zky(S:List Int):(encI S).length=S.length:=by simp[encI,Zax]
def ZaN{n:Nat}(S:List Int):Ze.Below n (.map (encI S)):=ZkJ (ZfQ (ek:=eInt) (ev:=eInt) (fun _=>.int _ _) (fun _ _=>.int _ _))
def Zku{n:Nat}{p:Nat→Prop}(S:List Int):Yg (fun c=>Inside n p c) (List.map (fun x=>x.1) (encI S)++List.map (fun x=>x.2) (encI S)):=ZY fun c hc=>((ZaN (n:=n) S).1 c hc).inside
def Zpj(S:List Int):∀p∈encI S,YC tt 3 p.1=true:=fun p hp=>by
 obtain⟨q,_,rfl⟩:=Qi.1 hp;rfl
section
variable {x:Int} {S:List Int}
def ZfC{y:Int}:y∈Zdr S x↔y∈S∨y=x:=by
 unfold Zdr;split
 ·rename_i h;constructor
  ·exact .inl
  ·rintro(h'|rfl)
   ·exact h'
   ·exact h
 ·simp
def ZcE(h:S.Nodup):(Zdr S x).Nodup:=by
 unfold Zdr;split
 ·exact h
 ·rename_i hx;exact Gn.2 ⟨h,sm,fun a ha b hb e=>by simp only[Ql]at hb;subst hb;subst e;exact hx ha⟩
def ZoI:(Zdr S x).length≤S.length+1:=by unfold Zdr;split<;>simp
def J4(op:Str)(S:List Int)(row:List Int):Option (List Int):=match X8 op row with
 |none=>some S
 |some v=>if 1000<(Zdr S v).length then none else some (Zdr S v)
def Zdt{op:Str}:∀{l:List (List Int)} {S T:List Int},S.Nodup→S.length≤1000→l.foldlM (J4 op) S=some T→T.Nodup∧T.length≤1000∧ ∀x,x∈T↔x∈S∨x∈l.filterMap (X8 op)
 |[],S,T,h,h1,e=>by simp at e;subst e;exact⟨h,h1,sm⟩
 |r::l,S,T,h,h1,e=>by
  rw[MG]at e;unfold J4 at e;cases hc:X8 op r with
  |none=>
   rw[hc]at e;obtain⟨a,b,c⟩:=Zdt h h1 e;exact⟨a,b,fun x=>by rw[c,GY,hc]⟩
  |some v=>
   rw[hc]at e;simp only at e;split at e
   ·cases e
   ·rename_i hl;obtain⟨a,b,c⟩:=Zdt (ZcE h) om e;refine⟨a,b,fun x=>?_⟩;rw[c,GY,hc,ZfC,Qk,or_assoc]
def ZaW{op:Str}:∀{l:List (List Int)} {S:List Int},S.Nodup→l.foldlM (J4 op) S=none→ ∃T:List Int,T.Nodup∧1000<T.length∧ ∀x∈T,x∈S∨x∈l.filterMap (X8 op)
 |[],S,h,e=>by simp at e
 |r::l,S,h,e=>by
  rw[MG]at e;unfold J4 at e;cases hc:X8 op r with
  |none=>
   rw[hc]at e;obtain⟨T,a,b,c⟩:=ZaW h e;exact⟨T,a,b,fun x hx=>by rw[GY,hc];exact c x hx⟩
  |some v=>
   rw[hc]at e;simp only at e;split at e
   ·rename_i hl;refine⟨Zdr S v,ZcE h,hl,fun x hx=>?_⟩;rw[GY,hc,Qk];rcases ZfC.1 hx with hx|hx
    ·exact .inl hx
    ·exact .inr (.inl hx)
   ·obtain⟨T,a,b,c⟩:=ZaW (ZcE h) e;refine⟨T,a,b,fun x hx=>?_⟩;rw[GY,hc,Qk];rcases c x hx with hx|hx
    ·rcases ZfC.1 hx with hx|hx
     ·exact .inl hx
     ·exact .inr (.inl hx)
    ·exact .inr (.inr hx)
def ZqZ(a b:Int):cmpT (Yf a) (Yf b)=YK a b:=by
 rw[Zfl];simp only[Yf,Tm.kind,Tm.num,Tm.args,Tm.name,if_true,QC];have h1:∀x:Int,YK x x=0:=fun x=>by simp[YK]
 have h2:Lib.compareBytes ([]:List UInt8) []=0:=cmpBytes_self [];rw[h1,Y0,h1,h2,cmpT.cmps,Y0,Y0,Y0];unfold thn;split<;>simp_all
def Zjm(h:Y8 x=true):(Yf x).Good:=Xx (value_of (Zio h) (by rw[ZhZ];decide))
def Zqt(h:∀x∈S,Y8 x=true):XI cmpT (S.map Yf)=(XI YK S).map Yf:=by
 have hg:∀y∈S.map Yf,y.Good:=fun y hy=>by obtain⟨x,hx,rfl⟩:=Qi.1 hy;exact Zjm (h x hx)
 refine serT.unique (fun y hy=>hg y ((serT.set_mem hg y).1 hy)) (serT.set_asc hg) ?_ fun x=>?_
 ·exact Qa7.2 ((serI.set_asc fun _ _=>trivial).imp fun{a b} h=>by rw[ZqZ];exact h)
 ·rw[serT.set_mem hg,Qi,Qi];simp only[serI.set_mem (l:=S) fun _ _=>trivial]
variable {ps:List (List Tm)}
def Zn9{op:Str}(h:(Yd (ps.map Ym)).foldlM (J4 op) []=some S){xs:List Tm}(hx:xs.Perm (S.map Yf)):Za3 op ps=some (XI cmpT xs)∧(XI cmpT xs).length≤1000∧ ∀t∈xs,t.Good:=by
 obtain⟨h1,h2,h3⟩:=Zdt Gz sm h;have hV:∀x,x∈S↔x∈(Yd (ps.map Ym)).filterMap (X8 op):=fun x=>by rw[h3];simp
 have hfit:∀x∈S,Y8 x=true:=fun x hx=>by
  obtain⟨r,_,hr⟩:=Qar.1 ((hV x).1 hx);exact Zhm hr
 have hgx:∀t∈xs,t.Good:=fun t ht=>by
  obtain⟨x,hx,rfl⟩:=Qi.1 (hx.mem_iff.1 ht);exact Zjm (hfit x hx)
 have e1:XI cmpT xs=XI cmpT (S.map Yf):=serT.unique (fun y hy=>hgx y ((serT.set_mem hgx y).1 hy)) (serT.set_asc hgx) (serT.set_asc fun y hy=>hgx y (hx.mem_iff.2 hy)) fun x=>by
  rw[serT.set_mem hgx,serT.set_mem fun y hy=>hgx y (hx.mem_iff.2 hy),hx.mem_iff]
 have e2:XI YK S=XI YK ((Yd (ps.map Ym)).filterMap (X8 op)):=serI.unique (fun _ _=>trivial) (serI.set_asc fun _ _=>trivial) (serI.set_asc fun _ _=>trivial) fun x=>by
  rw[serI.set_mem fun _ _=>trivial,serI.set_mem fun _ _=>trivial,hV]
 have hnd:(XI YK S).Nodup:=(serI.set_asc (l:=S) fun _ _=>trivial).imp fun{a b} h e=>by subst e;rw[serI.self trivial]at h;omega
 have hle:(XI YK S).length≤1000:=Ux (YL hnd fun x hx=>(serI.set_mem (fun _ _=>trivial) x).1 hx) h2;rw[e1,Zqt hfit];refine⟨?_,by simpa using hle,hgx⟩;unfold Za3 Znk;rw[←e2,if_neg om]
def Znu{op:Str}(h:(Yd (ps.map Ym)).foldlM (J4 op) []=none):Za3 op ps=none:=by
 obtain⟨T,h1,h2,h3⟩:=ZaW Gz h;have:=YL (q:=XI YK ((Yd (ps.map Ym)).filterMap (X8 op))) h1 fun x hx=>(serI.set_mem (fun _ _=>trivial) x).2 (by have:=h3 x hx;simpa using this)
 unfold Za3 Znk;rw[if_pos om]
end
end Go.Proofs.YtmdeagmbfhbbnaaGreatDoorR

namespace Go.Abs
open Go.Proofs.YtmdeagmbfhbbnaaGreatDoorR
section
variable {S S':List Str}
def ZfA(h:∀n,n∈S↔n∈S')(l:List Str):WX S l=WX S' l:=by
 unfold WX;congr 1
 funext n;exact decide_eq_decide.2 (h n)
def ZiC(h:∀n,n∈S↔n∈S'):YZ S=YZ S':=by
 funext x;unfold YZ;simp only[ZfA h]
def ZkV(h:∀n,n∈S↔n∈S')(l:List Lt):WZ S l=WZ S' l:=by unfold WZ;rw[ZiC h]
def Zc6(h:∀n,n∈S↔n∈S'):XW S=XW S':=by funext x;unfold XW;rw[ZfA h]
def plG:Nat→List Str→List Lt→List (Stp×Lt)×List Str×List Lt
 |0,S,l=>([],S,l)
 |f+1,S,l=>match WZ S l with
  |none=>([],S,l)
  |some (s,x,r)=>let p:=plG f (ZM S (ZE x)) r;((s,x)::p.1,p.2)
def plG_planF:∀(f:Nat) (S S':List Str) (l:List Lt),(∀n,n∈S↔n∈S')→(plG f S l).1.map Prod.fst=(planF f S' l).1∧(∀n,n∈(plG f S l).2.1↔n∈(planF f S' l).2.1)∧(plG f S l).2.2=(planF f S' l).2.2
 |0,S,S',l,h=>⟨rfl,h,rfl⟩
 |f+1,S,S',l,h=>by
  unfold plG planF;rw[ZkV h l];cases WZ S' l with
  |none=>exact⟨rfl,h,rfl⟩
  |some p=>
   obtain⟨s,x,r⟩:=p;obtain⟨h1,h2,h3⟩:=plG_planF f (ZM S (ZE x)) (S'++ZE x) r fun n=>by rw[Vo,Qg,h n]
   exact⟨by simp[h1],h2,h3⟩
def ZfZ{f:Lt→Option Stp}{s:Stp}:∀(l:List Lt) (i:Nat) (h:i<l.length),(∀j (h:j<l.length),j<i→f l[j]=none)→f l[i]=some s→Zaq f l=some (s,l[i],l.take i++l.drop (i+1))
 |x::r,0,h,_,e=>by
  simp only[Ue]at e;simp[Zaq,e]
 |x::r,i+1,h,hn,e=>by
  have h0:=hn 0 sm om;simp only[Ue]at h0;have:=ZfZ r i (by simpa using h) (fun j hj hji=>hn (j+1) (by simpa using hj) om) e;simp[Zaq,h0,this]
theorem Zaz{f:Lt→Option Stp}:∀(l:List Lt),(∀j (h:j<l.length),f l[j]=none)→Zaq f l=none
 |[],_=>rfl
 |x::r,hn=>by
  have h0:=hn 0 sm;simp only[Ue]at h0;have:=Zaz r (fun j hj=>hn (j+1) (by simpa using hj));simp[Zaq,h0,this]
variable {s:Stp} {l:List Lt}
def ZnS(i:Nat)(h:i<l.length)(hn:∀j (h:j<l.length),j<i→YZ S l[j]=none)(e:YZ S l[i]=some s):WZ S l=some (s,l[i],l.take i++l.drop (i+1)):=by
 unfold WZ;rw[ZfZ l i h hn e];rfl
def Zl3(i:Nat)(h:i<l.length)(h0:∀j (h:j<l.length),YZ S l[j]=none)(hn:∀j (h:j<l.length),j<i→JE l[j]=none)(e:JE l[i]=some s):WZ S l=some (s,l[i],l.take i++l.drop (i+1)):=by
 unfold WZ;rw[Zaz l h0,ZfZ l i h hn e];rfl
def ZoQ(h0:∀j (h:j<l.length),YZ S l[j]=none)(hn:∀j (h:j<l.length),JE l[j]=none):WZ S l=none:=by
 unfold WZ;rw[Zaz l h0,Zaz l hn];rfl
def ZjZ{x:Lt}{r:List Lt}{f:Nat}(h:WZ S l=some (s,x,r))(hf:l.length=f+1):plG l.length S l=((s,x)::(plG f (ZM S (ZE x)) r).1,(plG f (ZM S (ZE x)) r).2):=by
 rw[hf,plG,h]
theorem Zq2(h:WZ S l=none):plG l.length S l=([],S,l):=by
 cases l with
 |nil=>rfl
 |cons x r=>rw[Qo,plG,h]
end
end Go.Abs

namespace Go.Proofs.YtmdeagmbfhbbnaaGreatDoorR
open Go.Abs
def Zk5(S:List Str)(c:Nat):∃k,k≤S.length∧(∀j,j<k→newV (c+1+j)∈S)∧newV (c+1+k)∉S:=by
 have key:∀f k,f+k=S.length+1→(∀j,j<k→newV (c+1+j)∈S)→ ∃k,k≤S.length∧(∀j,j<k→newV (c+1+j)∈S)∧newV (c+1+k)∉S:=by
  intro f;induction f with
  |zero=>intro k hk h;have:=Zb7 h;omega
  |succ f ih=>
   intro k hk h;by_cases hx:newV (c+1+k)∈S
   ·refine ih (k+1) om fun j hj=>?_
    rcases Qj j k with h'|h'
    ·exact h j h'
    ·have:j=k:=om;subst this;exact hx
   ·exact⟨k,Zb7 h,h,hx⟩
 exact key (S.length+1) 0 om fun j hj=>absurd hj (Qm _)
section
variable {S T:List Str}
def Zkr(h:∀x,x∈S↔x∈T)(c:Nat):XC S c=XC T c:=by
 obtain⟨k,h1,h2,h3⟩:=Zk5 S c;have h2':∀j,j<k→newV (c+1+j)∈T:=fun j hj=>(h _).1 (h2 j hj)
 have h3':newV (c+1+k)∉T:=fun hx=>h3 ((h _).2 hx)
 unfold XC;rw[Zdv h2 h3 om,Zdv h2' h3' (by have:=Zb7 h2';omega)]
def ZnA(h:∀x,x∈S↔x∈T):(∀t c,flT S t c=flT T t c)∧ ∀l c,flT.flTs S l c=flT.flTs T l c:=by
 refine X4 (fun k n s l ih c=>?_) (fun c=>rfl) fun t r h1 h2 c=>?_
 ·by_cases hk:k=5∨k=6
  ·rw[WY hk,WY hk,Zkr h]
  ·rw[WR hk,WR hk,ih c]
 ·simp only[flT.flTs,h1 c,h2]
def Zn2(h:∀x,x∈S↔x∈T)(x:Lt)(c:Nat):flX S x c=flX T x c:=by
 unfold flX;rw[(ZnA h).2]
theorem Zet{S T:List Str}(h:∀x,x∈S↔x∈T):∀(l:List Lt) (c:Nat),flL S l c=flL T l c
 |[],_=>rfl
 |x::r,c=>by rw[flL,flL,Zn2 h,Zet h]
def Zab(S:List Str):List Lt→Nat→Nat
 |[],c=>c
 |x::r,c=>Zab S r (flX S x c).2
def ZfH(S:List Str):∀(p q:List Lt) (c:Nat),flL S (p++q) c=flL S p c++flL S q (Zab S p c)∧Zab S (p++q) c=Zab S q (Zab S p c)
 |[],q,c=>⟨rfl,rfl⟩
 |x::p,q,c=>by
  have:=ZfH S p q (flX S x c).2;simp only[Q9,flL,Zab,this,Ua,and_self]
def ZpE(S:List Str)(l:List Lt)(c i:Nat)(h:i<l.length):flL S (l.take (i+1)) c=flL S (l.take i) c++(flX S l[i] (Zab S (l.take i) c)).1∧Zab S (l.take (i+1)) c=(flX S l[i] (Zab S (l.take i) c)).2:=by
 rw[Qn h];obtain⟨h1,h2⟩:=ZfH S (l.take i) [l[i]] c;rw[h1,h2];simp[flL,Zab]
def Sm.len{x:Lt}(h:Sm x):x.at_.args.length≤305:=by have:=Tm.sz_len x.at_.args;have:=h.at_;omega
def ZqS{x:Lt}(h:Sm x)(c:Nat):(flX S x c).2≤c+305*(S.length+2)∧(flX S x c).1.length≤306:=by
 have h0:=h.at_;unfold flX;split
 ·have:=(ZcM S).2 x.at_.args c;have h2:Tm.sz.szs x.at_.args*(S.length+2)≤305*(S.length+2):=QE _ h0;simp only[Qo,Qv];omega
 ·simp
def ZiE{S:List Str}:∀{l:List Lt},(∀x∈l,Sm x)→ ∀c,Zab S l c≤c+l.length*(305*(S.length+2))∧(flL S l c).length≤l.length*306
 |[],_,c=>by simp[Zab,flL]
 |x::r,h,c=>by
  have h1:=ZqS (S:=S) (h x sm) c;have h2:=ZiE (S:=S) (l:=r) (fun y hy=>h y (by simp[hy])) (flX S x c).2;simp only[Zab,flL,Qd,Qo,QY,QaK];omega
def J7(l:List Lt)(used:List Str):List Str:=ZM (ZM [] used) (l.flatMap fun x=>(Yw x).flatMap Z8)
def Zjc(l:List Lt)(used:List Str):flL (J7 l used) l 0=XR l used:=by
 unfold XR;refine Zet (fun x=>?_) l 0;rw[J7,Vo,Vo];simp
end
end Go.Proofs.YtmdeagmbfhbbnaaGreatDoorR
