/- Variables are taken out of a binding that may be written. -/
import Derived.Test.YtmdeagmbfhbbnaaGreatDoorRQ10
import Derived.Test.YtmdeagmbfhbbnaaGreatDoorRQ06
import Derived.Test.YtmdeagmbfhbbnaaGreatDoorRQ09
import Derived.Test.YtmdeagmbfhbbnaaGreatDoorRQ05
import Derived.Test.YtmdeagmbfhbbnaaGreatDoorRQ07
import Derived.Ground.SlsfProg
import Derived.Shelf.SlGeneric
import Derived.Shelf.SlSortCmp.NoneTotal
import Derived.Shelf.SlSortCmp.WholeK
import Derived.Shelf.SlSortCmp.Whole1
import Derived.Test.YtmdeagmbfhbbnaaGreatDoorRQ08
set_option linter.all false
namespace Go.Proofs.YtmdeagmbfhbbnaaGreatDoorR
open Go.Abs
set_option maxRecDepth 100000
theorem Ztd(x:Str×Tm):(eBd x).cells.length=5:=rfl
theorem Zr5(b:Bnd):∀y∈b.map eBd,y.cells.length=5:=fun y hy=>by obtain⟨x,_,rfl⟩:=Qb.1 hy;rfl
theorem Zeg{n m:Nat}(b:Bnd):Ze.Below n (.Zg 42 5 (flat (b.map eBd)) m):=⟨(XJ fun x hx=>by obtain⟨y,_,rfl⟩:=Qb.1 hx;exact Zfu n y).mem,by simp[Ze.at_]⟩
theorem Zo7(b:Bnd)(j:Nat)(h:j<b.length):((flat (b.map eBd)).drop (j*5)).take 5=(eBd b[j]).cells:=by
 have:=ZiN (Zr5 b) j (by simpa using h);rw[this,QO]
theorem Zis(b:Bnd):(flat (b.map eBd)).length=b.length*5:=by rw[flat_length (Zr5 b),Qv]
def ZuK(l k:Nat)(b:Bnd)(f:Nat)(caps:List AV)(H:Za)(i:Nat):Zb:=
 ⟨[(8,.int .i64 i),(7,.int .i64 b.length),(1,.fn (.func f) caps),(0,.msl 5 l k b.length)],[],H⟩
theorem k95(n:Nat)(H:Za)(l k:Nat)(hl:l<n)(b:Bnd)(hb:b.length≤1000000)(f:Nat)(caps:List AV)(p:Str×Tm→Bool)(m0:Nat)(H0:Za)(hm0:m0≤n)(hag:∀l' k,l'<m0→H l' k=H0 l' k)(hp:Zbi m0 H0 f caps eBd b p)(hH:H l k=some (.Zg 42 5 (flat (b.map eBd)) b.length)):
  PC Tryz.prog n 95 [.msl 5 l k b.length,.fn (.func f) caps] H (.int .i64 (ZcS p b)):=by
 have hne:¬l=n:=by omega
 obtain⟨⟨fn,c,hf⟩,hp,hbl⟩:=hp;have hfi:∀q,Inside n q (.fn (.func f) caps):=fun q=>(Below.fn _ _ fun i hi=>(hbl n hm0).mem _ (Qa hi)).inside
 have hmi:∀q,Inside n q (.msl 5 l k b.length):=fun q=>.msl _ _ _ _ (.inl hl)
 refine aF Tryz.func95 fun B=>?_
 refine nR ?_;refine nR ?_;refine kK ?_;refine Yc (ZuK l k b f caps H) (fun i=>∀j (h:j<b.length),j<i→p b[j]=false) b.length rfl ?_ (fun j _ h=>absurd h (Qm _)) ?_
 ·exact KK
 intro i hi hq;refine Ya rfl ?_;rcases Qg i b.length with h|h
 ·have h1:=Zo7 b i h;have h2:=Zis b;have h3:i*5+5≤b.length*5:=by omega
  refine nq h ?_;refine nT ?_;refine nR ?_;refine nr ?_;simp only[go_sem,simprocAttr,h,hne,hH,h1];refine⟨⟨om,om⟩,?_⟩;refine YD (avs:=[eBd b[i]]) rfl hf (hp b[i] (Qa h) (n+1) _ om fun l' k hlt=>(Zj (show l'<n by omega) _ _ _).trans (hag l' k hlt)) rfl ?_;cases h5:p b[i]with
  |true=>
   refine aS ?_;refine nT ?_;refine nR ?_;refine nW ?_;refine Zc ?_ (.int _ _) rfl;rw[ZaO h h5 hq];exact .refl _
  |false=>
   refine aS ?_;refine nF ?_;refine nR ?_;refine nN ?_;refine⟨fun j hj hji=>?_,?_⟩
   ·rcases Qg j i with h'|h'
    ·exact hq j hj h'
    ·have:j=i:=by omega
     subst this;exact h5
   ·refine Zh ?_ ?_ ?_ ?_<;>repeat' first|apply q0|exact xx|apply aI
    ·refine aS ?_;rw[iw];exact .refl _
    all_goals first|exact hfi _|exact hmi _
 ·refine nq (QE.2 h) ?_;refine nF ?_;refine nX ?_;refine nR ?_;refine nV ?_;refine Zc ?_ (.int _ _) rfl;rw[Vo (fun j hj=>hq j hj om)];exact .refl _
theorem ZnW{α:Type}(p:α→Bool)(b:List α):(ZcS p b= -1∧ ∀x∈b,p x=false)∨ ∃i,∃h:i<b.length,ZcS p b=i∧p b[i]=true∧ ∀j (h:j<b.length),j<i→p b[j]=false:=by
 by_cases h:∃i,∃h:i<b.length,p b[i]=true
 ·right
  have hx:∃x∈b,p x=true:=by obtain⟨i,hi,e⟩:=h;exact⟨_,Qa hi,e⟩
  have hlt:=List.findIdx_lt_length_of_exists hx;refine⟨b.findIdx p,hlt,?_,List.findIdx_getElem (w:=hlt),fun j hj hji=>by simpa using Qbd hji⟩;exact ZaO hlt (List.findIdx_getElem (w:=hlt)) fun j hj hji=>by simpa using Qbd hji
 ·left
  have hn:∀x∈b,p x=false:=fun x hx=>by
   obtain⟨i,hi,rfl⟩:=QJ hx;cases e:p b[i]with
   |false=>rfl
   |true=>exact absurd ⟨i,hi,e⟩ h
  exact⟨Vo fun j hj=>hn _ (Qa hj),hn⟩
def ktB(p:Str×Tm→Bool)(b:Bnd)(j:Nat):Bnd:=(b.take j).filter fun x=>!p x
theorem Zqk(p:Str×Tm→Bool)(b:Bnd)(j:Nat):(ktB p b j).length≤j:=by
 have h1:=UH (fun x=>!p x) (b.take j);have h2:(b.take j).length≤j:=by rw[QI];omega
 exact Uw h1 h2
theorem ZjB(p:Str×Tm→Bool)(b:Bnd)(j:Nat)(h:j<b.length):ktB p b (j+1)=ktB p b j++if p b[j]=true then []else [b[j]]:=by
 unfold ktB;rw[Qn h,QaU];cases e:p b[j]<;>simp[e]
def Zq9(l k:Nat)(b:Bnd)(f:Nat)(caps:List AV)(p:Str×Tm→Bool)(H:Za)(j:Nat):Zb:=
 ⟨[(6,.int .i64 j),(5,.int .i64 (ktB p b j).length),(0,.msl 5 l k b.length),(1,.fn (.func f) caps)],[],H.upd l k (.Zg 42 5 (flat ((mix (ktB p b j) b).map eBd)) b.length)⟩
def zBd:AV:=.agg [.str [],.int .u8 0,.int .i64 0,.str [],.sl 4 [] .full]
theorem ZmX{n:Nat}:Yi (fun c=>Below n c) zBd.cells:=⟨.str _,.int _ _,.int _ _,.str _,YT (fun _ h=>by cases h) (fun _ _ e=>by cases e),trivial⟩
def ZsN(n l k:Nat)(b:Bnd)(p:Str×Tm→Bool)(H:Za)(r:AV)(H':Za):Prop:=
 (r= .msl 5 l k b.length∧H'=H∧ktB p b b.length=b)∨
 (r= .sub 5 l k b.length 0 (ktB p b b.length).length∧0<b.length∧H'=H.upd l k (.Zg 42 5 (flat ((ktB p b b.length).map eBd++List.replicate (b.length - (ktB p b b.length).length) zBd)) b.length))
def u45:Opt:=⟨false,false,fun d=>if d=38 then .heap else .auto,[]⟩
theorem k45(n:Nat)(H:Za)(l k:Nat)(hl:l<n)(b:Bnd)(hb:b.length≤1000000)(f:Nat)(caps:List AV)(p:Str×Tm→Bool)(m0:Nat)(H0:Za)(hm0:m0≤l)(hag:∀l' k,l'<m0→H l' k=H0 l' k)(hp:Zbi m0 H0 f caps eBd b p)(hH:H l k=some (.Zg 42 5 (flat (b.map eBd)) b.length)):
  Zi Tryz.prog n 45 [.msl 5 l k b.length,.fn (.func f) caps] H (ZsN n l k b p H):=by
 have hne:¬l=n:=by omega
 have hI:=k95 (n+1) (full n [] H) l k om b hb f caps p m0 H0 om (fun l' k hlt=>(Zj (show l'<n by omega) _ _ _).trans (hag l' k hlt)) hp (by rw[Zj hl];exact hH);obtain⟨⟨fn,c,hf⟩,hp,hbl⟩:=hp;have hfi:∀q,Inside n q (.fn (.func f) caps):=fun q=>(Below.fn _ _ fun i hi=>(hbl n om).mem _ (Qa hi)).inside
 have hmi:∀q,Inside n q (.msl 5 l k b.length):=fun q=>.msl _ _ _ _ (.inl hl)
 refine aF Tryz.func45 fun B=>?_
 refine nR ?_;refine nR ?_;refine cQ hI ?_;rcases ZnW p b with⟨e,hno⟩|⟨i0,hi0,e,hpi,hq⟩
 ·rw[e];refine aS ?_;refine nR ?_;refine nT ?_;refine nR ?_;refine nV ?_;refine Zo (.refl _) (.msl _ _ _ _ hl) (.inl ⟨rfl,rfl,?_⟩);unfold ktB;rw[QM,List.filter_eq_self.2 fun x hx=>by rw[hno x hx];rfl]
 ·rw[e];have hne1:((i0:Int)== -1)=false:=by simp
  refine aS ?_;refine nq hne1 ?_;refine nF ?_;refine nR ?_;refine kK ?_;have hk0:ktB p b (i0+1)=b.take i0:=by
   rw[ZjB p b i0 hi0,if_pos hpi,Qu];unfold ktB;refine List.filter_eq_self.2 fun x hx=>?_
   obtain⟨j,hj,rfl⟩:=QJ hx;rw[Gj,hq j (by rw[QI]at hj;omega) (by rw[QI]at hj;omega)];rfl
  have hl0:(b.take i0).length=i0:=by rw[QI];omega
  have hm0:mix (b.take i0) b=b:=by unfold mix;rw[hl0,QX]
  refine Zr (fun i=>Zq9 l k b f caps p H (i0+1+i)) (b.length - (i0+1)) rfl ?_ ?_
  ·unfold Zq9;rw[UD,hk0,hl0,hm0,Yd hH];exact KK
  intro i hi;refine Ya rfl ?_;obtain⟨j,hj⟩:∃j,j=i0+1+i:=⟨_,rfl⟩
  rw[show i0+1+(i+1)=j+1 by omega,←hj];have hjl:=Zqk p b j;rcases Qg j b.length with h|h
  ·have hml:=Zfx (kept:=ktB p b j) (xs:=b) om;have h1:=Zo7 (mix (ktB p b j) b) j om;rw[ZdZ j hjl om h]at h1;have h2:=Zis (mix (ktB p b j) b);rw[hml]at h2;have hs:=ZjB p b j h;have hup:H.upd l k (.Zg 42 5 (flat ((mix (ktB p b j) b).map eBd)) b.length) l k=some (.Zg 42 5 (flat ((mix (ktB p b j) b).map eBd)) b.length):=Za.upd_same _ _ _ _;refine nq h ?_;refine nT ?_;refine nr ?_;simp only[go_sem,simprocAttr,h,hne,hup,h1];refine⟨⟨om,om⟩,?_⟩;refine nR ?_;refine YD (avs:=[eBd b[j]]) rfl hf (hp b[j] (Qa h) (n+1) _ om fun l' k hlt=>?_) rfl ?_
   ·rw[Zj (show l'<n by omega)];simp only[Za.upd,show¬l'=l by omega,false_and,if_false];exact hag l' k hlt
   cases h5:p b[j]with
   |true=>
    rw[h5,if_pos rfl,Qu]at hs;refine aS ?_;refine nF ?_;refine nR ?_;refine nN ?_;refine⟨om,?_⟩;unfold Zq9;rw[hs];refine Zh ?_ ?_ ?_ ?_<;>repeat' first|apply q0|exact xx|apply aI
    ·refine aS ?_;rw[iw];exact .refl _
    all_goals first|exact hfi _|exact hmi _
   |false=>
    rw[h5,if_neg sm]at hs;have hkl:(ktB p b j).length<b.length:=by omega
    have hsp:=ZcQ eBd Ztd (kept:=ktB p b j) (xs:=b) b[j] hkl;rw[←hs]at hsp;simp only[go_sem,simprocAttr]at hsp;refine aS ?_;refine nT ?_;refine nr ?_;simp only[go_sem,simprocAttr,hne,hup,hkl,hsp];refine⟨⟨om,om⟩,.inr (Zeg _),?_⟩;rw[Za.Zas];refine nR ?_;refine nR ?_;refine nN ?_;refine⟨om,?_⟩;unfold Zq9;have hsl:(ktB p b (j+1)).length=(ktB p b j).length+1:=by rw[hs];simp
    rw[hsl];refine Zh ?_ ?_ ?_ ?_<;>repeat' first|apply q0|exact xx|apply aI
    ·refine aS ?_;rw[iw];exact .refl _
    ·refine aS ?_;rw[iw];exact .refl _
    all_goals first|exact hfi _|exact hmi _
  ·have hj':j=b.length:=by omega
   subst hj';have hml:=Zfx (kept:=ktB p b b.length) (xs:=b) hjl;have hlt:(ktB p b b.length).length<b.length:=by
    have h1:ktB p b b.length=ktB p b (i0+1)++(b.drop (i0+1)).filter fun x=>!p x:=by
     unfold ktB;rw[QM,←QaU,QX]
    have h2:=UH (fun x=>!p x) (b.drop (i0+1));rw[h1,hk0,Qh,hl0];rw[QL]at h2;omega
   generalize hK:ktB p b b.length=K at hjl hml hlt;refine nr ?_;refine aq (QE.2 h) ?_;refine nF ?_;refine nX ?_;repeat refine kn rfl ?_
   refine YK tok u45 rfl rfl (by kernel_rfl) ?_;simp only[go_sem,simprocAttr,u45];have hHM:∀L G,(∀j,G l j=(H.upd l k (.Zg 42 5 (flat ((mix K b).map eBd)) b.length)) l j)→full n L G l k=some (.Zg 42 5 (flat ((mix K b).map eBd)) b.length):=fun L G h=>(Zj hl _ _ _).trans ((h k).trans (by simp[Za.upd]))
   refine Step.look (v:=.sub 5 l k b.length K.length (b.length - K.length)) (XT (a:=K.length) (h:=(b.length:Int)) tok rfl rfl rfl rfl rfl (hHM _ _ fun _=>rfl) rfl rfl ?_ ?_ ?_ ?_ ?_) ?_
   ·omega
   ·omega
   ·omega
   ·omega
   ·rw[if_pos om];rfl
   refine aS ?_;refine Step.turn (l:=l) (k:=k) (b:=.Zg 42 5 (flat (K.map eBd++List.replicate (b.length - K.length) zBd)) b.length) (Jk tok rfl rfl rfl rfl rfl rfl (hHM _ _ fun _=>rfl) ?_ rfl ?_ ?_) (.inr ?_) ?_
   ·decide
   ·omega
   ·exact Zbz eBd Ztd (z:=zBd) rfl hjl
   ·refine⟨(XJ fun x hx=>?_).mem,by simp[Ze.at_]⟩;rcases Qj.1 hx with hx|hx
    ·obtain⟨y,_,rfl⟩:=Qb.1 hx;exact Zfu n y
    ·rw[(Ug.1 hx).2];exact Xb ZmX.mem
   simp only[go_sem,simprocAttr,hne,Za.Zas];refine nr ?_;simp only[go_sem,simprocAttr,hne,Za.upd_same];refine⟨⟨om,om⟩,?_⟩;refine nV ?_;exact Zo (v:=.sub 5 l k b.length 0 K.length) (.refl _) (.sub _ _ _ _ _ _ hl) (.inr ⟨by rw[hK],om,by rw[hK]⟩)
theorem k47(n:Nat)(H:Za)(l mk:Nat)(hl:l<n)(S:List Str)(hm:H l mk=some (.map (encS S)))(x:Str×Tm):PC Tryz.prog n 47 [eBd x,.iptr [.map l mk]] H (.bool (!decide (x.1∈S))):=by
 have hh:Va S [x.1]=decide (x.1∈S):=by simp[Va]
 refine aF Tryz.func47 fun B=>?_
 refine nR ?_;refine nR ?_;refine⟨rfl,?_⟩;refine cQ (Zi.args (j48 (n+1) _ l mk om S [x.1] sm ((Zj hl _ _ _).trans hm)) (args':=[.map l mk,.sl 1 [.str x.1] .full]) ⟨.refl _,.any _ _ _,trivial⟩) ?_;refine aq hh ?_;exact pB
theorem ZkA{cs us:List AV}{off:Nat}(h:(cs.drop off).take us.length=us):splice cs off us=cs:=by
 unfold splice;rw[←UF]
 conv=>rhs;rw[←QX off cs,←QX us.length (cs.drop off),h]
theorem ZrI(b:Bnd)(j:Nat)(h:j<b.length):((flat (b.map eBd)).drop (j*5+1)).take 4=b[j].2.cs:=by
 have:=Zo7 b j h;rw[←UF];have h2:((((flat (b.map eBd)).drop (j*5)).take 5).drop 1)=((eBd b[j]).cells).drop 1:=by rw[this]
 rw[QaT]at h2;exact h2
def ZtL(n l mk:Nat)(K:Bnd)(H:Za)(i:Nat):Zb:=
 ⟨[(11,.int .i64 i),(10,.int .i64 K.length),(0,.msl 5 n 200 K.length),(1,.iptr [.map l mk])],[(200,.Zg 42 5 (flat (K.map eBd)) K.length)],H⟩
theorem k44(n:Nat)(H:Za)(hT:Tabs H)(hn:0<n)(l mk:Nat)(hl:l<n)(S:List Str)(hm:H l mk=some (.map (encS S)))(b:Bnd)(hb:b.length≤1000000)(hg:∀q∈b,q.2.Good):
  PC Tryz.prog n 44 [Zk b,.iptr [.map l mk]] H (Zk (Jb S b)):=by
 have hne:¬l=n:=by omega
 have hK:ktB (fun x=>!decide (x.1∈S)) b b.length=Jb S b:=by
  unfold ktB Jb;rw[QM];congr 1
  funext x;simp
 have hbe:Zkv 5 n (b.map eBd):=⟨by simpa using hb,fun y hy=>by obtain⟨x,_,rfl⟩:=Qb.1 hy;exact⟨rfl,rfl,Zfu n x⟩⟩
 have hmi:∀q,Inside n q (.iptr [.map l mk]):=fun q=>(Zl (cs:=[.map l mk]) ⟨.map _ _ hl,trivial⟩).inside
 refine aF Tryz.func44 fun B=>?_
 refine nR ?_;refine nR ?_;refine YW (caps:=[]) (avs:=[.sl 5 (b.map eBd) .any]) rfl (Zf Tryz.func46 rfl rfl) (k46 (n+1) _ (b.map eBd) n 200 (Qr n) sS hbe) (by simp only[go_sem,simprocAttr];rfl) ?_;rintro r H1 ⟨rfl,rfl⟩;refine⟨[(200,.Zg 42 5 (flat (b.map eBd)) (b.map eBd).length)],H,(Zm n _ H 200 _).symm,.refl _ _,?_⟩;refine aS ?_;refine YW (caps:=[]) (avs:=[.msl 5 n 200 b.length,.fn (.func 47) [.iptr [.map l mk]]]) rfl (Zf Tryz.func45 rfl rfl)
  (k45 (n+1) _ n 200 (Qr n) b hb 47 [.iptr [.map l mk]] (fun x=>!decide (x.1∈S)) n _ (Qe n) (fun _ _ _=>rfl) ⟨⟨_,_,Zf Tryz.func47 rfl rfl⟩,fun x hx m G hm' hG=>k47 m G l mk om S ((hG _ _ hl).trans ((Zj hl _ _ _).trans hm)) x,fun m hm'=>⟨Zl (cs:=[.map l mk]) ⟨.map _ _ om,trivial⟩,trivial⟩⟩ sS) sS ?_
 rintro r H1 hq;unfold ZsN at hq;rw[hK]at hq;generalize hKK:Jb S b=K at hq⊢;have hgK:∀q∈K,q.2.Good:=fun q hq=>hg q (by rw[←hKK]at hq;exact(MH.1 hq).1)
 have hlK:K.length≤1000000:=by rw[←hKK];exact Uw (UH _ _) hb
 have hmb:∀q m,Ze.Inside n q (.Zg 42 5 (flat (K.map eBd)) m):=fun q m=>⟨fun c hc=>((Zeg (n:=n) (m:=m) K).1 c hc).inside,by simp[Ze.at_]⟩
 have hms:∀q:Nat→Prop,q 200→Inside n q (.msl 5 n 200 K.length):=fun q h=>.msl _ _ _ _ (.inr ⟨rfl,h⟩)
 have hal:∀q,Yi (fun c=>Inside n q c) (flat (K.map eBd)):=fun q=>Z5 fun c hc=>((Zeg (n:=n) (m:=0) K).1 c hc).inside
 have main:AKc ⟨Tryz.prog,tt,⟨none,B⟩,n,Tryz.f44.ntmps⟩ [.code (ZQ Tryz.f44).snd.snd] (PostF Tryz.prog tt n Tryz.f44.results.toList fun r' H'=>r'=Zk K∧H'=H)
   ⟨[(0,.msl 5 n 200 K.length),(1,.iptr [.map l mk])],[(200,.Zg 42 5 (flat (K.map eBd)) K.length)],H⟩:=by
  refine nR ?_;refine kK ?_;refine Zr (ZtL n l mk K H) K.length rfl ?_ ?_
  ·exact KK
  intro i hi;refine Ya rfl ?_;rcases Qg i K.length with h|h
  ·have h1:=ZrI K i h;have h2:=Zis K;have hss:splice (flat (K.map eBd)) (i*5+1) K[i].2.cs=flat (K.map eBd):=ZkA (by rw[show K[i].2.cs.length=4 from rfl];exact h1);simp only[go_sem,simprocAttr]at hss;refine nq h ?_;refine nT ?_;refine nR ?_;refine nq2 h h1 ?_;refine⟨⟨om,om⟩,?_⟩;refine cT (j49 K[i].2 (hgK _ (Qa h))) ?_;refine aq2 h hss ?_;refine⟨⟨om,om⟩,?_⟩;refine nR ?_;refine nN ?_;unfold ZtL;refine Zh ?_ ?_ ?_ ?_<;>repeat' first|apply q0|exact xx|apply aI
   ·refine aS ?_;rw[iw];exact .refl _
   all_goals first|exact hmi _|exact hmb _ _|exact hms _ rfl|exact hal _
  ·have hi':i=K.length:=by omega
   subst hi';refine nq (QE.2 h) ?_;refine nF ?_;refine nX ?_;refine kK ?_;refine ZK (Xp (tm':=[(0,.sl 5 (K.map eBd) .any)]) (j:=200) (K.map eBd) rfl rfl sm (Zr5 K) (hal _).mem (fun p hp=>?_) (fun p hp=>?_)) ?_
   ·simp only[Ql]at hp;subst hp;exact .inr ⟨5,rfl,rfl⟩
   ·simp[delb]at hp
   refine nR ?_;refine nV ?_;exact Zc (.refl _) (Zx n K) rfl
 rcases hq with⟨rfl,rfl,hKb⟩|⟨rfl,hpos,rfl⟩
 ·refine⟨[(200,.Zg 42 5 (flat (b.map eBd)) b.length)],H,rfl,.refl _ _,?_⟩;refine aS ?_;have e:b=K:=hKb.symm;refine ZK ?_ main;rw[←e]at hms hmb hal⊢;exact KK
 ·refine⟨[(200,.Zg 42 5 (flat (K.map eBd++List.replicate (b.length - K.length) zBd)) b.length)],H,(Zm n _ H 200 _).symm,.refl _ _,?_⟩;refine aS ?_;have hfk:(flat (K.map eBd++List.replicate (b.length - K.length) zBd)).take (K.length*5)=flat (K.map eBd):=by
   rw[YU,MW (Zis K)]
  have hKl:K.length≤b.length:=by rw[←hKK];exact UH _ _
  have ht:=ZgE (n:=n) (N:=Tryz.f44.ntmps) (m:=K.length) (tm':=[(0,.msl 5 n 200 K.length),(1,.iptr [.map l mk])]) (j:=200) (e:=42) (sz:=5) (i:=b.length) (H:=H)
   (L:=[(200,.Zg 42 5 (flat (K.map eBd++List.replicate (b.length - K.length) zBd)) b.length)])
   (tm:=[(0,.sub 5 n 200 b.length 0 K.length),(8,.sub 5 n 200 b.length 0 K.length),(7,.fn (.func 47) [.iptr [.map l mk]]),(6,.msl 5 n 200 b.length),(5,Zk b),(3,.sl 5 [] .full),(0,Zk b),(1,.iptr [.map l mk])]) hpos hKl rfl ?_ ?_ ?_
  ·rw[hfk]at ht;exact ZK ht main
  ·intro c hc;rw[YU,Qj]at hc;rcases hc with hc|hc
   ·exact(hal _).mem c hc
   ·obtain⟨z,hz,hc⟩:=Qz.1 hc;rw[(Ug.1 hz).2]at hc;exact((ZmX (n:=n)).mem c hc).inside
  ·intro p hp;simp only[Qk,Qy,or_false]at hp;rcases hp with rfl|rfl
   ·exact .inr ⟨5,5,rfl,rfl⟩
   ·exact .inl ⟨.refl _,hmi _⟩
  ·intro p hp;simp[delb]at hp
theorem ZgD{α:Type}(c:α→α→Int)(xs:List α)(a:Nat):∀m,(kpt c xs (a+m)).length≤(kpt c xs a).length+m
 |0=>Qe _
 |m+1=>by
  have:=ZgD c xs a m;rw[←MQ,kpt,Qh];split
  ·split<;>simp<;>omega
  ·simp;omega
theorem ZhX{α:Type}(c:α→α→Int)(xs:List α)(m:Nat)(h:m<xs.length)(h0:0<m)(e:c xs[m] xs[m - 1]=0):kpt c xs (m+1)=kpt c xs m:=by
 rw[kpt,dif_pos h,if_neg (by simp only[e];omega),Qu]
theorem Zo3{α:Type}(c:α→α→Int)(xs:List α)(m:Nat)(h:m<xs.length)(e:c xs[m] xs[m - 1]≠0):kpt c xs (m+1)=kpt c xs m++[xs[m]]:=by
 rw[kpt,dif_pos h,if_pos (.inr e)]
theorem ZmG(l:List Bnd):∀y∈l.map Zk,y.cells.length=1:=fun y hy=>by obtain⟨x,_,rfl⟩:=Qb.1 hy;rfl
theorem ZhJ{n m:Nat}(l:List Bnd):Ze.Below n (.Zg 34 1 (flat (l.map Zk)) m):=⟨(XJ fun x hx=>by obtain⟨y,_,rfl⟩:=Qb.1 hx;exact Zx n y).mem,by simp[Ze.at_]⟩
theorem ZmB(l:List Bnd)(j:Nat)(h:j<l.length):((flat (l.map Zk)).drop (j*1)).getD 0 .dead=Zk l[j]:=by
 have:=ZiN (ZmG l) j (by simpa using h);rw[QO]at this;have h2:=congrArg (fun q:List AV=>q.getD 0 .dead) this;simp only[Qp]at h2⊢;rw[QV om]at h2;exact h2
theorem ZpT(l:List Bnd):(flat (l.map Zk)).length=l.length*1:=by rw[flat_length (ZmG l),Qv]
def zBn:AV:=.sl 5 [] .full
def Zul(l k:Nat)(xs:List Bnd)(H:Za)(r:AV)(H':Za):Prop:=
 (r= .msl 1 l k xs.length∧H'=H∧kpt YJ xs xs.length=xs)∨
 (r= .sub 1 l k xs.length 0 (kpt YJ xs xs.length).length∧0<xs.length∧(kpt YJ xs xs.length).length≤xs.length∧H'=H.upd l k (.Zg 34 1 (flat ((kpt YJ xs xs.length).map Zk++List.replicate (xs.length - (kpt YJ xs xs.length).length) zBn)) xs.length))
def u52:Opt:=⟨false,false,fun d=>if d=31∨d=61 then .heap else .auto,[]⟩
def Zs1(l k:Nat)(xs:List Bnd)(H:Za)(j:Nat):Zb:=⟨[(5,.int .i64 j),(0,.msl 1 l k xs.length),(1,.fn (.func 53) [])],[],H⟩
def Zmy(l k:Nat)(xs:List Bnd)(H:Za)(j m:Nat):Zb:=
 ⟨[(7,.int .i64 m),(6,.sub 1 l k xs.length j (xs.length - j)),(5,.int .i64 (kpt YJ xs (j+m)).length),(0,.msl 1 l k xs.length),(1,.fn (.func 53) [])],[],H.upd l k (.Zg 34 1 (flat ((mix (kpt YJ xs (j+m)) xs).map Zk)) xs.length)⟩
theorem k52(n:Nat)(H:Za)(l k:Nat)(hl:l<n)(xs:List Bnd)(hx:xs.length≤1000000)(hb:∀b∈xs,b.length≤1000000∧ ∀q∈b,q.2.Good)(hH:H l k=some (.Zg 34 1 (flat (xs.map Zk)) xs.length)):
  Zi Tryz.prog n 52 [.msl 1 l k xs.length,.fn (.func 53) []] H (Zul l k xs H):=by
 have hne:¬l=n:=by omega
 have hmi:∀q,Inside n q (.msl 1 l k xs.length):=fun q=>.msl _ _ _ _ (.inl hl)
 have hms:∀q a b,Inside n q (.sub 1 l k xs.length a b):=fun q a b=>.sub _ _ _ _ _ _ (.inl hl)
 have heq:∀i j (h:i<xs.length) (h':j<xs.length),Pure Tryz.prog 53 [Zk xs[i],Zk xs[j]] (.bool (YJ xs[i] xs[j]==0)):=fun i j h h'=>
  k53 _ _ (hb _ (Qa h)).1 (hb _ (Qa h')).1 (hb _ (Qa h)).2 (hb _ (Qa h')).2
 refine aF Tryz.func52 fun B=>?_
 refine nR ?_;refine nR ?_;by_cases h2:xs.length<2
 ·have h2':((xs.length:Int)<2):=by omega
  refine VK rfl rfl (by simp only[go_sem,simprocAttr,h2']) ?_;refine nR ?_;refine nV ?_;refine Zo (.refl _) (.msl _ _ _ _ hl) (.inl ⟨rfl,rfl,?_⟩);rw[Za0 YJ xs _ (Qe _) fun i h h' h0=>by omega,QM]
 have h2':¬((xs.length:Int)<2):=by omega
 refine VB rfl rfl (by simp only[go_sem,simprocAttr,h2']) ?_;refine nR ?_;refine kK ?_;refine Yc (fun i=>Zs1 l k xs H (1+i)) (fun i=>∀j (h:j<xs.length),j<1+i→0<j→YJ xs[j] xs[j - 1]≠0) (xs.length - 1) rfl ?_ (fun j h h1 h0=>by omega) ?_
 ·exact KK
 intro i hi hq;obtain⟨j,hj⟩:∃j,j=1+i:=⟨_,rfl⟩
 rw[show 1+(i+1)=j+1 by omega,←hj];rw[←hj]at hq;have hj0:0<j:=by omega
 refine Ya rfl ?_;rcases Qg j xs.length with h|h
 ·have h1:=ZmB xs j h;have h3:=ZmB xs (j - 1) om;have hln:=ZpT xs;have hw:IntKind.i64.wrap ((j:Int) - 1)=((j - 1:Nat):Int):=by rw[show(j:Int) - 1=((j - 1:Nat):Int) by omega];exact iw
  have hj1:j - 1<xs.length:=by omega
  refine nq h ?_;refine nT ?_;refine nD drawO ?_;simp only[go_sem,simprocAttr,h,hne,hH,h1,h3,hw,hj1];refine⟨⟨om,om,om⟩,⟨om,om,om⟩,?_⟩;refine YD (avs:=[Zk xs[j],Zk xs[j - 1]]) rfl (Zf Tryz.func53 rfl rfl) (heq j (j - 1) h hj1 _ _) rfl ?_;cases hc:(YJ xs[j] xs[j - 1]==0)with
  |false=>
   have hc':YJ xs[j] xs[j - 1]≠0:=by simpa using hc
   refine aq hc ?_;refine nF ?_;refine nR ?_;refine nN ?_;refine⟨om,fun j' h' hlt h0'=>?_,?_⟩
   ·rcases Qg j' j with h5|h5
    ·exact hq j' h' h5 h0'
    ·have:j'=j:=by omega
     subst this;exact hc'
   ·refine Zh ?_ ?_ ?_ ?_<;>repeat' first|apply q0|exact xx|apply aI
    ·refine aS ?_;rw[iw];exact .refl _
    all_goals exact hmi _
  |true=>
   have hc':YJ xs[j] xs[j - 1]=0:=by simpa using hc
   have hkj:kpt YJ xs j=xs.take j:=Za0 YJ xs j om hq;have hkj1:kpt YJ xs (j+1)=xs.take j:=by rw[ZhX YJ xs j h hj0 hc',hkj]
   have htl:(xs.take j).length=j:=by rw[QI];omega
   simp only[go_sem,simprocAttr,hc];refine nT ?_;repeat refine kn rfl ?_
   refine YK tok u52 rfl rfl (by kernel_rfl) ?_;simp only[go_sem,simprocAttr,u52];refine Step.look (v:=.sub 1 l k xs.length j (xs.length - j)) (XT (a:=j) (h:=(xs.length:Int)) tok rfl rfl rfl rfl rfl ((Zj hl _ _ _).trans hH) rfl rfl ?_ ?_ ?_ ?_ ?_) ?_
   ·omega
   ·omega
   ·omega
   ·omega
   ·rw[if_pos om];rfl
   refine aS ?_;refine nR ?_;refine kK ?_;refine Zr (fun m=>Zmy l k xs H j (1+m)) (xs.length - j - 1) rfl ?_ ?_
   ·unfold Zmy;rw[UD,hkj1,htl,show mix (xs.take j) xs=xs by unfold mix;rw[htl,QX],Yd hH];exact KK
   intro m hm;obtain⟨r,hr⟩:∃r,r=1+m:=⟨_,rfl⟩
   rw[show 1+(m+1)=r+1 by omega,←hr];refine Ya rfl ?_;have hkl:(kpt YJ xs (j+r)).length≤j+r - 1:=by
    have:=ZgD YJ xs (j+1) m;rw[hkj1,htl,show j+1+m=j+r by omega]at this;omega
   generalize hK:kpt YJ xs (j+r)=K at hkl;have hup:H.upd l k (.Zg 34 1 (flat ((mix K xs).map Zk)) xs.length) l k=some (.Zg 34 1 (flat ((mix K xs).map Zk)) xs.length):=Za.upd_same _ _ _ _;rcases Qg (j+r) xs.length with h5|h5
   ·have hml:=Zfx (kept:=K) (xs:=xs) om;have g1:=ZmB (mix K xs) (j+r) om;rw[ZdZ (j+r) om om h5]at g1;have g2:=ZmB (mix K xs) (j+r - 1) om;rw[ZdZ (j+r - 1) om om om]at g2;have g3:=ZpT (mix K xs);rw[hml]at g3;have hrl:r<xs.length - j:=by omega
    have hr1:r - 1<xs.length - j:=by omega
    have hwr:IntKind.i64.wrap ((r:Int) - 1)=((r - 1:Nat):Int):=by rw[show(r:Int) - 1=((r - 1:Nat):Int) by omega];exact iw
    have er:j+(r - 1)=j+r - 1:=by omega
    refine nq hrl ?_;refine nT ?_;refine nD drawO ?_;simp only[go_sem,simprocAttr,hrl,hne,hup,g1,g2,hwr,hr1,er];refine⟨⟨om,om,om⟩,⟨om,om,om⟩,?_⟩;refine YD (avs:=[Zk xs[j+r],Zk xs[j+r - 1]]) rfl (Zf Tryz.func53 rfl rfl) (heq (j+r) (j+r - 1) h5 om _ _) rfl ?_;cases hd:(YJ xs[j+r] xs[j+r - 1]==0)with
    |true=>
     have hd':YJ xs[j+r] xs[j+r - 1]=0:=by simpa using hd
     have hk2:kpt YJ xs (j+(r+1))=K:=by rw[←MQ,ZhX YJ xs (j+r) h5 om hd',hK]
     refine aq hd ?_;refine nF ?_;refine nR ?_;refine nN ?_;refine⟨om,?_⟩;unfold Zmy;rw[hk2];refine Zh ?_ ?_ ?_ ?_<;>repeat' first|apply q0|exact xx|apply aI
     ·refine aS ?_;rw[iw];exact .refl _
     all_goals first|exact hmi _|exact hms _ _ _
    |false=>
     have hd':YJ xs[j+r] xs[j+r - 1]≠0:=by simpa using hd
     have hk2:kpt YJ xs (j+(r+1))=K++[xs[j+r]]:=by rw[←MQ,Zo3 YJ xs (j+r) h5 hd',hK]
     have hKl:K.length<xs.length:=by omega
     have hsp:=ZcQ Zk (fun _=>rfl) (kept:=K) (xs:=xs) xs[j+r] hKl;simp only[go_sem,simprocAttr]at hsp;refine aq hd ?_;refine nT ?_;refine nr ?_;simp only[go_sem,simprocAttr,hrl,hne,hup,g1,hKl,hsp];refine⟨⟨om,om,om⟩,⟨om,om⟩,.inr (ZhJ _),?_⟩;rw[Za.Zas];refine nR ?_;refine nR ?_;refine nN ?_;refine⟨om,?_⟩;unfold Zmy;rw[hk2,Qh,G8];refine Zh ?_ ?_ ?_ ?_<;>repeat' first|apply q0|exact xx|apply aI
     ·refine aS ?_;rw[iw];exact .refl _
     ·refine aS ?_;rw[iw];exact .refl _
     all_goals first|exact hmi _|exact hms _ _ _
   ·have hre:j+r=xs.length:=by omega
    have hKx:kpt YJ xs xs.length=K:=by rw[←hre];exact hK
    have hrl:¬r<xs.length - j:=by omega
    have hKl:K.length<xs.length:=by omega
    refine nr ?_;refine aq hrl ?_;refine nF ?_;refine nX ?_;repeat refine kn rfl ?_
    refine YK tok u52 rfl rfl (by kernel_rfl) ?_;simp only[go_sem,simprocAttr,u52];have hHM:∀L G,(∀j,G l j=(H.upd l k (.Zg 34 1 (flat ((mix K xs).map Zk)) xs.length)) l j)→full n L G l k=some (.Zg 34 1 (flat ((mix K xs).map Zk)) xs.length):=fun L G h=>(Zj hl _ _ _).trans ((h k).trans (by simp[Za.upd]))
    refine Step.look (v:=.sub 1 l k xs.length K.length (xs.length - K.length)) (XT (a:=K.length) (h:=(xs.length:Int)) tok rfl rfl rfl rfl rfl (hHM _ _ fun _=>rfl) rfl rfl ?_ ?_ ?_ ?_ ?_) ?_
    ·omega
    ·omega
    ·omega
    ·omega
    ·rw[if_pos om];rfl
    refine aS ?_;refine Step.turn (l:=l) (k:=k) (b:=.Zg 34 1 (flat (K.map Zk++List.replicate (xs.length - K.length) zBn)) xs.length) (Jk tok rfl rfl rfl rfl rfl rfl (hHM _ _ fun _=>rfl) ?_ rfl ?_ ?_) (.inr ?_) ?_
    ·decide
    ·omega
    ·exact Zbz Zk (fun _=>rfl) (z:=zBn) rfl om
    ·refine⟨(XJ fun x hx=>?_).mem,by simp[Ze.at_]⟩;rcases Qj.1 hx with hx|hx
     ·obtain⟨y,_,rfl⟩:=Qb.1 hx;exact Zx n y
     ·rw[(Ug.1 hx).2];exact YT (fun _ h=>by cases h) (fun _ _ e=>by cases e)
    simp only[go_sem,simprocAttr,hne,Za.Zas];refine nr ?_;simp only[go_sem,simprocAttr,hne,Za.upd_same];refine⟨⟨om,om⟩,?_⟩;refine nW ?_;exact Zo (v:=.sub 1 l k xs.length 0 K.length) (.refl _) (.sub _ _ _ _ _ _ hl) (.inr ⟨by rw[hKx],om,by rw[hKx];omega,by rw[hKx]⟩)
 ·have hj':j=xs.length:=by omega
  subst hj';refine nq (QE.2 h) ?_;refine nF ?_;refine nX ?_;refine nR ?_;refine nV ?_;refine Zo (.refl _) (.msl _ _ _ _ hl) (.inl ⟨rfl,rfl,?_⟩);rw[Za0 YJ xs _ (Qe _) fun i h h' h0=>hq i h om h0,QM]
theorem ZlH(l:List Tm):∀y∈l.map Tm.enc,y.cells.length=4:=fun y hy=>by obtain⟨x,_,rfl⟩:=Qb.1 hy;rw[Tm.Xl];rfl
theorem WO{n m:Nat}(l:List Tm):Ze.Below n (.Zg 40 4 (flat (l.map Tm.enc)) m):=⟨(XJ fun x hx=>by obtain⟨y,_,rfl⟩:=Qb.1 hx;exact Tm.blw n y).mem,by simp[Ze.at_]⟩
theorem Zmf(l:List Tm)(j:Nat)(h:j<l.length):((flat (l.map Tm.enc)).drop (j*4)).take 4=(l[j]).cs:=by
 have:=ZiN (ZlH l) j (by simpa using h);rw[QO,Tm.Xl]at this;exact this
theorem ZgJ(l:List Tm):(flat (l.map Tm.enc)).length=l.length*4:=by rw[flat_length (ZlH l),Qv]
def zTm:AV:=.agg [.int .u8 0,.int .i64 0,.str [],.sl 4 [] .full]
def Zru(l k:Nat)(xs:List Tm)(H:Za)(r:AV)(H':Za):Prop:=
 (r= .msl 4 l k xs.length∧H'=H∧kpt cmpT xs xs.length=xs)∨
 (r= .sub 4 l k xs.length 0 (kpt cmpT xs xs.length).length∧0<xs.length∧(kpt cmpT xs xs.length).length≤xs.length∧H'=H.upd l k (.Zg 40 4 (flat ((kpt cmpT xs xs.length).map Tm.enc++List.replicate (xs.length - (kpt cmpT xs xs.length).length) zTm)) xs.length))
def u265:Opt:=⟨false,false,fun d=>if d=31∨d=61 then .heap else .auto,[]⟩
def Zsg(l k:Nat)(xs:List Tm)(H:Za)(j:Nat):Zb:=⟨[(5,.int .i64 j),(0,.msl 4 l k xs.length),(1,.fn (.func 16) [])],[],H⟩
def Ziu(l k:Nat)(xs:List Tm)(H:Za)(j m:Nat):Zb:=
 ⟨[(7,.int .i64 m),(6,.sub 4 l k xs.length j (xs.length - j)),(5,.int .i64 (kpt cmpT xs (j+m)).length),(0,.msl 4 l k xs.length),(1,.fn (.func 16) [])],[],H.upd l k (.Zg 40 4 (flat ((mix (kpt cmpT xs (j+m)) xs).map Tm.enc)) xs.length)⟩
theorem ZuR(n:Nat)(H:Za)(l k:Nat)(hl:l<n)(xs:List Tm)(hx:xs.length≤1000000)(hb:∀t∈xs,t.Good)(hH:H l k=some (.Zg 40 4 (flat (xs.map Tm.enc)) xs.length)):
  Zi Tryz.prog n 265 [.msl 4 l k xs.length,.fn (.func 16) []] H (Zru l k xs H):=by
 have hne:¬l=n:=by omega
 have hmi:∀q,Inside n q (.msl 4 l k xs.length):=fun q=>.msl _ _ _ _ (.inl hl)
 have hms:∀q a b,Inside n q (.sub 4 l k xs.length a b):=fun q a b=>.sub _ _ _ _ _ _ (.inl hl)
 have heq:∀i j (h:i<xs.length) (h':j<xs.length),Pure Tryz.prog 16 [Tm.enc xs[i],Tm.enc xs[j]] (.bool (cmpT xs[i] xs[j]==0)):=fun i j h h'=>
  j16 _ _ (hb _ (Qa h)) (hb _ (Qa h'))
 refine aF Tryz.func265 fun B=>?_
 refine nR ?_;refine nR ?_;by_cases h2:xs.length<2
 ·have h2':((xs.length:Int)<2):=by omega
  refine VK rfl rfl (by simp only[go_sem,simprocAttr,h2']) ?_;refine nR ?_;refine nV ?_;refine Zo (.refl _) (.msl _ _ _ _ hl) (.inl ⟨rfl,rfl,?_⟩);rw[Za0 cmpT xs _ (Qe _) fun i h h' h0=>by omega,QM]
 have h2':¬((xs.length:Int)<2):=by omega
 refine VB rfl rfl (by simp only[go_sem,simprocAttr,h2']) ?_;refine nR ?_;refine kK ?_;refine Yc (fun i=>Zsg l k xs H (1+i)) (fun i=>∀j (h:j<xs.length),j<1+i→0<j→cmpT xs[j] xs[j - 1]≠0) (xs.length - 1) rfl ?_ (fun j h h1 h0=>by omega) ?_
 ·exact KK
 intro i hi hq;obtain⟨j,hj⟩:∃j,j=1+i:=⟨_,rfl⟩
 rw[show 1+(i+1)=j+1 by omega,←hj];rw[←hj]at hq;have hj0:0<j:=by omega
 refine Ya rfl ?_;rcases Qg j xs.length with h|h
 ·have h1:=Zmf xs j h;have h3:=Zmf xs (j - 1) om;have hln:=ZgJ xs;have hw:IntKind.i64.wrap ((j:Int) - 1)=((j - 1:Nat):Int):=by rw[show(j:Int) - 1=((j - 1:Nat):Int) by omega];exact iw
  have hj1:j - 1<xs.length:=by omega
  refine nq h ?_;refine nT ?_;refine nD drawO ?_;simp only[go_sem,simprocAttr,h,hne,hH,h1,h3,hw,hj1];refine⟨⟨om,om⟩,⟨om,om⟩,?_⟩;refine YD (avs:=[Tm.enc xs[j],Tm.enc xs[j - 1]]) rfl (Zf Tryz.func16 rfl rfl) (heq j (j - 1) h hj1 _ _) rfl ?_;cases hc:(cmpT xs[j] xs[j - 1]==0)with
  |false=>
   have hc':cmpT xs[j] xs[j - 1]≠0:=by simpa using hc
   refine aq hc ?_;refine nF ?_;refine nR ?_;refine nN ?_;refine⟨om,fun j' h' hlt h0'=>?_,?_⟩
   ·rcases Qg j' j with h5|h5
    ·exact hq j' h' h5 h0'
    ·have:j'=j:=by omega
     subst this;exact hc'
   ·refine Zh ?_ ?_ ?_ ?_<;>repeat' first|apply q0|exact xx|apply aI
    ·refine aS ?_;rw[iw];exact .refl _
    all_goals exact hmi _
  |true=>
   have hc':cmpT xs[j] xs[j - 1]=0:=by simpa using hc
   have hkj:kpt cmpT xs j=xs.take j:=Za0 cmpT xs j om hq;have hkj1:kpt cmpT xs (j+1)=xs.take j:=by rw[ZhX cmpT xs j h hj0 hc',hkj]
   have htl:(xs.take j).length=j:=by rw[QI];omega
   simp only[go_sem,simprocAttr,hc];refine nT ?_;repeat refine kn rfl ?_
   refine YK tok u265 rfl rfl (by kernel_rfl) ?_;simp only[go_sem,simprocAttr,u265];refine Step.look (v:=.sub 4 l k xs.length j (xs.length - j)) (XT (a:=j) (h:=(xs.length:Int)) tok rfl rfl rfl rfl rfl ((Zj hl _ _ _).trans hH) rfl rfl ?_ ?_ ?_ ?_ ?_) ?_
   ·omega
   ·omega
   ·omega
   ·omega
   ·rw[if_pos om];rfl
   refine aS ?_;refine nR ?_;refine kK ?_;refine Zr (fun m=>Ziu l k xs H j (1+m)) (xs.length - j - 1) rfl ?_ ?_
   ·unfold Ziu;rw[UD,hkj1,htl,show mix (xs.take j) xs=xs by unfold mix;rw[htl,QX],Yd hH];exact KK
   intro m hm;obtain⟨r,hr⟩:∃r,r=1+m:=⟨_,rfl⟩
   rw[show 1+(m+1)=r+1 by omega,←hr];refine Ya rfl ?_;have hkl:(kpt cmpT xs (j+r)).length≤j+r - 1:=by
    have:=ZgD cmpT xs (j+1) m;rw[hkj1,htl,show j+1+m=j+r by omega]at this;omega
   generalize hK:kpt cmpT xs (j+r)=K at hkl;have hup:H.upd l k (.Zg 40 4 (flat ((mix K xs).map Tm.enc)) xs.length) l k=some (.Zg 40 4 (flat ((mix K xs).map Tm.enc)) xs.length):=Za.upd_same _ _ _ _;rcases Qg (j+r) xs.length with h5|h5
   ·have hml:=Zfx (kept:=K) (xs:=xs) om;have g1:=Zmf (mix K xs) (j+r) om;rw[ZdZ (j+r) om om h5]at g1;have g2:=Zmf (mix K xs) (j+r - 1) om;rw[ZdZ (j+r - 1) om om om]at g2;have g3:=ZgJ (mix K xs);rw[hml]at g3;have hrl:r<xs.length - j:=by omega
    have hr1:r - 1<xs.length - j:=by omega
    have hwr:IntKind.i64.wrap ((r:Int) - 1)=((r - 1:Nat):Int):=by rw[show(r:Int) - 1=((r - 1:Nat):Int) by omega];exact iw
    have er:j+(r - 1)=j+r - 1:=by omega
    refine nq hrl ?_;refine nT ?_;refine nD drawO ?_;simp only[go_sem,simprocAttr,hrl,hne,hup,g1,g2,hwr,hr1,er];refine⟨⟨om,om⟩,⟨om,om⟩,?_⟩;refine YD (avs:=[Tm.enc xs[j+r],Tm.enc xs[j+r - 1]]) rfl (Zf Tryz.func16 rfl rfl) (heq (j+r) (j+r - 1) h5 om _ _) rfl ?_;cases hd:(cmpT xs[j+r] xs[j+r - 1]==0)with
    |true=>
     have hd':cmpT xs[j+r] xs[j+r - 1]=0:=by simpa using hd
     have hk2:kpt cmpT xs (j+(r+1))=K:=by rw[←MQ,ZhX cmpT xs (j+r) h5 om hd',hK]
     refine aq hd ?_;refine nF ?_;refine nR ?_;refine nN ?_;refine⟨om,?_⟩;unfold Ziu;rw[hk2];refine Zh ?_ ?_ ?_ ?_<;>repeat' first|apply q0|exact xx|apply aI
     ·refine aS ?_;rw[iw];exact .refl _
     all_goals first|exact hmi _|exact hms _ _ _
    |false=>
     have hd':cmpT xs[j+r] xs[j+r - 1]≠0:=by simpa using hd
     have hk2:kpt cmpT xs (j+(r+1))=K++[xs[j+r]]:=by rw[←MQ,Zo3 cmpT xs (j+r) h5 hd',hK]
     have hKl:K.length<xs.length:=by omega
     have hsp:=ZcQ (k:=4) Tm.enc (fun x=>by rw[Tm.Xl];rfl) (kept:=K) (xs:=xs) xs[j+r] hKl;simp only[go_sem,simprocAttr]at hsp;refine aq hd ?_;refine nT ?_;refine nr ?_;simp only[go_sem,simprocAttr,hrl,hne,hup,g1,hKl,hsp];refine⟨⟨om,om⟩,⟨om,om⟩,.inr (WO _),?_⟩;rw[Za.Zas];refine nR ?_;refine nR ?_;refine nN ?_;refine⟨om,?_⟩;unfold Ziu;rw[hk2,Qh,G8];refine Zh ?_ ?_ ?_ ?_<;>repeat' first|apply q0|exact xx|apply aI
     ·refine aS ?_;rw[iw];exact .refl _
     ·refine aS ?_;rw[iw];exact .refl _
     all_goals first|exact hmi _|exact hms _ _ _
   ·have hre:j+r=xs.length:=by omega
    have hKx:kpt cmpT xs xs.length=K:=by rw[←hre];exact hK
    have hrl:¬r<xs.length - j:=by omega
    have hKl:K.length<xs.length:=by omega
    refine nr ?_;refine aq hrl ?_;refine nF ?_;refine nX ?_;repeat refine kn rfl ?_
    refine YK tok u265 rfl rfl (by kernel_rfl) ?_;simp only[go_sem,simprocAttr,u265];have hHM:∀L G,(∀j,G l j=(H.upd l k (.Zg 40 4 (flat ((mix K xs).map Tm.enc)) xs.length)) l j)→full n L G l k=some (.Zg 40 4 (flat ((mix K xs).map Tm.enc)) xs.length):=fun L G h=>(Zj hl _ _ _).trans ((h k).trans (by simp[Za.upd]))
    refine Step.look (v:=.sub 4 l k xs.length K.length (xs.length - K.length)) (XT (a:=K.length) (h:=(xs.length:Int)) tok rfl rfl rfl rfl rfl (hHM _ _ fun _=>rfl) rfl rfl ?_ ?_ ?_ ?_ ?_) ?_
    ·omega
    ·omega
    ·omega
    ·omega
    ·rw[if_pos om];rfl
    refine aS ?_;refine Step.turn (l:=l) (k:=k) (b:=.Zg 40 4 (flat (K.map Tm.enc++List.replicate (xs.length - K.length) zTm)) xs.length) (Jk tok rfl rfl rfl rfl rfl rfl (hHM _ _ fun _=>rfl) ?_ rfl ?_ ?_) (.inr ?_) ?_
    ·decide
    ·omega
    ·exact Zbz (k:=4) Tm.enc (fun x=>by rw[Tm.Xl];rfl) (z:=zTm) rfl om
    ·refine⟨(XJ fun x hx=>?_).mem,by simp[Ze.at_]⟩;rcases Qj.1 hx with hx|hx
     ·obtain⟨y,_,rfl⟩:=Qb.1 hx;exact Tm.blw n y
     ·rw[(Ug.1 hx).2];exact Xb (Yi.mem (l:=[AV.int .u8 0,.int .i64 0,.str [],.sl 4 [] .full]) (p:=fun c=>Below n c) ⟨.int _ _,.int _ _,.str _,YT (fun _ h=>by cases h) (fun _ _ e=>by cases e),trivial⟩)
    simp only[go_sem,simprocAttr,hne,Za.Zas];refine nr ?_;simp only[go_sem,simprocAttr,hne,Za.upd_same];refine⟨⟨om,om⟩,?_⟩;refine nW ?_;exact Zo (v:=.sub 4 l k xs.length 0 K.length) (.refl _) (.sub _ _ _ _ _ _ hl) (.inr ⟨by rw[hKx],om,by rw[hKx];omega,by rw[hKx]⟩)
 ·have hj':j=xs.length:=by omega
  subst hj';refine nq (QE.2 h) ?_;refine nF ?_;refine nX ?_;refine nR ?_;refine nV ?_;refine Zo (.refl _) (.msl _ _ _ _ hl) (.inl ⟨rfl,rfl,?_⟩);rw[Za0 cmpT xs _ (Qe _) fun i h h' h0=>hq i h om h0,QM]
end Go.Proofs.YtmdeagmbfhbbnaaGreatDoorR

namespace Go.Abs
def pivot(ops:List Oper)(p:Nat):Bool:=
 ancK ops [] fun ms=>(List.range ops.length).all fun i=>(!decide (i<p)||(ms.getD p 0).testBit i)&&(!decide (p<i)||(ms.getD i 0).testBit p)
theorem ZlK{ops:List Oper}{p:Nat}(h:pivot ops p=true):∀i,i<ops.length→ ∀D,Closed ops D→(i<p→D p→D i)∧(p<i→D i→D p):=by
 intro i hi D hD;simp only[pivot,ancK_eq,QA,Gg]at h;have:=h i hi;have key:=ZfF hD ops [] rfl (fun i _ j hj=>by simp at hj);constructor
 ·intro h1 h2;refine key p h2 i ?_;simpa[h1,Nat.lt_asymm h1]using this
 ·intro h1 h2;refine key i h2 p ?_;simpa[h1,Nat.lt_asymm h1]using this
theorem ZpW{cx:Cx}{k:List Itm}{Q:Exit→Zb→Prop}{s:Zb}{c:Code}(t:Nat)(hT:TOK cx.P cx.T)(hm:cx.P.follows .mixedOrders=true)(op:Opt)(hop:op.dr=true){id:Nat}{ops:Array Oper}{pre post:List Oper}{o:Oper}{g:Operand}{args:Array Operand}{ts:Array TypeId}(hc:c= .region id ops true)(hl:ops.toList=pre++o::post)
  (hg:o.guard=none) (ho:o.op= .call {callee:=.value g,args:=args,argTypes:=ts})
  (h:Y2 cx op ops.toList [] (fun _ s'=>ZfX cx t o g args.toList ts.toList s' (fun _=>False) (Q (.panic (ch t)))) pre s)
  (hd:X4 cx.N ops.toList=true:=by kernel_rfl) (hok:(VH ops.toList (Zdj op ops.toList)&&Ze2 op ops.toList&&pivot ops.toList pre.length)=true:=by kernel_rfl):AKc cx (.code c::k) Q s:=fun E w a hs=>by
 subst hc;obtain⟨hok,hpiv⟩:=QaG.1 hok;obtain⟨hok,hlay⟩:=QaG.1 hok;obtain⟨tm',L',H',hr,hos,hF⟩:=Zag hT (kd:=Zdj op ops.toList) hop (fun i o hi=>by simp only[Zdj,hi]) pre 0 s (by simpa using hl) h;obtain⟨T,G,V,t0,g0,t1,g1,hc⟩:=(hr.mono (ZfT hlay)).course;refine wpIn_region_any hm ?_;have hu:unl (Array.replicate ops.size false)≤ops.size:=by
  unfold unl;exact Uw Qbk sm
 have hL:∀i,(Array.replicate ops.size false).getD i false=false:=fun i=>by
  rw[Ua];by_cases hi:i<ops.size<;>simp[hi]
 have hva:∀n t,va ops.toList (lkv (T 0)) V ((Array.replicate ops.size false).getD · false) n t=lkv (T 0) t:=by
  intro n t;induction n with
  |zero=>rfl
  |succ n ih=>rw[va,if_neg (fun c=>by rw[hL]at c;cases c.1),ih]
 have hhv:∀n,hv cx.n (Zdj op ops.toList) G ((Array.replicate ops.size false).getD · false) n=G 0:=by
  intro n;induction n with
  |zero=>rfl
  |succ n ih=>
   funext l s;rw[Zcn,if_neg (fun c=>by rw[hL]at c;cases c.1),ih]
 refine Zcy cx.φ.ro a.defers (m:=cx.n+1) (N:=cx.N) (post:=o::post) hl (WH hd) hc (Zcu hok) E {w with drawn:=w.drawn+1} (fun _ i hi=>ZlK hpiv i (by simpa using hi)) ?_ (fun h=>by cases h) ops.size _ E {w with drawn:=w.drawn+1} a hu sm (fun i o _ hi=>by have:=hL i;simp only at hi;rw[this]at hi;cases hi) (hL _) hs.size rfl ?_ ?_ (.refl _ _ _)
 ·intro o' ho' E1 w1 a1 K h1 h2 h3 h4 h5;have:o'=o:=by
   have e:ops.toList[pre.length]? =some o:=by rw[hl];simp
   rw[MF,ho']at e;exact UO e
  subst this;rw[t1]at h3;rw[g1]at h4;simp only[wpOpIn,ho'];rw[show Region.wanted o' (yielded ops a1.tmps)=true by simp[Region.wanted,hg]];simp only[if_true];obtain⟨Qc,Xc,hcall,hk,hX⟩:=hF;have has:∀E (a:Act),(∀x∈args,VR E (evT tm' x) (a.eval x))→VRs E (Yo cx.T (evT tm') args.toList ts.toList) (args.toList.map a.eval):=fun E a hx=>Wh _ _ (fun x hx'=>hx x (by simpa using hx'))
  have hsem:Zie cx.P t (cx.n+1) o' (evT tm') (full cx.n L' H') Qc Xc:=by
   rcases hcall with⟨f,fn,c,caps,e1,e2,e3⟩|⟨l,e1,e2⟩
   ·exact ZjT e2 ho e1 _ has e3
   ·exact Zhg ho e1 _ has e2
  refine hsem E1 w1 a1 _ _ h4 (fun x _=>Zdp h3 x) ?_ ?_ cx.φ.ro
  ·rintro E' w' cv v H1 hq hcv hh hx';obtain⟨_,_,_,_,hff⟩:=hk _ _ hq;exact hff.elim
  ·rintro E' w' H1 hq hh hx';obtain⟨L2,H2,rfl,hos2,hF2⟩:=hX _ hq;exact⟨⟨tm',L2,H2⟩,E',WU hF2 k,⟨h1,by rw[h2];exact(hs.defs.ext (Env.Za9 cx.n E w)).ext (h5.trans hx'),fun t=>(h3 t).mono h4.norm hx'.le,hh,Yn.Wx (Yn.Wx hs.out hos) hos2⟩,(Env.Za9 cx.n E w).trans ((h5.trans hx').mono (Uj _))⟩
 ·intro t;rw[hva,t0];exact hs.tmps t
 ·rw[hhv,g0];exact hs.heap.drew
theorem ZlA{P:Program}{T:TT}{o:Oper}{ρ:Operand→AV}{m:Nat}{H:Za}{t:TypeId}{x:Operand}{kt e:TypeId}{re:Zv}{l j:Nat}{es:List (AV×AV)}(hT:TOK P T)(ho:o.op= .call {callee:=.builtin .len,args:=#[x],argTypes:=#[t]})
  (h1:mapOf T t=some (kt,e,re)) (hx:ρ x= .map l j) (hH:H l j=some (.map es)):Yq P m o ρ H (.int .i64 es.length) H:=fun E w a hr hops=>by
 have hxv:=hops x sC;rw[hx]at hxv;obtain⟨hu,hre⟩:=Vy hT h1;generalize hp:a.eval x=p at hxv;cases hxv with|map _ _ b hm=>
 obtain⟨b',hm',ent,hc,hs,hv⟩:=hr.map l j es (hr.norm.Zak hm) hH;rw[hm]at hm';cases hm';have hg:(getObj b).run P w= .ok (.map ent es.length) w:=by simp[getObj,Sem.run,hc]
 refine⟨.int .i64 es.length,E,w,.inl ?_,.int _ _,hr,.refl m E w⟩;simp[execOp,ho,hp,resolve,invoke,builtin,Builtin.len_,run_underlying hu,hg,hs,goInt]
def seqs:List Code→Code→Code
 |[],d=>d
 |c::r,d=>.seq c (seqs r d)
theorem Zgw{P:Program}{φ:Fm}{n N:Nat}{Q:Exit→Zb→Prop}{s:Zb}:∀{r:List Code} {e:Exit},e≠ .normal→AX P φ n N Q (r.map .code) e s→Q e s
 |[],_,_,h=>h
 |c::r,e,he,h=>by
  cases e with
  |normal=>exact absurd rfl he
  |_=>exact Zgw (r:=r) sm h
section
variable {P:Program} {φ:Fm} {f0:FuncId} {n N:Nat} {Q:Exit→Zb→Prop} {s:Zb} {k:List Itm}
theorem ZaX.block{id:Nat}{c:Code}(h:ZaX P φ f0 n N c (fun e s'=>match e with| .exit id'=>if id'=id then Q .normal s' else Q (.exit id') s'|e=>Q e s') s):ZaX P φ f0 n N (.block id c) Q s:=fun E w a hs b k cs h1 h2=>by
 have h0:(lone (b.atR a (.code (.block id c)::k)) cs w).fenced P (fr φ.ro):=calm rfl;obtain⟨e,a1,w1,⟨s1,E1,hq,hs1,hx1⟩,harr⟩:=h E w a hs b (.inBlock id::k) cs h1 h2;cases e with
 |normal=>exact⟨.normal,a1,w1,⟨s1,E1,hq,hs1,hx1⟩,.head h0 stepR_block (StepsIn.trans harr (.one (calm rfl) stepR_inBlock))⟩
 |exit id'=>
  by_cases hid:id'=id
  ·simp only[hid,if_true]at hq;exact⟨.normal,a1,w1,⟨s1,E1,hq,hs1,hx1⟩,.head h0 stepR_block (harr.1 k (by simp[exitTo,hid]))⟩
  ·simp only[hid,if_false]at hq;have this:(id==id')=false:=by simp;exact fun h=>hid h.symm
   have hx:exitTo id' (.inBlock id::k)=exitTo id' k:=by simp[exitTo,this]
   exact⟨.exit id',a1,w1,⟨s1,E1,hq,hs1,hx1⟩,fun k' hk=>.head h0 stepR_block (harr.1 k' (by rw[hx];exact hk)),
    fun hr' hk=>let⟨k₁,h1,h2⟩:=harr.2 hr' (by rw[hx];exact hk);⟨k₁,h1,.head h0 stepR_block h2⟩⟩
 |goto l=>
  have hx:gotoIn l (.inBlock id::k)=gotoIn l k:=by simp[gotoIn]
  exact⟨_,a1,w1,⟨s1,E1,hq,hs1,hx1⟩,fun k' hk=>.head h0 stepR_block (harr.1 k' (by rw[hx];exact hk)),
   fun hr' hk=>let⟨k₁,h1,h2⟩:=harr.2 hr' (by rw[hx];exact hk);⟨k₁,h1,.head h0 stepR_block h2⟩⟩
 |ret=>exact⟨_,a1,w1,⟨s1,E1,hq,hs1,hx1⟩,.of_steps (.one h0 stepR_block) harr⟩
 |panic ch=>exact⟨_,a1,w1,⟨s1,E1,hq,hs1,hx1⟩,.of_steps (.one h0 stepR_block) harr⟩
 |outgrown=>exact⟨_,a1,w1,⟨s1,E1,hq,hs1,hx1⟩,.of_steps (.one h0 stepR_block) harr⟩
theorem ZgG{id:Nat}{c:Code}(hc:c= .block id c.fst)(h:Zbo P φ f0 n N (.code c.fst:: .blk id::k) Q s):Zbo P φ f0 n N (.code c::k) Q s:=by
 rw[hc];refine ZaX.block ?_;exact ZaX.mono h fun e s' hq=>by cases e<;>exact hq
theorem Zey{c:Code}{s':Zb}(hw:AWk n N s s')(h:Zbo P φ f0 n N (.code c::k) Q s'):Zbo P φ f0 n N (.code c::k) Q s:=fun E w a hs b k0 cs h1 h2=>by
 obtain⟨E1,hs1,hx1⟩:=hw _ E w a hs;obtain⟨e,a',w',⟨s2,E2,hq,hs2,hx2⟩,harr⟩:=h E1 w a hs1 b k0 cs h1 h2;exact⟨e,a',w',⟨s2,E2,hq,hs2,hx1.trans hx2⟩,harr⟩
theorem ZkO{id:Nat}(h:Zbo P φ f0 n N k Q s):Zbo P φ f0 n N (.blk id::k) Q s:=h
theorem ZhL(T:TT){c d:Code}(l:List Code)(hc:c=seqs l d)(h:AKc ⟨P,T,φ,n,N⟩ (l.map .code) (fun e s'=>match e with| .normal=>Zbo P φ f0 n N (.code d::k) Q s'|e=>Zf6 P φ f0 n N Q k e s') s):Zbo P φ f0 n N (.code c::k) Q s:=by
 subst hc;induction l generalizing s with
 |nil=>exact h
 |cons c r ih=>
  show ZaX P φ f0 n N (.seq c (seqs r d)) (Zf6 P φ f0 n N Q k) s;refine ZaX.seq (ZaX.mono (ZmN h) ?_);intro e s' hq;cases e with
  |normal=>exact ih hq
  |_=>
   have:=Zgw (r:=r) sm hq;exact this
end
end Go.Abs

namespace Go.Proofs.YtmdeagmbfhbbnaaGreatDoorR
open Go.Abs
set_option maxRecDepth 100000
def ZtG(t:Tm)(n:Nat)(H:Za)(i:Nat):Zb:=
 ⟨[(11,.int .i64 i),(10,.int .i64 t.args.length),(9,.sl 4 (t.args.map Tm.enc) .any),(1,.ptr n 1 0),(2,.ptr n 2 0)],
  [(200,.buf 40 4 i),(1,.box [.int .u8 t.kind,.int .i64 t.num,.str t.name,.sl 4 ((t.args.take i).map Tm.enc) (.buf n 200)]),(2,.box [.int .u8 0,.int .i64 0,.str [],.sl 4 [] .full])],H⟩
def o155:Opt:=⟨true,true,fun d=>if d=20 then .own 200 else .auto,[200]⟩
theorem ZsI(t:Tm)(ht:t.Good):Pure Tryz.prog 155 [t.enc] t.enc:=by
 intro n H;have ih:∀u∈t.args,Pure Tryz.prog 155 [u.enc] u.enc:=fun u hu=>ZsI u (ht.arg hu)
 have hl:=ht.len;have ho:∀(q:Nat→Prop) (r:List Tm),q 200→Inside n q (.sl 4 (r.map Tm.enc) (.buf n 200)):=fun q r h=>Abs.ZW (fun x hx=>by obtain⟨u,_,rfl⟩:=Qb.1 hx;exact Tm.blw n u) h
 refine aF Tryz.func155 fun B=>?_
 refine nR ?_;refine nR ?_;refine nR ?_;refine nR ?_;refine kK ?_;refine Zgt 1 200 3 40 4 rfl rfl rfl ?_;simp only[go_sem,simprocAttr,MJ,UZ];refine Zr (ZtG t n H) t.args.length rfl ?_ ?_
 ·exact KK
 intro i hi;refine Ya rfl ?_;rcases Qg i t.args.length with h|h
 ·have hm:(t.args.take i).map Tm.enc++[(t.args[i]).enc]=(t.args.take (i+1)).map Tm.enc:=by rw[Qn h,QG];rfl
  have hmin:(t.args.take i).length=i:=Uo hi;refine nr ?_;refine aq h ?_;refine nT ?_;refine nr ?_;simp only[go_sem,simprocAttr,Tm.Zp _ _ h,h];refine nD o155 ?_;simp only[go_sem,simprocAttr,o155];refine⟨rfl,rfl,?_⟩;refine Zgs (Zf Tryz.func155 rfl rfl) (ih _ (Qa h)) sS ?_;simp only[go_sem,simprocAttr,o155,hmin];refine⟨rfl,⟨Zn om,om⟩,?_⟩;rw[hm];refine nR ?_;refine nN ?_;exact KK
 ·have hi':i=t.args.length:=by omega
  subst hi';refine nq (QE.2 h) ?_;refine nF ?_;refine nX ?_;refine nt0 ?_;refine nV ?_;refine ZX (.inl rfl) _ n 2 0 [.int .u8 t.kind,.int .i64 t.num,.str t.name,.sl 4 (t.args.map Tm.enc) (.buf n 200)] sS sF rfl (Qe _) sS ?_ (Tm.blw _ t) rfl;refine aS ?_;rw[Tm.Vx];exact .deep (.Zei ⟨.refl _,.refl _,.refl _,.any _ _ _,trivial⟩)
termination_by SizeOf.sizeOf t
decreasing_by exact Tm.Xm hu
def opM:Opt:=⟨false,false,fun x=>if x=7 then .call else .auto,[]⟩
theorem Ztp(n:Nat)(H:Za)(q j N:Nat)(hq:q<n)(ys:List Tm)(hN:ys.length=N+1)(hl:N+1≤1000000)(hH:H q j=some (.Zg 40 4 (flat (ys.map Tm.enc)) (N+1))):PC Tryz.prog n 240 [.msl 4 q j (N+1)] H (.sl 4 (ys.map Tm.enc) .any):=by
 have hne:¬q=n:=by omega
 refine aF Tryz.func240 fun B=>?_
 refine nR ?_;refine nR ?_;refine⟨⟨_,rfl⟩,?_⟩;refine nF ?_;repeat refine kn rfl ?_
 refine YK tok opM rfl rfl (by kernel_rfl) ?_;simp only[go_sem,simprocAttr,opM];refine⟨rfl,?_⟩;refine Step.same (v:=.sl 4 (ys.map Tm.enc) .any) ?_ ?_
 ·refine ZgZ (ys:=ys.map Tm.enc) (n:=N+1) (q:=q) (j:=j) tok rfl rfl rfl rfl rfl dc rfl rfl ((Zj hq _ _ _).trans hH) (ZlH ys) (by simp[hN]) om (Zn om) ?_;show(N+1)*56≤_;omega
 refine aS ?_;refine nV ?_;exact Zc (.refl _) (ZE _) rfl
/-! The number of combinations. -/
def cntF(n:Nat)(p:List Tm):Option Nat:=if 1000<n*p.length then none else some (n*p.length)
theorem Zmd(ps:List (List Tm)):Znn ps=ps.foldlM cntF 1:=rfl
theorem rows_len:∀ps:List (List Tm),∀a m,ps.foldlM cntF a=some m→a*(Ye ps).length=m
 |[],a,m,h=>by simp at h;simp[Ye,h]
 |p::r,a,m,h=>by
  rw[Me]at h;unfold cntF at h;split at h
  ·cases h
  ·have:=rows_len r (a*p.length) m h;have e:(Ye (p::r)).length=p.length*(Ye r).length:=by
    rw[Ye,List.length_flatMap];simp[List.map_const']
   rw[e,←Nat.mul_assoc];exact this
theorem ZhT{α β:Type}(g:α→β):∀(l:List α) (a:List β),l.foldlM (fun o r=>(some (o++[g r]):Option (List β))) a=some (a++l.map g)
 |[],a=>by simp
 |x::l,a=>by
  rw[Me];show l.foldlM _ (a++[g x])=_;rw[ZhT g l];simp
theorem ZaN{n:Nat}{p:Nat→Prop}(l:List Tm):Yi (fun c=>Inside n p c) (flat (l.map Tm.enc)):=Z5 fun c hc=>((WO (n:=n) (m:=0) l).1 c hc).inside
theorem Zc6{S:List Str}:∀{f c k:Nat},(∀j,j<k→newV (c+j)∈S)→newV (c+k)∉S→k≤f→Zbh S f c=c+k
 |0,c,k,_,_,hk=>by
  have:k=0:=by omega
  subst this;rfl
 |f+1,c,0,_,h,_=>by rw[UD]at h;rw[Zbh,if_neg h];rfl
 |f+1,c,k+1,h1,h2,hk=>by
  have h0:=h1 0 om;rw[UD]at h0;rw[Zbh,if_pos h0];have:=Zc6 (S:=S) (f:=f) (c:=c+1) (k:=k) (fun j hj=>by have:=h1 (j+1) om;rwa [show c+(j+1)=c+1+j by omega]at this) (by rwa [show c+(k+1)=c+1+k by omega]at h2) om;rw[this];omega
section
variable {k:Nat}
theorem Zb1{S:List Str}{c:Nat}(h:∀j,j<k→newV (c+j)∈S):k≤S.length:=by
 have h2:((List.range k).map fun i=>newV (c+i)).length≤S.length:=by
  refine Xq ?_ fun x hx=>?_
  ·refine List.Pairwise.map _ (fun a b hab e=>?_) Qaz;have:=ZdM e;omega
  ·obtain⟨i,hi,rfl⟩:=Qb.1 hx;exact h i (Gg.1 hi)
 rwa [Qv,MS]at h2
def Je(d:Nat×Tm):AV:=.agg [.int .u8 2,.bool false,.str [],.sl 4 [] .full,.int .u8 1,.int .u8 3,.int .i64 0,.str (newV d.1),.sl 4 [] .full,.int .u8 d.2.kind,.int .i64 d.2.num,.str d.2.name,.sl 4 (d.2.args.map Tm.enc) .any]
structure FZs where
 n:Nat
 ds:List (Nat×Tm)
def fsH(H:Za)(l b m q:Nat)(s:FZs):Za:=(H.upd l q (.Zg 54 13 (flat (s.ds.map Je)) s.ds.length)).upd l b (.box [.map l m,.int .i64 s.n,.msl 13 l q s.ds.length])
variable {l:Nat}
theorem ZnX(H:Za){l' k':Nat}(h:¬(l=l'∧k=k'))(x y:Ze):(H.upd l k x).upd l' k' y=(H.upd l' k' y).upd l k x:=by
 funext i j;simp only[Za.upd];by_cases h1:i=l'∧j=k'<;>by_cases h2:i=l∧j=k
 ·exact absurd ⟨h2.1.symm.trans h1.1,h2.2.symm.trans h1.2⟩ h
 ·rw[if_pos h1,if_neg h2,if_pos h1]
 ·rw[if_neg h1,if_pos h2,if_pos h2]
 ·rw[if_neg h1,if_neg h2,if_neg h2,if_neg h1]
section
variable {H:Za} {l b m q:Nat} {s:FZs}
theorem fsH_box:fsH H l b m q s l b=some (.box [.map l m,.int .i64 s.n,.msl 13 l q s.ds.length]):=Za.upd_same _ _ _ _
theorem Zmk(h:b≠q):fsH H l b m q s l q=some (.Zg 54 13 (flat (s.ds.map Je)) s.ds.length):=by
 unfold fsH;rw[Za.upd_ne _ _ om,Za.upd_same]
theorem ZlQ{l' k':Nat}(h1:¬(l'=l∧k'=b))(h2:¬(l'=l∧k'=q)):fsH H l b m q s l' k'=H l' k':=by
 unfold fsH;rw[Za.upd_ne _ _ h1,Za.upd_ne _ _ h2]
theorem Zra(h:b≠q)(s':FZs):((fsH H l b m q s).upd l q (.Zg 54 13 (flat (s'.ds.map Je)) s'.ds.length)).upd l b (.box [.map l m,.int .i64 s'.n,.msl 13 l q s'.ds.length])=fsH H l b m q s':=by
 unfold fsH;rw[ZnX (H.upd l q (.Zg 54 13 (flat (s.ds.map Je)) s.ds.length)) (l:=l) (k:=b) (l':=l) (k':=q) om,Za.Zas,Za.Zas]
theorem Zkq(n':Nat):(fsH H l b m q s).upd l b (.box [.map l m,.int .i64 n',.msl 13 l q s.ds.length])=fsH H l b m q ⟨n',s.ds⟩:=by
 unfold fsH;rw[Za.Zas]
theorem Zc8{n:Nat}(h:l≠n)(L:List (Nat×Ze)):full n L (fsH H l b m q s)=fsH (full n L H) l b m q s:=by
 unfold fsH;rw[Yj _ _ _ _ _ _ h,Yj _ _ _ _ _ _ h]
end
variable {n:Nat}
theorem ZaY{P:Program}{T:TT}{t ty:Nat}{v:AV}{s:Zb}{Q:AV→Za→Prop}(r:Zv)(l k off:Nat)(cs:List AV)(h1:lkv s.tmps t= .ptr l k off)(h2:full n s.L s.H l k=some (.box cs))(h3:T ty=some r)
  (h4:off+r.size≤cs.length) (h5:r.isAgg=false→off<cs.length) (hv:Wk (if r.isAgg then .agg ((cs.drop off).take r.size)else(cs.drop off).getD 0 .dead) v) (hb:Below n v) (hQ:Q v s.H):
  PostF P T n [.cell t ty] Q .ret s:=by
 refine⟨by simp only[Ql,forall_eq,XW];exact⟨l,k,off,cs,r,h1,h2,h3,h4,h5⟩,[v],⟨?_,trivial⟩,by simpa using hb,hQ⟩;simp only[ZdT,h1,h2,h3];rw[if_pos ⟨h4,h5⟩];exact hv
theorem ZgA(n:Nat)(d:Nat×Tm):Below n (Je d):=Xb (by
 intro c hc;simp only[Qk,Qy,or_false]at hc;rcases hc with rfl|rfl|rfl|rfl|rfl|rfl|rfl|rfl|rfl|rfl|rfl|rfl|rfl
 all_goals first|exact .int _ _|exact .bool _|exact .str _|exact ZE _|exact YT (fun _ h=>by cases h) (fun _ _ e=>by cases e))
theorem ZeI{e:Nat}(ds:List (Nat×Tm)):Ze.Below n (.Zg e 13 (flat (ds.map Je)) k):=⟨fun a ha=>by
 simp only[Ze.avs,flat,Qz,Qb]at ha;obtain⟨_,⟨d,_,rfl⟩,ha⟩:=ha;have:=ZgA n d;exact this.cells _ ha,by simp[Ze.at_]⟩
theorem Zh5{H:Za}{b m q:Nat}{s s':FZs}(h:l<n)(hbq:b≠q):ZL n (fsH H l b m q s) (fsH H l b m q s'):=fun l' k' x hl hx=>by
 by_cases h1:l'=l∧k'=b
 ·obtain⟨rfl,rfl⟩:=h1;rw[fsH_box]at hx;cases hx;exact .inr (Ze.ZB ⟨.map _ _ h,.int _ _,.msl _ _ _ _ h,trivial⟩)
 ·by_cases h2:l'=l∧k'=q
  ·obtain⟨rfl,rfl⟩:=h2;rw[Zmk hbq]at hx;cases hx;exact .inr (ZeI _)
  ·rw[ZlQ h1 h2]at hx⊢;exact .inl hx
def Zu7(l:List Tm)(f:Nat)(bs:List AV)(ys:List Tm)(n:Nat)(S:Nat→Za)(i:Nat):Zb:=
 ⟨[(10,.int .i64 i),(9,.int .i64 l.length),(8,.sl 4 (l.map Tm.enc) .any),(5,.sl 4 ((ys.take i).map Tm.enc) (.buf n 200)),(1,.bfn (.func f) bs)],[(200,.buf 40 4 i)],S i⟩
theorem Zt6(n:Nat)(l:List Tm)(hl:l.length≤1000000)(f:Nat)(bs:List AV)(fn:Func)(c:Code)(hf:Fun Tryz.prog f fn c)(ys:List Tm)(hy:ys.length=l.length)(S:Nat→Za)
  (hbl:Below n (.bfn (.func f) bs)) (hc:∀i (h:i<l.length) L,Zi Tryz.prog (n+1) f (bs++[l[i].enc]) (full n L (S i)) fun r H1=>r=(ys[i]'om).enc∧H1=full n L (S (i+1))) (hout:∀i,i<l.length→ZL n (S i) (S (i+1))):
  Zi Tryz.prog n 70 [.sl 4 (l.map Tm.enc) .any,.bfn (.func f) bs] (S 0) fun r H'=>r= .sl 4 (ys.map Tm.enc) .any∧H'=S l.length:=by
 have hfi:∀q,Inside n q (.bfn (.func f) bs):=fun q=>hbl.inside
 have hxi:∀q,Inside n q (.sl 4 (l.map Tm.enc) .any):=fun q=>(ZE _).inside
 refine aF Tryz.func70 fun B=>?_
 refine nR ?_;refine nR ?_;refine nR ?_;refine kK ?_;refine XB 5 200 40 4 rfl rfl ?_;refine Zr (Zu7 l f bs ys n S) l.length rfl ?_ ?_
 ·exact KK
 intro i hi;refine Ya rfl ?_;rcases Qg i l.length with h|h
 ·have hmin:(ys.take i).length=i:=Uo om;refine nq h ?_;refine nT ?_;refine nr ?_;simp only[go_sem,simprocAttr,Tm.Zp _ _ h,h];refine nR ?_;refine ZrP (bs:=bs) (avs:=[l[i].enc]) rfl hf (hc i h _) sS ?_;rintro r H1 ⟨rfl,rfl⟩;refine⟨_,S (i+1),rfl,hout i h,?_⟩;refine aq hmin ?_;refine⟨by first|exact⟨rfl,dc⟩|exact rfl,⟨Zn om,om⟩,?_⟩;refine nR ?_;refine nN ?_;refine Zh ?_ ?_ ?_ ?_<;>repeat' first|apply q0|exact xx|apply aI
  ·refine aS ?_;rw[iw];exact .refl _
  ·simp only[go_sem,simprocAttr,Qn (show i<ys.length by omega),QG];exact .refl _
  all_goals first|exact hfi _|exact hxi _|exact Tm.ZW rfl
 ·refine nq (QE.2 h) ?_;refine nF ?_;refine nX ?_;have hi':i=l.length:=by omega
  subst hi';have ht:ys.take l.length=ys:=Q5 om;refine nq ht ?_;refine nV ?_;refine Zo ?_ (ZE _) ⟨rfl,rfl⟩;refine aS ?_;exact .any _ _ _
theorem Zbv(S:List Str):∀(p q:List Tm) (c:Nat),flT.flTs S (p++q) c=((flT.flTs S p c).1++(flT.flTs S q (flT.flTs S p c).2.1).1,(flT.flTs S q (flT.flTs S p c).2.1).2.1,(flT.flTs S p c).2.2++(flT.flTs S q (flT.flTs S p c).2.1).2.2)
 |[],q,c=>by simp[flT.flTs]
 |t::p,q,c=>by
  have:=Zbv S p q (flT S t c).2.1;simp only[Q9,flT.flTs,this,Q7]
theorem Zhn(S:List Str)(l:List Tm)(c i:Nat)(h:i<l.length):flT.flTs S (l.take (i+1)) c=((flT.flTs S (l.take i) c).1++[(flT S l[i] (flT.flTs S (l.take i) c).2.1).1],(flT S l[i] (flT.flTs S (l.take i) c).2.1).2.1,(flT.flTs S (l.take i) c).2.2++(flT S l[i] (flT.flTs S (l.take i) c).2.1).2.2):=by
 rw[Qn h,Zbv];simp[flT.flTs]
theorem Zmo(S:List Str)(l:List Tm)(c i:Nat)(h:i<l.length)(h':i<(flT.flTs S l c).1.length):(flT.flTs S l c).1[i]=(flT S l[i] (flT.flTs S (l.take i) c).2.1).1:=by
 have h1:flT.flTs S l c=flT.flTs S (l.take (i+1)++l.drop (i+1)) c:=by rw[QX]
 have h2:=Zbv S (l.take (i+1)) (l.drop (i+1)) c;have h3:=Zhn S l c i h;have hlen:(flT.flTs S (l.take i) c).1.length=i:=by rw[Zam,QI];omega
 have h4:(flT.flTs S l c).1=(flT.flTs S (l.take i) c).1++[(flT S l[i] (flT.flTs S (l.take i) c).2.1).1]++(flT.flTs S (l.drop (i+1)) (flT.flTs S (l.take (i+1)) c).2.1).1:=by
  rw[h1,h2,h3]
 simp only[h4];rw[MG (by simp[hlen]),QaW om];simp
theorem Zkn(S:List Str):∀f n,Zbh S f n≤n+f
 |0,n=>Qe _
 |f+1,n=>by
  have:=Zkn S f (n+1);unfold Zbh;split<;>omega
theorem ZcL(S:List Str):(∀t c,(flT S t c).2.1≤c+t.sz*(S.length+2)∧(flT S t c).2.2.length≤t.sz)∧ ∀l c,(flT.flTs S l c).2.1≤c+Tm.sz.szs l*(S.length+2)∧(flT.flTs S l c).2.2.length≤Tm.sz.szs l:=by
 refine Ws (fun k n s l ih c=>?_) (fun c=>by simp[flT.flTs,Tm.sz.szs]) fun t r h1 h2 c=>?_
 ·have hz:=(Tm.mk k n s l).Zc1;by_cases hk:k=5∨k=6
  ·rw[WY hk];have:=Zkn S (S.length+1) (c+1);have h3:1*(S.length+2)≤(Tm.mk k n s l).sz*(S.length+2):=QD _ hz;refine⟨?_,by simpa using hz⟩;show Zbh S (S.length+1) (c+1)≤_;omega
  ·rw[WX hk];have:=ih c;simp only[Tm.sz,Ue];exact⟨by have:=this.1;omega,by have:=this.2;omega⟩
 ·have a1:=h1 c;have a2:=h2 (flT S t c).2.1;simp only[flT.flTs,Tm.sz.szs,Qh,Ue];omega
theorem Zhc(S:List Str)(l:List Tm)(c i:Nat):(flT.flTs S (l.take i) c).2.1≤c+Tm.sz.szs (l.take i)*(S.length+2)∧(flT.flTs S (l.take i) c).2.2.length≤Tm.sz.szs (l.take i):=(ZcL S).2 _ _
def Zn5(t:Tm)(n l b m q c k:Nat)(ds:List (Nat×Tm))(H:Za):Zb:=
 ⟨[(4,.ptr n 4 0),(3,.ptr n 3 0),(0,.ptr l b 0)],[(3,.box t.cs),(4,.box [.int .u8 0,.int .i64 0,.str [],.sl 4 [] .full])],fsH H l b m q ⟨c+1+k,ds⟩⟩
def flO:Opt:=⟨true,false,fun d=>if d=64 then .heap else .auto,[]⟩
def J3(S:List Str)(l:List Tm)(s:FZs)(i:Nat):FZs:=⟨(flT.flTs S (l.take i) s.n).2.1,s.ds++(flT.flTs S (l.take i) s.n).2.2⟩
def fsT(S:List Str)(t:Tm)(s:FZs):FZs:=⟨(flT S t s.n).2.1,s.ds++(flT S t s.n).2.2⟩
theorem ZhO(S:List Str)(l:List Tm)(s:FZs):J3 S l s 0=s:=by simp[J3,flT.flTs]
theorem ZhQ(S:List Str)(l:List Tm)(s:FZs)(i:Nat)(h:i<l.length):J3 S l s (i+1)=fsT S l[i] (J3 S l s i):=by
 unfold J3 fsT;rw[Zhn S l s.n i h];simp
structure ZmE (S:List Str) (s:FZs) (k:Nat):Prop where
 sl:S.length≤100000
 n:s.n+k*(S.length+2)≤1000000000
 d:s.ds.length+k≤900000
theorem Tabs.fs{H:Za}{b m q:Nat}{s:FZs}(h:Tabs H)(hl:0<l):Tabs (fsH H l b m q s):=h.up fun k=>ZlQ om om
theorem Zus(S:List Str)(t:Tm)(ht:t.Good)(n:Nat)(H:Za)(l b m q:Nat)(s:FZs)(hl:l<n)(hl0:0<l)(hbq:b≠q)(hbm:b≠m)(hmq:m≠q)(hmap:H l m=some (.map (encS S)))(hn:0<n)(hT:Tabs H)(hr:ZmE S s t.sz)
  (hc:∀u∈t.args,∀(n':Nat) (H':Za) (s':FZs),l<n'→H' l m=some (.map (encS S))→Tabs H'→ZmE S s' u.sz→Zi Tryz.prog n' 71 [.ptr l b 0,u.enc] (fsH H' l b m q s') fun r H1=>r=(flT S u s'.n).1.enc∧H1=fsH H' l b m q (fsT S u s')):
  Zi Tryz.prog n 71 [.ptr l b 0,t.enc] (fsH H l b m q s) fun r H1=>r=(flT S t s.n).1.enc∧H1=fsH H l b m q (fsT S t s):=by
 have hne:¬l=n:=by omega
 have hbox:fsH H l b m q s l b=some (.box [.map l m,.int .i64 s.n,.msl 13 l q s.ds.length]):=fsH_box;refine aF Tryz.func71 fun B=>?_
 refine nR ?_;have hsz:=t.Zc1;by_cases hk:t.kind=5∨t.kind=6
 ·have hroom:s.n+(S.length+2)≤1000000000:=by
   have h1:=hr.n;have h2:1*(S.length+2)≤t.sz*(S.length+2):=QD _ hsz;omega
  have hds:s.ds.length+1≤900000:=by have:=hr.d;omega
  have hfl:flT S t s.n=(.mk 3 0 (newV (XD S s.n)) [],XD S s.n,[(XD S s.n,t)]):=by
   cases t;exact WY hk
  have hfs:fsT S t s=⟨XD S s.n,s.ds++[(XD S s.n,t)]⟩:=by unfold fsT;rw[hfl]
  rw[hfs,hfl];have hwn:IntKind.i64.wrap ((s.n:Int)+1)=((s.n+1:Nat):Int):=by rw[iw];omega
  have hcut:AKc ⟨Tryz.prog,tt,⟨none,B⟩,n,Tryz.f71.ntmps⟩ [.code (ZQ Tryz.f71).snd.snd.snd] (PostF Tryz.prog tt n Tryz.f71.results.toList fun r H1=>r=(Tm.mk 3 0 (newV (XD S s.n)) []).enc∧H1=fsH H l b m q ⟨XD S s.n,s.ds++[(XD S s.n,t)]⟩) (Zn5 t n l b m q s.n 0 s.ds H):=by
   repeat refine kn rfl ?_
   refine Zal (fun M st=>∃k,k≤S.length∧M=S.length+1 - k∧(∀j,j<k→newV (s.n+1+j)∈S)∧st=Zn5 t n l b m q s.n k s.ds H) (m0:=S.length+1) (s0:=Zn5 t n l b m q s.n 0 s.ds H) rfl (AWk.refl _ _ _) ⟨0,Un _,rfl,fun j hj=>absurd hj (Qm _),rfl⟩ ?_;rintro M st ⟨k,hk1,rfl,hk2,rfl⟩;refine Ya rfl ?_;have hbk:fsH H l b m q ⟨s.n+1+k,s.ds⟩ l b=some (.box [.map l m,.int .i64 ((s.n+1+k:Nat):Int),.msl 13 l q s.ds.length]):=fsH_box;have hT:Tabs (fsH H l b m q ⟨s.n+1+k,s.ds⟩):=Tabs.fs hT hl0;refine nD drawO ?_;refine aq2 hne hbk ?_;refine cT (ZrG ((s.n+1+k:Nat):Int) om om) ?_;have hil:=Lib.itoa_length_le ((s.n+1+k:Nat):Int) om om;have hmap':∀L,full n L (fsH H l b m q ⟨s.n+1+k,s.ds⟩) l m=some (.map (encS S)):=fun L=>by
    rw[Zj hl,ZlQ (fun e=>hbm e.2.symm) (fun e=>hmq e.2)];exact hmap
   refine⟨om,rfl,?_⟩;refine ZjX (Zf Tryz.func48 rfl rfl) (Zi.args (j48 (n+1) _ l m om S [newV (s.n+1+k)] sm (hmap' _)) (args':=[.map l m,.sl 1 [.str (newV (s.n+1+k))] .full]) ⟨.refl _,.any _ _ _,trivial⟩) (by simp only[go_sem,simprocAttr];rfl) ?_;have hh:Va S [newV (s.n+1+k)]=decide (newV (s.n+1+k)∈S):=by simp[Va]
   by_cases hx:newV (s.n+1+k)∈S
   ·have hk3:∀j,j<k+1→newV (s.n+1+j)∈S:=fun j hj=>by
     rcases Qg j k with h|h
     ·exact hk2 j h
     ·have:j=k:=by omega
      subst this;exact hx
    have hk4:=Zb1 hk3;have hw2:IntKind.i64.wrap (((s.n+1+k:Nat):Int)+1)=((s.n+1+(k+1):Nat):Int):=by rw[iw];omega
    rw[hh,decide_eq_true hx];refine aS ?_;refine nT ?_;refine nr ?_;simp only[go_sem,simprocAttr,hne,hbk,hw2,Zkq];refine⟨.inr (Ze.ZB ⟨.map _ _ hl,.int _ _,.msl _ _ _ _ hl,trivial⟩),?_⟩;refine nN ?_;refine⟨S.length+1 - (k+1),Zn5 t n l b m q s.n (k+1) s.ds H,om,?_,k+1,hk4,rfl,hk3,rfl⟩;unfold Zn5;exact KK
   ·have hnx:XD S s.n=s.n+1+k:=by
     unfold XD;exact Zc6 hk2 hx om
    rw[hh,decide_eq_false hx,hnx];refine aS ?_;refine nF ?_;refine nX ?_;refine nq2 hne hbk ?_;refine cT (ZrG ((s.n+1+k:Nat):Int) om om) ?_;refine⟨om,?_⟩;have hbuf:fsH H l b m q ⟨s.n+1+k,s.ds⟩ l q=some (.Zg 54 13 (flat (s.ds.map Je)) s.ds.length):=Zmk hbq;have hlen1:(s.ds++[(s.n+1+k,t)]).length=s.ds.length+1:=by simp
    have hset:=Zra (H:=H) (l:=l) (m:=m) (s:=⟨s.n+1+k,s.ds⟩) hbq ⟨s.n+1+k,s.ds++[(s.n+1+k,t)]⟩;have hflt:flat ((s.ds++[(s.n+1+k,t)]).map Je)=flat (s.ds.map Je)++flat [Je (s.n+1+k,t)]:=by rw[QG,YU];rfl
    rw[hlen1]at hset;rw[hflt]at hset;refine nD flO ?_;simp only[go_sem,simprocAttr,flO,hne,hbk,hbuf];refine ZhC (Zf Tryz.func49 rfl rfl) (j49 t ht) hn hT sS ?_;have hub:∀x,(fsH H l b m q ⟨s.n+1+k,s.ds⟩).upd l q x l b=some (.box [.map l m,.int .i64 ((s.n+1+k:Nat):Int),.msl 13 l q s.ds.length]):=fun x=>by
     rw[Za.upd_ne _ _ om];exact hbk
    simp only[go_sem,simprocAttr,flO,hne,hbk,hbuf,hub];have hbl:=ZeI (n:=n) (e:=54) (k:=s.ds.length+1) (s.ds++[(s.n+1+k,t)]);rw[hflt]at hbl;refine⟨rfl,⟨Zn om,om⟩,.inr hbl,.inr (Ze.ZB ⟨.map _ _ hl,.int _ _,.msl _ _ _ _ hl,trivial⟩),?_⟩;refine nR ?_;refine nV ?_;refine ZaY _ n 4 0 [.int .u8 3,.int .i64 0,.str (newV (s.n+1+k)),.sl 4 [] .full] sS (by simp only[go_sem,simprocAttr,full];rfl) rfl (Qe _) sS ?_ (Tm.blw _ _) ⟨rfl,hset⟩;rw[Tm.Vx];exact .deep (.Zei ⟨.refl _,.refl _,.refl _,.nil _ _ _,trivial⟩)
  have go:AKc ⟨Tryz.prog,tt,⟨none,B⟩,n,Tryz.f71.ntmps⟩ [.code (ZQ Tryz.f71).snd.snd.fst,.code (ZQ Tryz.f71).snd.snd.snd] (PostF Tryz.prog tt n Tryz.f71.results.toList fun r H1=>r=(Tm.mk 3 0 (newV (XD S s.n)) []).enc∧H1=fsH H l b m q ⟨XD S s.n,s.ds++[(XD S s.n,t)]⟩) ⟨[(4,.ptr n 4 0),(3,.ptr n 3 0),(0,.ptr l b 0)],[(3,.box t.cs),(4,.box [.int .u8 0,.int .i64 0,.str [],.sl 4 [] .full])],fsH H l b m q s⟩:=by
   refine nr ?_;simp only[go_sem,simprocAttr,hne,hbox,hwn,Zkq];refine⟨.inr (Ze.ZB ⟨.map _ _ hl,.int _ _,.msl _ _ _ _ hl,trivial⟩),?_⟩;refine ZK ?_ hcut;unfold Zn5;exact KK
  rcases hk with hk|hk
  ·have k5:(t.kind !=5)=false:=by simp;omega
   refine nq k5 ?_;refine nF ?_;refine kK ?_;refine ZK ?_ go;exact KK
  ·have k5:(t.kind !=5)=true:=by simp;omega
   have k6:(t.kind !=6)=false:=by simp;omega
   refine nq2 k5 k6 ?_;refine nF ?_;refine kK ?_;refine ZK ?_ go;exact KK
 ·have k5:(t.kind !=5)=true:=by simp;omega
  have k6:(t.kind !=6)=true:=by simp;omega
  have hfl:flT S t s.n=(.mk t.kind t.num t.name (flT.flTs S t.args s.n).1,(flT.flTs S t.args s.n).2.1,(flT.flTs S t.args s.n).2.2):=by
   cases t;exact WX hk
  have hend:J3 S t.args s t.args.length=fsT S t s:=by unfold J3 fsT;rw[QM,hfl]
  have hroom:∀i (h:i<t.args.length),ZmE S (J3 S t.args s i) t.args[i].sz:=fun i h=>by
   have h1:=Zhc S t.args s.n i;have h2:=Zf8 t.args i h;have h3:=Zbu t.args (i+1);have h4:=t.Zhu;have h5:(Tm.sz.szs (t.args.take i)+t.args[i].sz)*(S.length+2)≤t.sz*(S.length+2):=QD _ om;rw[Ue]at h5;refine⟨hr.sl,?_,?_⟩
   ·have:=hr.n;simp only[J3];omega
   ·have:=hr.d;simp only[J3,Qh];omega
  rw[hfl];refine nq2 k5 k6 ?_;refine nT ?_;refine nR ?_;obtain⟨L,hL⟩:∃L:List (Nat×Ze),L=[(3,.box [.int .u8 t.kind,.int .i64 t.num,.str t.name,.sl 4 (t.args.map Tm.enc) .any]),(4,.box [.int .u8 0,.int .i64 0,.str [],.sl 4 [] .full])]:=⟨_,rfl⟩
  rw[←hL];refine YW (caps:=[]) (avs:=[.sl 4 (t.args.map Tm.enc) .any,.bfn (.func 71) [.ptr l b 0]]) (Qc:=fun r H1=>r= .sl 4 ((flT.flTs S t.args s.n).1.map Tm.enc) .any∧H1=full n L (fsH H l b m q (J3 S t.args s t.args.length))) rfl (Zf Tryz.func70 rfl rfl) (by
   rw[Qu];have he:=Zt6 (n+1) t.args ht.len 71 [.ptr l b 0] _ _ (Zf Tryz.func71 rfl rfl) (flT.flTs S t.args s.n).1 (Zam S t.args s.n) (fun i=>full n L (fsH H l b m q (J3 S t.args s i))) ?_ ?_ ?_
   ·have h0:full n L (fsH H l b m q (J3 S t.args s 0))=full n L (fsH H l b m q s):=by rw[ZhO]
    simp only[h0]at he;exact he
   ·exact .bfn _ _ fun i hi=>by
     simp only[Qo,QB]at hi;have:i=0:=by omega
     subst this;exact .ptr _ _ _ om
   ·intro i h L';have h1:=hc t.args[i] (Qa h) (n+1+1) (full (n+1) L' (full n L H)) (J3 S t.args s i) om (by rw[Zj om,Zj om];exact hmap) ((hT.full hn).full om) (hroom i h);simp only[Zc8 (show l≠n+1 by omega),Zc8 (show l≠n by omega),ZhQ S t.args s i h];rw[Zmo S t.args s.n i h (by rw[Zam];exact h)];exact h1
   ·intro i h;simp only[Zc8 (show l≠n by omega)];exact Zh5 om hbq) sS ?_
  rintro r H1 ⟨rfl,rfl⟩;refine⟨L,fsH H l b m q (J3 S t.args s t.args.length),rfl,Zh5 hl hbq,?_⟩;rw[hL,hend];refine aS ?_;refine nR ?_;refine nV ?_;refine ZaY _ n 4 0 (Tm.mk t.kind t.num t.name (flT.flTs S t.args s.n).1).cs sS (by simp only[go_sem,simprocAttr,full];rfl) rfl (Qe _) sS ?_ (Tm.blw _ _) ⟨rfl,rfl⟩;rw[Tm.ZcH];exact .refl _
theorem j71(S:List Str)(l b m q:Nat)(hl0:0<l)(hbq:b≠q)(hbm:b≠m)(hmq:m≠q)(t:Tm)(ht:t.Good)(n:Nat)(H:Za)(s:FZs)(hl:l<n)(hmap:H l m=some (.map (encS S)))(hT:Tabs H)(hr:ZmE S s t.sz):
  Zi Tryz.prog n 71 [.ptr l b 0,t.enc] (fsH H l b m q s) fun r H1=>r=(flT S t s.n).1.enc∧H1=fsH H l b m q (fsT S t s):=
 Zus S t ht n H l b m q s hl hl0 hbq hbm hmq hmap om hT hr fun u hu n' H' s' h1 h2 h3 h4=>j71 S l b m q hl0 hbq hbm hmq u (ht.arg hu) n' H' s' h1 h2 h3 h4
termination_by SizeOf.sizeOf t
decreasing_by exact Tm.Xm hu
end
theorem e238(l:List Tm):Pure Tryz.prog 238 [eTs l] (.bool l.isEmpty):=by
 intro n H;refine aF Tryz.func238 fun B=>?_
 have h0:((l.length:Int)==0)=l.isEmpty:=by cases l<;>simp;omega
 refine nR ?_;refine nr ?_;simp only[go_sem,simprocAttr,eTs,h0];exact pB
theorem Zqi(ps:List (List Tm)):ZeX 238 [] eTs ps (·.isEmpty):=⟨⟨_,_,Zf Tryz.func238 rfl rfl⟩,fun x _=>Abs.Pure.tabs (e238 x),fun _=>trivial⟩
def Zff(s:Str)(n:Nat)(out:List Tm):List (Nat×Ze):=[(200,.Zg 40 4 (flat (out.map Tm.enc)) out.length),(4,.box [.msl 4 n 200 out.length]),(2,.box [.str s])]
def ZaC(ps:List (List Tm))(n:Nat):List (Nat×AV):=[(24,.fn (.func 267) [.iptr [.sl 1 (ps.map eTs) .any]]),(4,.ptr n 4 0),(2,.ptr n 2 0)]
noncomputable abbrev c201:Code:=(ZQ Tryz.f201).snd.snd.snd.snd.fst.snd
noncomputable def Zbj(s:Str)(ps:List (List Tm))(n l:Nat)(out:List Tm):List (Nat×Ze):=setb (Zff s n out) 100 (.lrec l Tryz.f201.ntmps 202 (ZaC ps n) #[25] c201.fst.fst c201.fst.snd .ready none)
noncomputable def Zbn(s:Str)(ps:List (List Tm))(n l:Nat)(H:Za)(out:List Tm):Za:=full n (Zbj s ps n l out) H
def ZsA(n:Nat):Opt:=⟨true,true,fun d=>if d=29∨d=33 then .heap else if d=34 then .at_ n 200 else if d=4 then .at_ n 4 else .auto,[]⟩
def Zpd(s:Str)(ps:List (List Tm))(n:Nat)(H:Za)(i c:Nat):Zb:=
 ⟨[(13,.int .i64 i),(12,.int .i64 ps.length),(11,.sl 1 (ps.map eTs) .any),(5,.int .i64 c),(1,.sl 1 (ps.map eTs) .any),(2,.ptr n 2 0),(4,.ptr n 4 0)],[(4,.box [.sl 4 [] .full]),(2,.box [.str s])],H⟩
def ZcC(s:Str)(r:List Tm):Tm:=.mk 4 0 s r
def ZjZ(s:Str)(o r:List Tm):Option (List Tm):=some (o++[ZcC s r])
theorem ZmZ(s:Str)(l:List (List Tm))(a:List Tm):l.foldlM (ZjZ s) a=some (a++l.map (ZcC s)):=ZhT (ZcC s) l a
theorem Zke(s:Str)(ps:List (List Tm)):WQ (ZjZ s) [] ps []=some ((Ye ps).map (ZcC s)):=by
 have:=ZmZ s (Ye ps) [];unfold WQ;simpa using this
section
variable {ps:List (List Tm)}
theorem Zjt{s:Str}{n l:Nat}{H:Za}(o o':List Tm):low (n+1) (Zbn s ps n l H o') (Zbn s ps n l H o)=Zbn s ps n l H o':=by
 funext a b;by_cases h:a<n+1
 ·rw[ZcN h]
 ·rw[JF h];unfold Zbn full;rw[if_neg om,if_neg om]
theorem Zo9(σ:List Tm)(z:AV)(hz:z.cells.length=4)(t:Tm):(flat (σ.map Tm.enc)++flat [z]).take (σ.length*4)++(t.cs++(flat (σ.map Tm.enc)++flat [z]).drop (σ.length*4+4))=flat ((σ++[t]).map Tm.enc):=by
 have hl:=ZgJ σ;have hz1:flat [z]=z.cells:=by simp[flat]
 rw[←hl,Gw,Ux (by rw[Qh,hz1,hz];exact Qe _),Qu,QG,YU];congr 1
 simp[flat,Tm.ZeF]
theorem Zqv{s:Str}{n l:Nat}{H G:Za}{σ σ':List Tm}(hA:∀a j,a<n+1→G a j=Zbn s ps n l H σ a j):
  ((((G.upd n 100 (.lrec l Tryz.f201.ntmps 202 (ZaC ps n) #[25] c201.fst.fst c201.fst.snd .busy none)).upd n 200 (.Zg 40 4 (flat (σ'.map Tm.enc)) σ'.length)).upd n 4 (.box [.msl 4 n 200 σ'.length])).upd n 100 (.lrec l Tryz.f201.ntmps 202 (ZaC ps n) #[25] c201.fst.fst c201.fst.snd .ready none))=low (n+1) (Zbn s ps n l H σ') G:=by
 funext a j;by_cases h:a<n+1
 ·rw[ZcN h];have h1:=hA a j h;unfold Za.upd;by_cases e:a=n
  ·subst e;by_cases e1:j=100
   ·subst e1;simp[Zbn,full,Zbj,Zff,setb,lkb]
   ·by_cases e2:j=4
    ·subst e2;simp[Zbn,full,Zbj,Zff,setb,lkb]
    ·by_cases e3:j=200
     ·subst e3;simp[Zbn,full,Zbj,Zff,setb,lkb]
     ·simp only[e1,e2,e3,and_false,if_false];rw[h1];simp[Zbn,full,Zbj,Zff,setb,lkb,Ne.symm e1,Ne.symm e2,Ne.symm e3]
  ·simp only[e,false_and,if_false];rw[h1];simp[Zbn,full,e]
 ·rw[JF h];unfold Za.upd;simp only[show¬a=n from fun c=>h om,false_and,if_false]
theorem Zr0(s:Str)(ps:List (List Tm))(N:Nat)(hN:ps.length=N+1)(hl:N+1≤1000)(n l:Nat)(H:Za):ZnF (n+1) l ps.length 40 4 Tm.enc (Zbn s ps n l H) (ZjZ s) (fun o _=>o.length<1000):=by
 have hbt:Yi (fun p=>Below (n+1) p.2) (ZaC ps n):=⟨Ja ⟨ZM (Vt _),trivial⟩,.ptr _ _ _ (Qr n),.ptr _ _ _ (Qr n),trivial⟩
 refine⟨fun m G σ row hok hm hrl hA h7=>?_,fun σ σ' a b x ha hx=>?_,fun x=>⟨by rw[Tm.Xl];rfl,fun m=>by rw[Tm.ZeF];exact(Tm.bcs x).mem⟩⟩
 ·have h100:G n 100=some (.lrec l Tryz.f201.ntmps 202 (ZaC ps n) #[25] c201.fst.fst c201.fst.snd .ready none):=(hA n 100 (Qr n)).trans (by simp[Zbn,full,Zbj,Zff,setb,lkb]);have h200:G n 200=some (.Zg 40 4 (flat (σ.map Tm.enc)) σ.length):=(hA n 200 (Qr n)).trans (by simp[Zbn,full,Zbj,Zff,setb,lkb]);have h4:G n 4=some (.box [.msl 4 n 200 σ.length]):=(hA n 4 (Qr n)).trans (by simp[Zbn,full,Zbj,Zff,setb,lkb]);have h2:G n 2=some (.box [.str s]):=(hA n 2 (Qr n)).trans (by simp[Zbn,full,Zbj,Zff,setb,lkb]);refine ZfH tt (x:=n) (y:=100) (Zf Tryz.func201 rfl rfl).get h100 om rfl dc fun B'=>?_
  show AKc _ _ _ ⟨(25,.msl 4 (n+1) 7 ps.length)::ZaC ps n,[],G⟩;unfold ZaC;refine nR ?_;refine nN ?_;refine⟨rfl,h100,?_⟩;refine aS ?_;obtain⟨G1,hG1⟩:∃G1,G1=G.upd n 100 (.lrec l Tryz.f201.ntmps 202 (ZaC ps n) #[25] c201.fst.fst c201.fst.snd .busy none):=⟨_,rfl⟩
  have h200':G1 n 200=some (.Zg 40 4 (flat (σ.map Tm.enc)) σ.length):=by rw[hG1,Za.upd_ne _ _ sm];exact h200
  have h4':G1 n 4=some (.box [.msl 4 n 200 σ.length]):=by rw[hG1,Za.upd_ne _ _ sm];exact h4
  have h2':G1 n 2=some (.box [.str s]):=by rw[hG1,Za.upd_ne _ _ sm];exact h2
  have h7':G1 (n+1) 7=some (.Zg 40 4 (flat (row.map Tm.enc)) ps.length):=by rw[hG1,Za.upd_ne _ _ sm];exact h7
  have hnm:¬n=m:=by omega
  have hnm1:¬n+1=m:=by omega
  change AKc _ _ _ ⟨_,[],G.upd n 100 (.lrec l Tryz.f201.ntmps 202 (ZaC ps n) #[25] c201.fst.fst c201.fst.snd .busy none)⟩;rw[←hG1];refine nD (ZsA n) ?_;simp only[go_sem,simprocAttr,ZsA,hnm,h4',h2'];rw[hN];rw[hN]at h7';refine ZbR (Zf Tryz.func240 rfl rfl) (fun G' hG'=>Ztp (m+1) G' (n+1) 7 N om row om om (XU hG'▸(Zj hm _ _ _).trans h7')) sS ?_;have hu4:∀x,G1.upd n 200 x n 4=some (.box [.msl 4 n 200 σ.length]):=fun x=>by rw[Za.upd_ne _ _ sm];exact h4'
  have hs1:=Zo9 σ (.agg [.int .u8 0,.int .i64 0,.str [],.sl 0 [] .full]) rfl (ZcC s row);have hzl:(flat (σ.map Tm.enc)++flat [AV.agg [.int .u8 0,.int .i64 0,.str [],.sl 0 [] .full]]).length=σ.length*4+4:=by rw[Qh,ZgJ];rfl
  simp only[go_sem,simprocAttr,ZsA,hnm,h4',h2',h200',Za.upd_same,hu4,hzl,Za.Zas];have hs1':(flat (σ.map Tm.enc)++flat [AV.agg [.int .u8 0,.int .i64 0,.str [],.sl 0 [] .full]]).take (σ.length*4)++(AV.int .u8 4::AV.int .i64 0::AV.str s::AV.sl 4 (row.map Tm.enc) .any::(flat (σ.map Tm.enc)++flat [AV.agg [.int .u8 0,.int .i64 0,.str [],.sl 0 [] .full]]).drop (σ.length*4+4))=flat ((σ++[ZcC s row]).map Tm.enc):=hs1;rw[hs1'];have hb0:Ze.Below m (.Zg 40 4 (flat (σ.map Tm.enc)++flat [.agg [.int .u8 0,.int .i64 0,.str [],.sl 0 [] .full]]) (σ.length+1)):=by
   refine⟨fun c hc=>?_,by simp[Ze.at_]⟩;rcases Qj.1 hc with hc|hc
   ·exact(WO (m:=0) σ).1 c hc
   ·exact Yi.mem (l:=[AV.int .u8 0,.int .i64 0,.str [],.sl 0 [] .full]) (p:=fun c=>Below m c) ⟨.int _ _,.int _ _,.str _,YT (fun _ h=>by cases h) (fun _ _ e=>by cases e),trivial⟩ c (by simpa[flat,AV.cells]using hc)
  refine⟨rfl,⟨Zn om,om⟩,.inr hb0,om,om,.inr (WO _),.inr (Ze.ZB ⟨.msl _ _ _ _ om,trivial⟩),?_⟩;refine nN ?_;refine⟨by show Za.upd (Za.upd _ _ _ _) _ _ _ _ _=_;rw[Za.upd_ne _ _ sm,Za.upd_ne _ _ sm,hG1,Za.upd_same];rfl,σ++[ZcC s row],rfl,rfl,?_⟩;rw[hG1];have hlow:=Zqv (σ':=σ++[ZcC s row]) hA;rw[Qh]at hlow;exact hlow
 ·unfold Zbn full at hx⊢;by_cases h:a=n
  ·rw[if_pos h]at hx;have hb:Yi (fun q:Nat×Ze=>q.2.Below (n+1)) (Zbj s ps n l σ'):=
    ⟨WO _,Ze.ZB ⟨.msl _ _ _ _ (Qr n),trivial⟩,Ze.ZB ⟨.str _,trivial⟩,Ze.ZaL hbt,trivial⟩
   exact .inr (hb.mem _ (lkb_mem hx))
  ·rw[if_neg h]at hx⊢;exact .inl hx
theorem ZuA(s:Str)(ps:List (List Tm))(N:Nat)(hN:ps.length=N+1)(hl:N+1≤1000)(hq:∀q∈ps,q.length≤1000000)(n:Nat)(H:Za)(hn:0<n)(hT:Tabs H):
  Z9 Tryz.prog 197 n 201 [.str s,.sl 1 (ps.map eTs) .any] H (fun r H'=>∃l,Zer s ps=some l∧r= .sl 4 (l.map Tm.enc) .any∧H'=H) (fun H'=>Zer s ps=none∧H'=H):=by
 have hcf:=Zvv ps om 238 [] (·.isEmpty) (Zqi ps);refine ZfD (T:=tt) tok (Zf Tryz.func201 rfl rfl) sm fun B=>?_
 refine ZhL tt (d:=(ZQ Tryz.f201).snd.snd.snd.snd) [(ZQ Tryz.f201).fst,(ZQ Tryz.f201).snd.fst,(ZQ Tryz.f201).snd.snd.fst,(ZQ Tryz.f201).snd.snd.snd.fst] rfl ?_;show AKc _ [.code _,.code _,.code _,.code _] _ _;refine nR ?_;refine nR ?_;refine cT (hcf) ?_;cases hany:ps.any (·.isEmpty)with
 |true=>
  have hf:Zer s ps=some []:=by unfold Zer;rw[hany];rfl
  refine nT ?_;refine nR ?_;refine nV ?_;refine Vk (ZaY _ n 4 0 [.sl 4 [] .full] sS sF rfl (Qe _) sS (.any _ _ _) (ZE []) ⟨[],hf,rfl,rfl⟩)
 |false=>
  have hf:Zer s ps=(Znn ps).bind fun _=>some ((Ye ps).map fun r=>.mk 4 0 s r):=by unfold Zer;rw[hany];rfl
  refine nF ?_;refine nR ?_;refine nR ?_;refine kK ?_;refine Zal (fun μ st=>∃i c,i≤ps.length∧μ=ps.length - i∧(ps.take i).foldlM cntF 1=some c∧c≤1000∧st=Zpd s ps n H i c) (m0:=ps.length) (s0:=Zpd s ps n H 0 1) rfl ?_ ⟨0,1,Un _,rfl,rfl,om,rfl⟩ ?_
  ·exact KK
  rintro μ st ⟨i,c,hi,rfl,hc,hc1,rfl⟩;refine Ya rfl ?_;rcases Qg i ps.length with h|h
  ·have hql:=hq _ (Qa h);have hstep:=fold_at cntF h hc;have hmul:c*ps[i].length≤1000*1000000:=QaQ hc1 hql;have hw:IntKind.i64.wrap ((c:Int)*(ps[i].length:Int))=((c*ps[i].length:Nat):Int):=by
    rw[IntWalk.i64_in _ (by rw[←Int.natCast_mul];omega)];simp
   refine nr ?_;refine aq h ?_;refine nT ?_;refine nr ?_;simp only[go_sem,simprocAttr,getD_map eTs _ _ h,h];repeat refine kn rfl ?_
   refine Yx 197 tok (pre:=[_,_,_,_]) (post:=[_]) rfl rfl rfl rfl ?_;simp only[go_sem,simprocAttr,eTs,hw];refine JL (Zf Tryz.func232 rfl rfl) (e232 (n+1) _ ((c*ps[i].length:Nat):Int)) sS ?_ ?_
   ·rintro r H1 ⟨hle,rfl,rfl⟩;refine⟨_,_,rfl,.refl _ _,?_⟩;have hle':¬1000<c*ps[i].length:=by omega
    have hcF:cntF c ps[i]=some (c*ps[i].length):=by unfold cntF;rw[if_neg hle']
    refine aS ?_;refine nR ?_;refine nN ?_;refine⟨ps.length - (i+1),Zpd s ps n H (i+1) (c*ps[i].length),om,?_,i+1,_,h,rfl,by rw[Zd7 _ h hc];exact hcF,om,rfl⟩;exact KK
   ·rintro H1 ⟨hgt,rfl⟩;refine⟨_,_,rfl,.refl _ _,?_⟩;refine WU ⟨rfl,?_,rfl⟩ _;have hcF:cntF c ps[i]=none:=by unfold cntF;rw[if_pos om]
    rw[hf,Zmd,hstep,hcF];rfl
  ·have hi':i=ps.length:=by omega
   subst hi';rw[QM]at hc;rw[Zmd,hc]at hf;have hrl:=rows_len ps 1 c hc;rw[QaF]at hrl;refine nr ?_;simp only[go_sem,simprocAttr,Uh];refine nF ?_;refine nX ?_;refine ZiF (show Zbo _ _ _ _ _ _ _ _ from ?_);refine Zdg rfl (Zdg rfl (ZqM (T:=tt) ?_));refine nR ?_;refine cP (Zuu ps) ?_;refine ZiF (show Zbo _ _ _ _ _ _ _ _ from ?_);refine Zey (JJ (j0:=4) (j:=200) (i:=0) 40 4 rfl rfl rfl) ?_;refine Zey (s':=⟨ZaC ps n,Zff s n [],H⟩) ?_ ?_
   ·unfold ZaC Zff;refine Zh ?_ ?_ ?_ ?_<;>repeat' first|apply q0|exact xx|apply aI
    all_goals first|exact Below.inside (v:=.fn (.func 267) [.iptr [.sl 1 (ps.map eTs) .any]]) (Ja ⟨ZM (Vt _),trivial⟩)|exact .msl _ _ _ _ (.inr ⟨rfl,rfl⟩)
   refine ZgG rfl ?_;refine ZbM (t:=197) (T:=tt) (caps:=[.iptr [.sl 1 (ps.map eTs) .any]]) 100 rfl (by unfold ZaC;simp only[go_sem,simprocAttr]) (Zf Tryz.func267 rfl rfl) rfl fun l=>?_
   have hok:∀pr r po σ',Ye ps=pr++r::po→pr.foldlM (ZjZ s) []=some σ'→σ'.length<1000:=fun pr r po σ' e1 e2=>by
    rw[ZmZ]at e2;cases e2;have:=congrArg List.length e1;simp at this⊢;omega
   refine⟨_,_,e267 (n:=n+1) (l:=l) (A:=Zbn s ps n l H) (step:=ZjZ s) (ok:=fun o _=>o.length<1000) _ ps om hq (Zr0 s ps N hN hl n l H) [] (fun a b _=>rfl) hok,?_,?_⟩
   ·rintro r H1 ⟨σ',hs,rfl⟩;rw[Zke]at hs;cases hs;refine⟨Zbj s ps n l ((Ye ps).map (ZcC s)),H,.ready,Zjt _ _,.refl _ _,rfl,sm,?_⟩;generalize hout:(Ye ps).map (ZcC s)=out at*;have hfu:Zer s ps=some out:=by rw[hf,←hout];rfl
    refine ZkO (ZqM (T:=tt) ?_);refine ZK (s':=⟨[(4,.ptr n 4 0)],[(200,.Zg 40 4 (flat (out.map Tm.enc)) out.length),(4,.box [.msl 4 n 200 out.length])],H⟩) ?_ ?_
    ·unfold ZaC Zbj Zff;exact KK
    refine ZK (YX (tm':=[(4,.ptr n 4 0)]) (av':=.sl 4 (out.map Tm.enc) .any) (j0:=4) (i:=0) (j:=200) 30 (show 30<Tryz.f201.ntmps by decide) (out.map Tm.enc) dc rfl rfl (.inl ⟨4,rfl,rfl⟩) rfl rfl (by rw[Qv]) (ZlH out) (ZaN out).mem ?_ ?_) ?_
    ·intro p hp;simp only[Ql]at hp;subst hp;exact⟨sm,.refl _,.ptr _ _ _ (.inr ⟨rfl,dc⟩)⟩
    ·intro p hp;simp[setb,delb]at hp;subst hp;exact Ze.ZA ⟨.dead,trivial⟩
    simp only[go_sem,simprocAttr,setb,delb,MJ,UZ];refine nR ?_;refine nV ?_;refine Vk (ZaY _ n 4 0 [.sl 4 (out.map Tm.enc) .any] sS sF rfl (Qe _) sS (.refl _) (ZE _) ⟨out,hfu,rfl,rfl⟩)
   ·rintro H1 ⟨hs,_⟩;rw[Zke]at hs;cases hs
end
end Go.Proofs.YtmdeagmbfhbbnaaGreatDoorR

namespace Go.Proofs
open Go.Shelf
theorem bO {P : Program} {i : FuncId} {B : Func} (h : ((((P.funcs[i]?).map Func.name).getD "") == "runtime.NumGoroutine") = false := by kernel_rfl) (h2 : P.funcs[i]? = some { B with name := ((P.funcs[i]?).map Func.name).getD "" } := by kernel_rfl) : Bears P i B := ⟨_, h, h2⟩
def Tryz.sort50_ren:Go.Shelf.Ren:=⟨fun|6=>50|15=>97|14=>96|28=>150|29=>151|20=>142|21=>143|22=>144|23=>145|24=>146|25=>147|26=>148|27=>149|46=>192|47=>193|48=>194|49=>195|50=>196|57=>229|n=>n,fun|22=>28|24=>34|25=>92|3=>3|39=>144|0=>0|53=>194|55=>196|4=>4|46=>188|45=>187|50=>165|5=>5|9=>9|66=>223|70=>227|76=>253|77=>254|n=>n,fun|n=>n⟩
theorem Tryz.sort50:Go.Proofs.SlLaysF0.n6 Tryz.prog Tryz.sort50_ren:=by
 repeat' first|kernel_rfl|exact bO|(intro w;kernel_rfl)|constructor
def Tryz.sort264_ren:Go.Shelf.Ren:=⟨fun|6=>264|15=>97|14=>286|28=>150|29=>151|20=>293|21=>294|22=>295|23=>296|24=>297|25=>298|26=>299|27=>300|46=>301|47=>193|48=>194|49=>302|50=>303|57=>304|n=>n,fun|22=>37|24=>40|25=>100|3=>3|39=>144|0=>0|53=>194|55=>196|4=>4|46=>188|45=>187|50=>165|5=>5|9=>9|66=>223|70=>227|76=>253|77=>254|n=>n,fun|n=>n⟩
theorem Tryz.sort264:Go.Proofs.SlLaysF0.n6 Tryz.prog Tryz.sort264_ren:=by
 repeat' first|kernel_rfl|exact bO|(intro w;kernel_rfl)|constructor
end Go.Proofs

namespace Go.Abs
open Go.Proofs Go.Shelf Go.Sort
def bare(E:Env):Env:={F:=E.F,m:=fun _ _=>none,hist:=fun _ _ _=>none,g:=fun _ _=>none,qd:=true}
section
variable {E:Env}
theorem VR.Zto(q:Bool){a:AV}{v:Value}(hv:VR E a v):VR {E with qd:=q} a v:=by
 induction hv with
 |int k n=>exact .int k n
 |bool b=>exact .bool b
 |str l=>exact .str l
 |nilp=>exact .nilp
 |ptr l k off b hm=>exact .ptr l k off b hm
 |iptr cs b off c hc _ ih=>exact .iptr cs b off c hc ih
 |slnil k o a ho ha=>exact .slnil k o a (by cases o<;>exact ho) ha
 |sl k xs o b off cap c hk hc _ hcap hm ho ih=>exact .sl k xs o b off cap c hk hc ih hcap hm (by cases o<;>exact ho)
 |nilf=>exact .nilf
 |fn f caps vs hl _ ih=>exact .fn f caps vs hl ih
 |bfn f caps vs hl _ ih=>exact .bfn f caps vs hl ih
 |nilm=>exact .nilm
 |map l k b hm=>exact .map l k b hm
 |mnil sz l k a hh ha=>exact .mnil sz l k a hh ha
 |msl sz l k n g cap hh=>exact .msl sz l k n g cap hh
 |eptr l k n off g cap hh=>exact .eptr l k n off g cap hh
 |ssl k xs ys b off cap c hk hc _ hcap hm ih=>exact .ssl k xs ys b off cap c hk hc ih hcap hm
 |nili=>exact .nili
 |Xg=>exact .Xg
 |sln k a cap hc=>exact .sln k a cap hc
 |sub sz l k n off m g cap hh hm=>exact .sub sz l k n off m g cap hh hm
 |ifc t a v _ ih=>exact .ifc t a v ih
 |agg cs vs hl _ ih=>exact .agg cs vs hl ih
 |tup cs vs hl _ ih=>exact .tup cs vs hl ih
 |dead v=>exact .dead v
theorem bare_eq(E:Env):bare E={(E.cut 0)with qd:=true}:=by
 simp[bare,Env.cut]
theorem VR.bare{E:Env}{a:AV}{v:Value}(hv:VR E a v)(hb:Below 0 a):VR (bare E) a v:=by
 rw[bare_eq];exact(hv.cut hb).Zto true
theorem Znq{w:World}(hF:∀b o v,E.F b o=some v→w.cell? ⟨b,o,none⟩=some v):Zt 0 (fun _ _=>none) (bare E) w where
 norm:=⟨fun _ _ _=>rfl,fun _ _ _=>rfl,fun _ _ _ _=>rfl⟩
 F:=hF
 blk l k b hl _:=absurd hl (Qm _)
 dom l k hl _:=absurd hl (Qm _)
 nobuf l k h:=absurd rfl h
 inj l k l' k' b h:=by cases h
 injg l k l' k' b h:=by cases h
 mg l k l' k' b h:=by cases h
 mF l k b o h:=by cases h
 lt b h:=by rcases h with⟨_,_,h⟩|⟨_,_,h⟩<;>cases h
theorem Zgu{P:Program}{g:FuncId}{args:List AV}{r:AV}{w:World}{vs:List Value}(h:Pure P g args r)(hv:VRs E args vs)(hb:∀a∈args,Below 0 a)
  (hF:∀b o v,E.F b o=some v→w.cell? ⟨b,o,none⟩=some v):Calls P g vs.toArray w fun e w'=>(∃v E',e= .returned v∧VR E' r v)∧ ∃q os,w'=grow (w.drewN q) os:=by
 have hv':VRs (bare E) args vs:=⟨hv.1,fun i h1 h2=>(hv.2 i h1 h2).bare (hb _ (Qa h1))⟩
 refine(h 0 _ (bare E) w vs (Znq hF) hv').mono ?_;rintro e w' ⟨r',v,H',E',rfl,⟨rfl,_⟩,h1,h2,hx⟩;refine⟨⟨v,E',rfl,h1⟩,w'.drawn - w.drawn,w'.heap.extract w.heap.size w'.heap.size,?_⟩;obtain⟨heap,tape,drawn,os,output⟩:=w';have e1:=hx.os;have e2:=hx.tape;have e3:=hx.output;have e4:=hx.drawn rfl;have e5:=hx.size;have e6:=hx.block;simp only at e1 e2 e3 e4 e5 e6;subst e1 e2 e3;have e7:heap=w.heap++heap.extract w.heap.size heap.size:=by
  apply Array.ext_getElem?;intro i;rcases Qg i w.heap.size with hi|hi
  ·rw[MR hi];exact e6 i hi (by rintro(⟨_,_,h⟩|⟨_,_,h⟩)<;>cases h)
  ·rw[Array.getElem?_append_right hi,Array.getElem?_extract];rcases Qg i heap.size with hj|hj
   ·rw[if_pos om];congr 1;omega
   ·rw[if_neg om,Qav hj]
 simp only[grow,World.drewN,World.mk.injEq,true_and,and_true];exact⟨e7,om⟩
theorem ZcT{α β:Type}(f:α→List β)(k:Nat)(hk:∀x,(f x).length=k)(k0:0<k):∀(l:List α) (t:Nat),(l.flatMap f)[t]? =(l[t / k]?).bind fun x=>(f x)[t % k]?
 |[],t=>by simp
 |x::l,t=>by
  rw[QS];rcases Qg t k with h|h
  ·rw[UL (by rw[hk];exact h),Qba h,Qac h];rfl
  ·rw[MV (by rw[hk];exact h),hk,ZcT f k hk k0 l (t - k)];have e1:t / k=(t - k) / k+1:=by rw[Nat.div_eq_sub_div k0 h]
   have e2:t % k=(t - k) % k:=QaV h;rw[e1,e2,UJ]
section
variable {X:Type} {P:Program} {ρ:Ren}
structure ZsE (G:X→Prop) (lt:X→X→Bool):Prop where
 irrefl:∀x,G x→lt x x=false
 trans:∀x y z,G x→G y→G z→lt x y=true→lt y z=true→lt x z=true
 ntrans:∀x y z,G x→G y→G z→lt x y=false→lt y z=false→lt x z=false
def Elt(E:Env)(cs:X→List AV)(G:X→Prop):={p:List Value×X // G p.2∧VRs E (cs p.2) p.1}
theorem Zp4(L:SlLaysF0.n6 P ρ)(k:Nat)(k0:0<k)(aE:∀w,(isAgg (ρ.t 24)).run P w= .ok true w)(zE:∀w,(Go.sizeOf (ρ.t 24)).run P w= .ok k w)(cs:X→List AV)(hk:∀x,(cs x).length=k)(hone:∀x,∀c∈cs x,c.one=true)
  (hbl:∀x,∀c∈cs x,Below 0 c) (cf:X→X→Int) (G:X→Prop) (hO:ZsE G (ltOf cf)) (g:Nat) (fn:Func) (c:Code) (hf:Fun P g fn c) (hp:∀x y,G x→G y→Pure P g [.agg (cs x),.agg (cs y)] (.int .i64 (cf x y)))
  (n:Nat) (H:Za) (l j e sz0:Nat) (xs:List X) (hl:l<n) (hG:∀x∈xs,G x) (hH:H l j=some (.Zg e k (xs.flatMap cs) xs.length)) (hlen:xs.length≤1000000000):
  Zi P n (ρ.f 6) [.msl sz0 l j xs.length,.fn (.func g) []] H fun r H'=>r= .tup []∧ ∃ys:List X,ys.Perm xs∧(∀i i' (h:i<ys.length) (h':i'<ys.length),i<i'→ltOf cf ys[i'] ys[i]=false)∧H'=H.upd l j (.Zg e k (ys.flatMap cs) ys.length):=fun E w vs hr hv=>by
 obtain⟨v1,r1,rfl,h1,hv⟩:=hv.YR;obtain⟨v2,r2,rfl,h2,hv⟩:=hv.YR;rw[hv.of_nil];cases h2 with|fn _ _ vs2 hl2 hv2=>
 have e2:vs2=[]:=by simpa using hl2
 subst e2;have hfl:∀(l:List X),(l.flatMap cs).length=l.length*k:=fun l=>by
  induction l with
  |nil=>simp
  |cons x l ih=>rw[QS,Qh,hk,ih,Qo,Ue];omega
 cases hxs:xs with
 |nil=>
  subst hxs;have hnone:∀a cap,Calls P (ρ.f 6) #[.slice a 0 cap,.func (.func g) #[] #[]] w fun e' w'=>∃r v H' E',e'= .returned v∧(r= .tup []∧ ∃ys:List X,ys.Perm []∧(∀i i' (h:i<ys.length) (h':i'<ys.length),i<i'→ltOf cf ys[i'] ys[i]=false)∧H'=H.upd l j (.Zg e k (ys.flatMap cs) ys.length))∧VR E' r v∧Zt n H' E' w'∧Ext n E w E' w':=fun a cap=>
   (AnyF.slices_SortFunc_none L a cap _ w).mono fun e' w' ⟨he,hw⟩=>by
    subst hw he;exact⟨.tup [],_,H,E,rfl,⟨rfl,[],.refl _,fun i _ h=>absurd h (Qm _),(Yd hH).symm⟩,.tup [] [] rfl (fun i h=>absurd h (Qm _)),hr,.refl _ _ _⟩
  generalize hz:AV.msl sz0 l j ([]:List X).length=av at h1;cases h1<;>cases hz
  ·exact hnone _ _
  ·exact hnone _ _
 |cons x0 xr=>
  rw[←hxs];have hpos:0<xs.length:=by rw[hxs];simp
  obtain⟨nx,hnx⟩:∃m,m=xs.length:=⟨_,rfl⟩
  rw[←hnx]at h1;generalize hz:AV.msl sz0 l j nx=av at h1;cases h1<;>cases hz
  ·omega
  rename_i gb cap hh;subst hnx;obtain⟨cc,q1,q2,q3,q4,q5,q6,q7,q8⟩:=hr.mrow hh hH hpos;have hle:xs.length*k≤cap*k:=QD _ q3;have hcs:xs.length*k≤cc.size:=by omega
  have hgb:gb<w.heap.size:=(QN.1 q2).1;have elt:∀i (hi:i<xs.length),G xs[i]∧VRs E (cs xs[i]) ((cc.toList.drop (i*k)).take k):=fun i hi=>by
   refine⟨hG _ (Qa hi),?_⟩;have hik:i*k+k≤xs.length*k:=by
    have:=QD k (show i+1≤xs.length from hi);rwa [Ue,QaF]at this
   refine⟨by rw[hk,QI,QL,Uf];omega,fun t ht ht'=>?_⟩;have htk:t<k:=by rw[hk]at ht;exact ht
   have hd:(i*k+t) / k=i:=by rw[Gs,Nat.mul_add_div k0,Qba htk,UD]
   have hm:(i*k+t) % k=t:=by rw[Gs,Nat.mul_add_mod,Qac htk]
   have a1:=ZcT cs k hk k0 xs (i*k+t);rw[hd,hm,Qd hi,UE,Qd ht]at a1;obtain⟨a2,a3⟩:=Q8.1 a1;have a4:=q7.2 (i*k+t) a2 (by rw[q7.1];exact a2);rw[a3]at a4;simpa[Gj,Qaa]using a4
  letI inh:Inhabited (Elt E cs G):=⟨⟨((cc.toList.drop (0*k)).take k,xs[0]),elt 0 hpos⟩⟩
  let enc:Elt E cs G→List Value:=fun p=>p.1.1
  let cf':Elt E cs G→Elt E cs G→Int:=fun p q=>cf p.1.2 q.1.2
  let d:Array (Elt E cs G):=Array.ofFn fun i:Fin xs.length=>⟨((cc.toList.drop (i.1*k)).take k,xs[i.1]),elt i.1 i.2⟩
  have hds:d.size=xs.length:=Array.size_ofFn;have hdg:∀i (hi:i<xs.length),d[i]! =⟨((cc.toList.drop (i*k)).take k,xs[i]),elt i hi⟩:=fun i hi=>by
   rw[getElem!_pos d i (by rw[hds];exact hi)];exact Array.getElem_ofFn _
  have hek:∀x,(enc x).length=k:=fun x=>by have:=x.2.2.1;rw[hk]at this;exact this
  have he1:∀x,∀v∈enc x,v.oneCell'=true:=fun x v hv=>by
   obtain⟨t,ht,rfl⟩:=QJ hv;have h0:=x.2.2.2 t (by rw[←x.2.2.1];exact ht) ht;exact h0.one (hone _ _ (Qa _))
  have hO':SWO (ltOf cf'):=⟨fun x=>hO.irrefl _ x.2.1,fun x y z=>hO.trans _ _ _ x.2.1 y.2.1 z.2.1,fun x y z=>hO.ntrans _ _ _ x.2.1 y.2.1 z.2.1⟩
  have hH0:HoldsK enc k w gb 0 d:=fun t ht=>by
   rw[size_flatK,hds]at ht;have hi:t / k<xs.length:=GL (by rw[Gs];exact ht);have htm:t % k<k:=QaN _ k0;have hcell:w.cell? ⟨gb,0+t,none⟩=cc[t]?:=by simp only[World.cell?,q2];simp
   have hfro:w.frozen? ⟨gb,0+t,none⟩=false:=by simp[World.frozen?,q2]
   refine⟨?_,hfro⟩;rw[hcell,get_flatK _ _ _ _ (by rw[hds];exact ht),hdg _ hi];have htt:t / k*k+t % k=t:=by rw[Gs];exact Qbe t k
   have hlt:t % k<((cc.toList.drop (t / k*k)).take k).length:=by rw[QI,QL,Uf];omega
   show cc[t]? =some (((cc.toList.drop (t / k*k)).take k)[t % k]!);have hgp:((cc.toList.drop (t / k*k)).take k)[t % k]! =((cc.toList.drop (t / k*k)).take k)[t % k]'hlt:=getElem!_pos ((cc.toList.drop (t / k*k)).take k) (t % k) hlt;rw[hgp,Gj,Qaa];rw[UK om];simp[htt]
  have hcmp:CmpLays P g #[] enc k cf' gb 0 d.size w:=fun m os dk hdk x y=>by
   have hs0:w.heap.size≤(sortWorldK enc k w gb 0 m dk os).heap.size:=size_sortWorldK_c enc k w gb 0 m dk os;have hcb:=Zgu (E:=E) (w:=sortWorldK enc k w gb 0 m dk os) (vs:=[.agg (enc x).toArray,.agg (enc y).toArray]) (hp _ _ x.2.1 y.2.1)
    (VRs.cons (.agg _ _ (by have:=x.2.2.1;exact this) x.2.2.2) (VRs.cons (.agg _ _ (by have:=y.2.2.1;exact this) y.2.2.2) (VRs.nil _)))
    (fun a ha=>by
     simp only[Qk,Qy,or_false]at ha;rcases ha with rfl|rfl<;>exact Xb (hbl _))
    (fun b o v hFv=>by
     have hne:b≠gb:=fun e'=>by subst e';rw[q6]at hFv;cases hFv
     have hlt:=hr.Zco hFv;unfold sortWorldK;rw[cell?_grow _ _ _ (by rw[size_putRowK];exact hlt),cell?_putRowK_other _ _ _ _ _ _ _ hne];exact hr.F _ _ _ hFv)
   refine Calls.mono hcb ?_;rintro e' w' ⟨⟨v,E',rfl,hvv⟩,hw⟩;cases hvv;exact⟨rfl,hw⟩
  have hs:=AnyQ.slices_SortFunc L k aE zE enc hek he1 cf' hO' g #[] gb 0 cap d w (Y4 hf) hcmp hH0 hgb (by rw[hds];omega);rw[hds]at hs;refine Calls.mono hs ?_;rintro e' w' ⟨rfl,d',m,os,⟨p1,p2,p3⟩,hso,rfl⟩;have hd's:d'.size=xs.length:=by rw[p1,hds]
  have pe1:d'.extract 0 xs.length=d':=by rw[←hd's];simp
  have pe2:d.extract 0 xs.length=d:=by rw[←hds];simp
  rw[pe1,pe2]at p3;have hdx:d.toList.map (fun p=>p.1.2)=xs:=by
   apply MZ
   ·simp[hds]
   ·intro i h1 h2;have hi:i<xs.length:=by simpa[hds]using h1
    have:=hdg i hi;rw[getElem!_pos d i (by rw[hds];exact hi)]at this;simp only[QO,U9,this]
  obtain⟨ys,hys⟩:∃ys,ys=d'.toList.map (fun p=>p.1.2):=⟨_,rfl⟩
  have hyl:ys.length=xs.length:=by rw[hys];simp[hd's]
  have hyg:∀i (hi:i<ys.length),ys[i]=(d'[i]!).1.2:=fun i hi=>by
   subst hys;rw[getElem!_pos d' i (by simpa using hi)];simp
  have hyp:ys.Perm xs:=by rw[hys,←hdx];exact p3.map _
  have hc':(putRowK enc k (Go.Sort.ahead w m) gb 0 d').heap[gb]? =some (.cells (putCells id 0 (flatK enc k d') cc) e (0,0)):=by
   simp only[putRowK,putRow,mapBlock,MX,if_true,Go.Sort.ahead,q2,Us,onCells]
  have hsz':(putCells id 0 (flatK enc k d') cc).size=cc.size:=by simp[putCells]
  obtain⟨hh2,hx2⟩:=hr.turn (w':=putRowK enc k (Go.Sort.ahead w m) gb 0 d') (.inr q1) (.Zg e k (ys.flatMap cs) ys.length) (fun _=>rfl) rfl rfl rfl (fun _=>Gu _ _) (by rw[size_putRowK];rfl)
   (fun b' hb'=>by simp only[putRowK,putRow,mapBlock,MX,Go.Sort.ahead];rw[if_neg (fun e=>hb' e.symm)]) q6 (by
    obtain⟨⟨_,v0,hv0,hj0,_⟩,hm0⟩:=hr.Zg l j e k (xs.flatMap cs) xs.length (hr.norm.Xr hh) hH;rw[hh]at hv0;cases hv0;rw[hyl];refine⟨⟨by rw[hfl,hyl],_,hh,hj0,.inr ⟨gb,cap,_,rfl,q1,hc',q3,q4,by rw[hsz',q5],q6,?_⟩⟩,hm0⟩;have hpl:(putCells id 0 (flatK enc k d') cc).toList.length=cc.size:=by rw[Uf];exact hsz'
    refine⟨by rw[hfl,hyl,QI,hpl];omega,fun t ht ht'=>?_⟩;rw[hfl,hyl]at ht;have hi:t / k<xs.length:=GL (by rw[Gs];exact ht);have htm:t % k<k:=QaN _ k0;have a1:=ZcT cs k hk k0 ys t;rw[Qd (l:=ys) (i:=t / k) om,UE,Qd (l:=cs ys[t / k]) (i:=t % k) (by rw[hk];exact htm),Qd (l:=ys.flatMap cs) (i:=t) (by rw[hfl,hyl];exact ht)]at a1;have a2:=UO a1;rw[a2];have a3:((putCells id 0 (flatK enc k d') cc).toList.take (xs.length*k))[t]=(enc d'[t / k]!)[t % k]!:=by
     rw[Gj];simp only[putCells,U9,QaH,size_flatK,hd's];rw[if_pos ⟨Un _,om⟩,MI,get_flatK _ _ _ _ (by rw[hd's];exact ht)];rfl
    rw[a3];have a4:=(d'[t / k]!).2.2;have hyq:=hyg (t / k) om;have a5:=a4.2 (t % k) (by rw[hk];exact htm) (by rw[a4.1,hk];exact htm);have a6:(enc d'[t / k]!)[t % k]! =(d'[t / k]!).1.1[t % k]'(by rw[a4.1,hk];exact htm):=getElem!_pos _ _ _;rw[a6];simp only[hyq];exact a5)
  obtain⟨hh3,hx3⟩:=hh2.below (w':=sortWorldK enc k w gb 0 m d' os) ⟨rfl,rfl,rfl,by simp[sortWorldK],fun b hb=>by simp[sortWorldK,grow,Qbj,hb]⟩ (fun _=>Qe _);refine⟨.tup [],_,_,E,rfl,⟨rfl,ys,hyp,fun i i' hi hi' hii=>?_,rfl⟩,.tup [] [] rfl (fun i h=>absurd h (Qm _)),hh3,hx2.trans hx3⟩;have:=hso i i' (Un _) hii om;rw[hyg i hi,hyg i' hi'];exact this
end
end
section
variable {P:Program} {ρ:Ren} {X:Type}
theorem Zns(L:SlLaysF.n6 P ρ)(L0:SlLaysF0.n6 P ρ)(c:X→AV)(hone:∀x,(c x).one=true)(hbl:∀x,Below 0 (c x))(cf:X→X→Int)(G:X→Prop)(hO:ZsE G (ltOf cf))(g:Nat)(fn:Func)(cd:Code)(hf:Fun P g fn cd)(hp:∀x y,G x→G y→Pure P g [c x,c y] (.int .i64 (cf x y)))
  (n:Nat) (H:Za) (l j e sz0:Nat) (xs:List X) (hG:∀x∈xs,G x) (hH:H l j=some (.Zg e 1 (xs.map c) xs.length)) (hlen:xs.length≤1000000000):
  Zi P n (ρ.f 6) [.msl sz0 l j xs.length,.fn (.func g) []] H fun r H'=>r= .tup []∧ ∃ys:List X,ys.Perm xs∧(∀i i' (h:i<ys.length) (h':i'<ys.length),i<i'→ltOf cf ys[i'] ys[i]=false)∧H'=H.upd l j (.Zg e 1 (ys.map c) ys.length):=fun E w vs hr hv=>by
 obtain⟨v1,r1,rfl,h1,hv⟩:=hv.YR;obtain⟨v2,r2,rfl,h2,hv⟩:=hv.YR;rw[hv.of_nil];cases h2 with|fn _ _ vs2 hl2 hv2=>
 have e2:vs2=[]:=by simpa using hl2
 subst e2;cases hxs:xs with
 |nil=>
  subst hxs;have hnone:∀a cap,Calls P (ρ.f 6) #[.slice a 0 cap,.func (.func g) #[] #[]] w fun e' w'=>∃r v H' E',e'= .returned v∧(r= .tup []∧ ∃ys:List X,ys.Perm []∧(∀i i' (h:i<ys.length) (h':i'<ys.length),i<i'→ltOf cf ys[i'] ys[i]=false)∧H'=H.upd l j (.Zg e 1 (ys.map c) ys.length))∧VR E' r v∧Zt n H' E' w'∧Ext n E w E' w':=fun a cap=>
   (AnyF.slices_SortFunc_none L0 a cap _ w).mono fun e' w' ⟨he,hw⟩=>by
    subst hw he;exact⟨.tup [],_,H,E,rfl,⟨rfl,[],.refl _,fun i _ h=>absurd h (Qm _),(Yd hH).symm⟩,.tup [] [] rfl (fun i h=>absurd h (Qm _)),hr,.refl _ _ _⟩
  generalize hz:AV.msl sz0 l j ([]:List X).length=av at h1;cases h1<;>cases hz
  ·exact hnone _ _
  ·exact hnone _ _
 |cons x0 xr=>
  rw[←hxs];have hpos:0<xs.length:=by rw[hxs];simp
  obtain⟨nx,hnx⟩:∃m,m=xs.length:=⟨_,rfl⟩
  rw[←hnx]at h1;generalize hz:AV.msl sz0 l j nx=av at h1;cases h1<;>cases hz
  ·omega
  rename_i gb cap hh;subst hnx;obtain⟨cc,q1,q2,q3,q4,q5,q6,q7,q8⟩:=hr.mrow hh hH hpos;rw[Qab]at q5 q7;have hgb:gb<w.heap.size:=(QN.1 q2).1;have ccs:xs.length≤cc.size:=by omega
  have elt:∀i (hi:i<xs.length),G xs[i]∧VR E (c xs[i]) cc[i]:=fun i hi=>by
   refine⟨hG _ (Qa hi),?_⟩;have a4:=q7.2 i (by simpa using hi) (by rw[q7.1];simpa using hi);simpa using a4
  let Elt1:={p:Value×X // G p.2∧VR E (c p.2) p.1}
  letI inh:Inhabited Elt1:=⟨⟨(cc[0],xs[0]),elt 0 hpos⟩⟩
  let enc:Elt1→Value:=fun p=>p.1.1
  let cf':Elt1→Elt1→Int:=fun p q=>cf p.1.2 q.1.2
  let d:Array Elt1:=Array.ofFn fun i:Fin xs.length=>⟨(cc[i.1],xs[i.1]),elt i.1 i.2⟩
  have hds:d.size=xs.length:=Array.size_ofFn;have hdg:∀i (hi:i<xs.length),d[i]! =⟨(cc[i],xs[i]),elt i hi⟩:=fun i hi=>by
   rw[getElem!_pos d i (by rw[hds];exact hi)];exact Array.getElem_ofFn _
  have he1:OneCell enc:=fun x=>x.2.2.one (hone _)
  have hO':SWO (ltOf cf'):=⟨fun x=>hO.irrefl _ x.2.1,fun x y z=>hO.trans _ _ _ x.2.1 y.2.1 z.2.1,fun x y z=>hO.ntrans _ _ _ x.2.1 y.2.1 z.2.1⟩
  have hH0:Holds enc w gb 0 d:=fun t ht=>by
   have hi:t<xs.length:=by rw[hds]at ht;exact ht
   have hcell:w.cell? ⟨gb,0+t,none⟩=cc[t]?:=by simp only[World.cell?,q2];simp
   refine⟨?_,by simp[World.frozen?,q2]⟩;rw[hcell,hdg _ hi,UK om]
  have hcmp:CmpLays1 P g #[] enc cf' gb 0 d.size w:=fun m os dk hdk x y=>by
   have hcb:=Zgu (E:=E) (w:=sortWorld enc w gb 0 m dk os) (vs:=[enc x,enc y]) (hp _ _ x.2.1 y.2.1) (VRs.cons x.2.2 (VRs.cons y.2.2 (VRs.nil _)))
    (fun a ha=>by
     simp only[Qk,Qy,or_false]at ha;rcases ha with rfl|rfl<;>exact hbl _)
    (fun b o v hFv=>by
     have hne:b≠gb:=fun e'=>by subst e';rw[q6]at hFv;cases hFv
     have hlt:=hr.Zco hFv;unfold sortWorld;rw[cell?_grow _ _ _ (by simp[putRow,mapBlock,Go.Sort.ahead];exact hlt),cell?_putRow_other _ _ _ _ _ _ (.inl hne)];exact hr.F _ _ _ hFv)
   refine Calls.mono hcb ?_;rintro e' w' ⟨⟨v,E',rfl,hvv⟩,hw⟩;cases hvv;exact⟨rfl,hw⟩
  have hs:=Any.slices_SortFunc L enc he1 cf' hO' g #[] gb 0 cap d w (Y4 hf) hcmp hH0 hgb (by rw[hds];omega);rw[hds]at hs;refine Calls.mono hs ?_;rintro e' w' ⟨rfl,d',m,os,⟨p1,p2,p3⟩,hso,rfl⟩;have hd's:d'.size=xs.length:=by rw[p1,hds]
  have pe1:d'.extract 0 xs.length=d':=by rw[←hd's];simp
  have pe2:d.extract 0 xs.length=d:=by rw[←hds];simp
  rw[pe1,pe2]at p3;have hdx:d.toList.map (fun p=>p.1.2)=xs:=by
   apply MZ
   ·simp[hds]
   ·intro i h1 h2;have hi:i<xs.length:=by simpa[hds]using h1
    have:=hdg i hi;rw[getElem!_pos d i (by rw[hds];exact hi)]at this;simp only[QO,U9,this]
  obtain⟨ys,hys⟩:∃ys,ys=d'.toList.map (fun p=>p.1.2):=⟨_,rfl⟩
  have hyl:ys.length=xs.length:=by rw[hys];simp[hd's]
  have hyg:∀i (hi:i<ys.length),ys[i]=(d'[i]!).1.2:=fun i hi=>by
   subst hys;rw[getElem!_pos d' i (by simpa using hi)];simp
  have hyp:ys.Perm xs:=by rw[hys,←hdx];exact p3.map _
  have hc':(putRow enc (Go.Sort.ahead w m) gb 0 d').heap[gb]? =some (.cells (putCells enc 0 d' cc) e (0,0)):=by
   simp only[putRow,mapBlock,MX,if_true,Go.Sort.ahead,q2,Us,onCells]
  have hsz':(putCells enc 0 d' cc).size=cc.size:=by simp[putCells]
  obtain⟨hh2,hx2⟩:=hr.turn (w':=putRow enc (Go.Sort.ahead w m) gb 0 d') (.inr q1) (.Zg e 1 (ys.map c) ys.length) (fun _=>rfl) rfl rfl rfl (fun _=>Gu _ _) (by simp[putRow,mapBlock,Go.Sort.ahead])
   (fun b' hb'=>by simp only[putRow,mapBlock,MX,Go.Sort.ahead];rw[if_neg (fun e=>hb' e.symm)]) q6 (by
    obtain⟨⟨_,v0,hv0,hj0,_⟩,hm0⟩:=hr.Zg l j e 1 (xs.map c) xs.length (hr.norm.Xr hh) hH;rw[hh]at hv0;cases hv0;rw[hyl];refine⟨⟨by simp[hyl],_,hh,hj0,.inr ⟨gb,cap,_,rfl,q1,hc',q3,q4,by rw[hsz',q5,Qab],q6,?_⟩⟩,hm0⟩;rw[Qab];have hpl:(putCells enc 0 d' cc).toList.length=cc.size:=by rw[Uf];exact hsz'
    refine⟨by rw[QI,hpl,Qv,hyl];omega,fun t ht ht'=>?_⟩;have ht2:t<ys.length:=by simpa using ht
    have htd:t<d'.size:=by omega
    rw[QO,hyg t ht2,Gj];simp only[putCells,U9,QaH];rw[if_pos ⟨Un _,om⟩,MI];exact(d'[t]!).2.2)
  obtain⟨hh3,hx3⟩:=hh2.below (w':=sortWorld enc w gb 0 m d' os) ⟨rfl,rfl,rfl,by simp[sortWorld,grow,enc],fun b hb=>by show((putRow enc (Go.Sort.ahead w m) gb 0 d').heap++os)[b]? =_;rw[MR hb]⟩ (fun _=>Qe _);refine⟨.tup [],_,_,E,rfl,⟨rfl,ys,hyp,fun i i' hi hi' hii=>?_,rfl⟩,.tup [] [] rfl (fun i h=>absurd h (Qm _)),hh3,hx2.trans hx3⟩;have:=hso i i' (Un _) hii om;rw[hyg i hi,hyg i' hi'];exact this
end
end Go.Abs

namespace Go.Proofs.YtmdeagmbfhbbnaaGreatDoorR
open Go.Abs
set_option maxRecDepth 100000
theorem Zmw{X:Type}{G:X→Prop}{c:X→X→Int}(h:Zg1 G c):ZsE G (ltOf c) where
 irrefl x hx:=by rw[ltOf,h.self hx];rfl
 trans x y z hx hy hz h1 h2:=by
  rw[ltOf,decide_eq_true_eq]at*;exact h.trans hx hy hz h1 h2
 ntrans x y z hx hy hz h1 h2:=by
  obtain⟨f,hf⟩:=h.ex;rw[ltOf,decide_eq_false_iff_not]at*;rw[hf _ _ hx hy]at h1;rw[hf _ _ hy hz]at h2;rw[hf _ _ hx hz];have a1:=lexI_anti (f x) (f y);have a2:=lexI_anti (f y) (f z);have a3:=lexI_anti (f x) (f z);have:=lexI_trans (f z) (f y) (f x) om om;omega
def SD(K:List Str)(b:Bnd):Prop:=XY K b∧b.length≤1000000
theorem Zts(K:List Str):Zg1 (SD K) YJ:=by
 obtain⟨⟨f,h1⟩,h2⟩:=ZrH K;exact⟨⟨f,fun x y hx hy=>h1 x y hx.1 hy.1⟩,fun x y hx hy=>h2 x y hx.1 hy.1⟩
theorem Tryz.sort50':Go.Proofs.SlLaysF.n6 Tryz.prog Tryz.sort50_ren:={Tryz.sort50 with a24:=Tryz.isAgg34,z24:=Tryz.sizeOf34}
theorem k50(n:Nat)(H:Za)(l j:Nat)(K:List Str)(xs:List Bnd)(hg:∀b∈xs,SD K b)(hlen:xs.length≤1000000)(hH:H l j=some (.Zg 34 1 (flat (xs.map Zk)) xs.length)):
  Zi Tryz.prog n 50 [.msl 1 l j xs.length,.fn (.func 51) []] H (fun r H'=>r= .tup []∧ ∃ys:List Bnd,ys.Perm xs∧(∀i i' (h:i<ys.length) (h':i'<ys.length),i<i'→ ¬YJ ys[i'] ys[i]<0)∧H'=H.upd l j (.Zg 34 1 (flat (ys.map Zk)) ys.length)):=by
 have hfl:∀q:List Bnd,flat (q.map Zk)=q.map Zk:=fun q=>by
  induction q with
  |nil=>rfl
  |cons x q ih=>rw[Qs,Yt,ih];rfl
 rw[hfl]at hH;have h:=Zns (P:=Tryz.prog) (ρ:=Tryz.sort50_ren) Tryz.sort50' Tryz.sort50 Zk (fun _=>rfl) (fun b=>Zx 0 b) YJ (SD K) (Zmw (Zts K)) 51 _ _ (Zf Tryz.func51 rfl rfl)
  (fun x y hx hy=>k51 x y hx.2 hy.2 (fun q hq=>YC (hx.1.1.val q hq)) (fun q hq=>YC (hy.1.1.val q hq))) n H l j 34 1 xs hg hH om
 refine Zi.mono h ?_;rintro r H' ⟨rfl,ys,hp,ha,rfl⟩;refine⟨rfl,ys,hp,fun i i' h h' hi=>?_,by rw[hfl]⟩;have:=ha i i' h h' hi;rw[ltOf,decide_eq_false_iff_not]at this;exact this
theorem serT:Zg1 Tm.Good cmpT:=⟨⟨ser,fun x y hx hy=>ZjC hx.nm hy.nm⟩,fun x y hx hy h=>cmpT_zero hx.nm hy.nm h⟩
theorem Zjg(q:List Tm):flat (q.map Tm.enc)=q.flatMap Tm.cs:=by
 induction q with
 |nil=>rfl
 |cons x q ih=>rw[Qs,Yt,ih,Tm.Xl];rfl
theorem Tm.cs1(x:Tm):∀c∈x.cs,c.one=true:=fun c hc=>by
 simp only[Tm.cs,Qk,Qy,or_false]at hc;rcases hc with rfl|rfl|rfl|rfl<;>rfl
theorem e264(n:Nat)(H:Za)(l j:Nat)(hl:l<n)(xs:List Tm)(hg:∀b∈xs,b.Good)(hlen:xs.length≤1000000)(hH:H l j=some (.Zg 40 4 (flat (xs.map Tm.enc)) xs.length)):
  Zi Tryz.prog n 264 [.msl 4 l j xs.length,.fn (.func 62) []] H (fun r H'=>r= .tup []∧ ∃ys:List Tm,ys.Perm xs∧(∀i i' (h:i<ys.length) (h':i'<ys.length),i<i'→ ¬cmpT ys[i'] ys[i]<0)∧H'=H.upd l j (.Zg 40 4 (flat (ys.map Tm.enc)) ys.length)):=by
 rw[Zjg]at hH;have h:=Zp4 (P:=Tryz.prog) (ρ:=Tryz.sort264_ren) Tryz.sort264 4 dc Tryz.isAgg40 Tryz.sizeOf40 Tm.cs (fun _=>rfl) Tm.cs1 (fun x=>x.bcs.mem) cmpT Tm.Good (Zmw serT) 62 _ _ (Zf Tryz.func62 rfl rfl)
  (fun x y hx hy=>by rw[←Tm.ZcH,←Tm.ZcH];exact a53 x y hx hy) n H l j 40 4 xs hl hg hH om
 refine Zi.mono h ?_;rintro r H' ⟨rfl,ys,hp,ha,rfl⟩;refine⟨rfl,ys,hp,fun i i' h h' hi=>?_,by rw[Zjg]⟩;have:=ha i i' h h' hi;rw[ltOf,decide_eq_false_iff_not]at this;exact this
def ZuY(l k m:Nat)(U:List Tm)(H:Za)(r:AV)(H':Za):Prop:=
 (r= .msl 4 l k m∧U.length=m∧H'=H.upd l k (.Zg 40 4 (flat (U.map Tm.enc)) m))∨
 (r= .sub 4 l k m 0 U.length∧0<m∧U.length≤m∧H'=H.upd l k (.Zg 40 4 (flat (U.map Tm.enc++List.replicate (m - U.length) zTm)) m))
theorem Zva(n:Nat)(H:Za)(l k:Nat)(hl:l<n)(xs:List Tm)(hg:∀b∈xs,b.Good)(hlen:xs.length≤1000000)(hH:H l k=some (.Zg 40 4 (flat (xs.map Tm.enc)) xs.length)):
  Z9 Tryz.prog 197 n 236 [.msl 4 l k xs.length] H (fun r H'=>(XM cmpT xs).length≤1000∧ZuY l k xs.length (XM cmpT xs) H r H') fun H'=>1000<(XM cmpT xs).length∧ ∃cs m,H'=H.upd l k (.Zg 40 4 cs m):=by
 have hne:¬l=n:=by omega
 refine xF Tryz.func236 fun B=>?_
 refine nR ?_;refine nR ?_;refine YW (caps:=[]) (avs:=[.msl 4 l k xs.length,.fn (.func 62) []]) rfl (Zf Tryz.func264 rfl rfl) (e264 (n+1) _ l k om xs hg hlen (by rw[Zj hl];exact hH)) sS ?_;rintro r H1 ⟨rfl,ys,hp,ha,rfl⟩;have hyl:xs.length=ys.length:=hp.length_eq.symm;have hkp:kpt cmpT ys ys.length=XM cmpT xs:=ZmL serT hg hp ha;refine⟨[],H.upd l k (.Zg 40 4 (flat (ys.map Tm.enc)) ys.length),(Yj n _ _ _ _ _ hne).symm,.upd (WO ys),?_⟩;obtain⟨H2,hH2⟩:∃H2,H2=H.upd l k (.Zg 40 4 (flat (ys.map Tm.enc)) ys.length):=⟨_,rfl⟩
 rw[←hH2,hyl];refine aS ?_;refine nR ?_;refine YW (caps:=[]) (avs:=[.msl 4 l k ys.length,.fn (.func 16) []]) rfl (Zf Tryz.func265 rfl rfl) (ZuR (n+1) _ l k om ys om (fun t ht=>hg t (hp.mem_iff.1 ht)) (by rw[Zj hl,hH2];exact Za.upd_same _ _ _ _)) sS ?_;rintro r H1 hq;unfold Zru at hq;rw[hkp]at hq;generalize XM cmpT xs=U at*;rcases hq with⟨rfl,rfl,e⟩|⟨rfl,hpos,hle,rfl⟩
 ·have hUl:U.length=ys.length:=by rw[e]
  refine⟨[],H2,rfl,.refl _ _,?_⟩;refine aS ?_;refine kK ?_;refine Yx 197 tok (pre:=[_,_]) (post:=[]) rfl rfl rfl rfl ?_;refine aS ?_;refine JL (Zf Tryz.func232 rfl rfl) (e232 (n+1) _ ys.length) sS ?_ ?_;rotate_left
  ·rintro H1 ⟨hgt,rfl⟩;exact⟨_,_,rfl,.refl _ _,rfl,om,_,_,hH2⟩
  rintro r H1 ⟨hle,rfl,rfl⟩;refine⟨_,_,rfl,.refl _ _,?_⟩;refine aS ?_;refine nR ?_;refine nV ?_;refine Vk (Zo (v:=.msl 4 l k ys.length) (.refl _) (.msl _ _ _ _ hl) ⟨om,.inl ⟨rfl,hUl,?_⟩⟩);rw[hH2,e]
 ·refine⟨[],H2.upd l k (.Zg 40 4 (flat (U.map Tm.enc++List.replicate (ys.length - U.length) zTm)) ys.length),(Yj n _ _ _ _ _ hne).symm,.upd ?_,?_⟩
  ·refine⟨(XJ fun x hx=>?_).mem,by simp[Ze.at_]⟩;rcases Qj.1 hx with hx|hx
   ·obtain⟨y,_,rfl⟩:=Qb.1 hx;exact Tm.blw n y
   ·rw[(Ug.1 hx).2];exact Xb (Yi.mem (l:=[AV.int .u8 0,.int .i64 0,.str [],.sl 4 [] .full]) (p:=fun c=>Below n c) ⟨.int _ _,.int _ _,.str _,YT (fun _ h=>by cases h) (fun _ _ e=>by cases e),trivial⟩)
  refine aS ?_;refine kK ?_;refine Yx 197 tok (pre:=[_,_]) (post:=[]) rfl rfl rfl rfl ?_;refine aS ?_;refine JL (Zf Tryz.func232 rfl rfl) (e232 (n+1) _ U.length) sS ?_ ?_;rotate_left
  ·rintro H1 ⟨hgt,rfl⟩;exact⟨_,_,rfl,.refl _ _,rfl,om,_,_,by rw[hH2,Za.Zas]⟩
  rintro r H1 ⟨hle2,rfl,rfl⟩;refine⟨_,_,rfl,.refl _ _,?_⟩;refine aS ?_;refine nR ?_;refine nV ?_;exact Vk (Zo (v:=.sub 4 l k ys.length 0 U.length) (.refl _) (.sub _ _ _ _ _ _ hl) ⟨om,.inr ⟨rfl,hpos,hle,by rw[hH2,Za.Zas]⟩⟩)
end Go.Proofs.YtmdeagmbfhbbnaaGreatDoorR

namespace Go.Abs
def AV.sc:AV→Bool
 | .int _ _=>true
 | .bool _=>true
 | .str _=>true
 |_=>false
theorem Zrs{E E':Env}{a:AV}{v:Value}(h:a.sc=true)(hv:VR E a v):VR E' a v:=by
 cases a<;>first|cases h|skip
 ·cases hv;exact .int _ _
 ·cases hv;exact .bool _
 ·cases hv;exact .str _
theorem ZpF{E E':Env}{az:List AV}{vs:List Value}(h:∀a∈az,a.sc=true)(hv:VRs E az vs):VRs E' az vs:=⟨hv.1,fun i h1 h2=>Zrs (h _ (Qa h1)) (hv.2 i h1 h2)⟩
theorem Znk{P:Program}{n:Nat}{f:FuncId}{H:Za}{pre rs:List AV}{q j e sz N:Nat}{xs:List AV}(h:Pure P f (pre++[.sl sz xs .any]) (.tup rs))(hH:H q j=some (.Zg e sz (flat xs) N))(hN:0<N)(hxN:xs.length=N)(hml:N≤maxLen)
  (hk:∀x∈xs,x.cells.length=sz) (hx:∀c∈flat xs,c.sc=true) (hp:∀a∈pre,a.sc=true) (hr:∀a∈rs,a.sc=true):PC P n f (pre++[.msl sz q j N]) H (.tup rs):=fun E w vs hrel hv=>by
 obtain⟨us,vl,rfl,hu,hm⟩:∃us vl,vs=us++[vl]∧VRs E pre us∧VR E (.msl sz q j N) vl:=by
  have hl:=hv.1;simp only[Qh,Qo,QB]at hl;refine⟨vs.take pre.length,vs[pre.length]'om,?_,⟨by simp;omega,fun i h1 h2=>?_⟩,?_⟩
  ·conv=>lhs;rw[←QX pre.length vs,Qw om]
   rw[Uk om]
  ·have:=hv.2 i (by simp;omega) (by simp at h2;omega);rw[MG h1]at this;simpa using this
  ·have:=hv.2 pre.length sm om;simpa using this
 cases hm with
 |mnil=>exact absurd hN (Uh 0)
 |msl _ _ _ _ g cap hh=>
  subst hxN;obtain⟨c,q1,q2,q3,q4,q5,q6,q7,q8⟩:=hrel.mrow hh hH hN;obtain⟨cs2,hcs⟩:∃cs2,cs2=c.toList.take (xs.length*sz):=⟨_,rfl⟩
  rw[←hcs]at q7;have hl2:cs2.length=xs.length*sz:=by rw[q7.1,flat_length hk]
  let E0:Env:={E with F:=fun b o=>if b=g then cs2[o]? else E.F b o,m:=fun _ _=>none,g:=fun _ _=>none,hist:=fun _ _ _=>none}
  have hF:∀b o v,E0.F b o=some v→w.cell? ⟨b,o,none⟩=some v:=fun b o v hb=>by
   simp only[E0]at hb;split at hb
   ·rename_i e;subst e;have hjl:o<xs.length*sz:=by rw[←hl2];exact(Q8.1 hb).1
    rw[hcs,QV hjl]at hb;simp only[World.cell?,q2];simpa using hb
   ·exact hrel.F b o v hb
  have h0:Zt n (fun _ _=>none) E0 w:=⟨⟨fun _ _ _=>rfl,fun _ _ _=>rfl,fun _ _ _ _=>rfl⟩,hF,fun _ _ _ _ h=>(by cases h),fun _ _ _ _=>⟨rfl,rfl,fun _=>rfl⟩,fun _ _ h=>absurd rfl h,fun _ _ _ _ _ h=>(by cases h),fun _ _ _ _ _ h=>(by cases h),fun _ _ _ _ _ h=>(by cases h),fun _ _ _ _ h=>(by cases h),fun b h=>by rcases h with⟨_,_,h⟩|⟨_,_,h⟩<;>cases h⟩
  have hs:VR E0 (.sl sz xs .any) (.slice (some ⟨g,0,none⟩) xs.length cap):=VR.WW (cs:=cs2) hk (ZpF hx q7) (fun jj u hj=>by simp only[E0,if_true,QF];exact hj) q3 hml trivial;have hcall:=h n (fun _ _=>none) E0 w (us++[.slice (some ⟨g,0,none⟩) xs.length cap]) h0 ((ZpF hp hu).append (VRs.cons hs (VRs.nil _)));refine hcall.mono ?_;rintro e' w' ⟨r,v,H',E',rfl,⟨rfl,rfl⟩,hrv,hrel',hext⟩;obtain⟨g1,g2⟩:=hrel.grow (w':=w') (F':=E.F) hext.os hext.tape hext.output hext.drawn hext.size (fun b hb=>hext.block b hb fun ho=>by rcases ho with⟨_,_,h⟩|⟨_,_,h⟩<;>cases h) (fun _ _ _ h=>h)
   (fun b o v hf=>by
    have hlt:=hrel.Zco hf;have:=hrel.F b o v hf;simp only[World.cell?,hext.block b hlt fun ho=>by rcases ho with⟨_,_,h⟩|⟨_,_,h⟩<;>cases h]at this⊢;exact this) (fun _ _ _=>rfl)
  refine⟨_,v,H,_,rfl,⟨rfl,rfl⟩,?_,g1,g2⟩;cases hrv with
  |tup _ vs' hl' hv'=>exact .tup _ _ hl' fun i h1 h2=>Zrs (hr _ (Qa h1)) (hv' i h1 h2)
end Go.Abs

namespace Go.Proofs.YtmdeagmbfhbbnaaGreatDoorR
open Go.Abs
set_option maxRecDepth 100000
/-! Sets of integers. -/
def Zdy(S:List Int)(x:Int):List Int:=if x∈S then S else S++[x]
def encI(S:List Int):List (AV×AV):=Zbb eInt eInt (S.map fun x=>(x,x))
theorem Zkf(x:Int):∀S:List Int,ZfM x x (S.map fun s=>(s,s))=(Zdy S x).map fun s=>(s,s)
 |[]=>rfl
 |y::r=>by
  have ih:=Zkf x r;simp only[Qs,ZfM];by_cases h:y=x
  ·simp[h,Zdy]
  ·rw[if_neg h,ih];have:¬x=y:=fun e=>h e.symm
   unfold Zdy;by_cases h2:x∈r<;>simp[h2,this]
theorem Zqu(x:Int)(S:List Int):ZaH (.int .i64 x) (.int .i64 x) (encI S)=encI (Zdy S x):=by
 unfold encI;rw[←Zkf];exact Zlf (ek:=eInt) kinj_int eInt x x _
theorem Zj6(S:List Int):(encI S).length=S.length:=by simp[encI,Zbb]
theorem Za3{n:Nat}(S:List Int):Ze.Below n (.map (encI S)):=ZjU (ZfY (ek:=eInt) (ev:=eInt) (fun _=>.int _ _) (fun _ _=>.int _ _))
theorem ZbB{n:Nat}{p:Nat→Prop}(S:List Int):Yi (fun c=>Inside n p c) (List.map (fun x=>x.1) (encI S)++List.map (fun x=>x.2) (encI S)):=Z5 fun c hc=>((Za3 (n:=n) S).1 c hc).inside
theorem Zph(S:List Int):∀p∈encI S,YE tt 3 p.1=true:=fun p hp=>by
 obtain⟨q,_,rfl⟩:=Qb.1 hp;rfl
section
variable {x:Int} {S:List Int}
theorem Zf5{y:Int}:y∈Zdy S x↔y∈S∨y=x:=by
 unfold Zdy;split
 ·rename_i h;constructor
  ·exact .inl
  ·rintro(h'|rfl)
   ·exact h'
   ·exact h
 ·simp
theorem ZcK(h:S.Nodup):(Zdy S x).Nodup:=by
 unfold Zdy;split
 ·exact h
 ·rename_i hx;exact GH.2 ⟨h,sm,fun a ha b hb e=>by simp only[Ql]at hb;subst hb;subst e;exact hx ha⟩
theorem ZpE:(Zdy S x).length≤S.length+1:=by unfold Zdy;split<;>simp
def Zac(op:Str)(S:List Int)(row:List Int):Option (List Int):=match X6 op row with
 |none=>some S
 |some v=>if 1000<(Zdy S v).length then none else some (Zdy S v)
theorem ZdJ{op:Str}:∀{l:List (List Int)} {S T:List Int},S.Nodup→S.length≤1000→l.foldlM (Zac op) S=some T→T.Nodup∧T.length≤1000∧ ∀x,x∈T↔x∈S∨x∈l.filterMap (X6 op)
 |[],S,T,h,h1,e=>by simp at e;subst e;exact⟨h,h1,sm⟩
 |r::l,S,T,h,h1,e=>by
  rw[Me]at e;unfold Zac at e;cases hc:X6 op r with
  |none=>
   rw[hc]at e;obtain⟨a,b,c⟩:=ZdJ h h1 e;exact⟨a,b,fun x=>by rw[c,GN,hc]⟩
  |some v=>
   rw[hc]at e;simp only at e;split at e
   ·cases e
   ·rename_i hl;obtain⟨a,b,c⟩:=ZdJ (ZcK h) om e;refine⟨a,b,fun x=>?_⟩;rw[c,GN,hc,Zf5,Qk,or_assoc]
theorem Zbe{op:Str}:∀{l:List (List Int)} {S:List Int},S.Nodup→l.foldlM (Zac op) S=none→ ∃T:List Int,T.Nodup∧1000<T.length∧ ∀x∈T,x∈S∨x∈l.filterMap (X6 op)
 |[],S,h,e=>by simp at e
 |r::l,S,h,e=>by
  rw[Me]at e;unfold Zac at e;cases hc:X6 op r with
  |none=>
   rw[hc]at e;obtain⟨T,a,b,c⟩:=Zbe h e;exact⟨T,a,b,fun x hx=>by rw[GN,hc];exact c x hx⟩
  |some v=>
   rw[hc]at e;simp only at e;split at e
   ·rename_i hl;refine⟨Zdy S v,ZcK h,hl,fun x hx=>?_⟩;rw[GN,hc,Qk];rcases Zf5.1 hx with hx|hx
    ·exact .inl hx
    ·exact .inr (.inl hx)
   ·obtain⟨T,a,b,c⟩:=Zbe (ZcK h) e;refine⟨T,a,b,fun x hx=>?_⟩;rw[GN,hc,Qk];rcases c x hx with hx|hx
    ·rcases Zf5.1 hx with hx|hx
     ·exact .inl hx
     ·exact .inr (.inl hx)
    ·exact .inr (.inr hx)
theorem Zrj(a b:Int):cmpT (Yg a) (Yg b)=YA a b:=by
 rw[Zfn];simp only[Yg,Tm.kind,Tm.num,Tm.args,Tm.name,if_true,QB];have h1:∀x:Int,YA x x=0:=fun x=>by simp[YA]
 have h2:Lib.compareBytes ([]:List UInt8) []=0:=cmpBytes_self [];rw[h1,YS,h1,h2,cmpT.cmps,YS,YS,YS];unfold thn;split<;>simp_all
theorem Zkk(h:Xa x=true):(Yg x).Good:=YC (value_of (ZiJ h) (by rw[ZhW];decide))
theorem Zpl(h:∀x∈S,Xa x=true):XM cmpT (S.map Yg)=(XM YA S).map Yg:=by
 have hg:∀y∈S.map Yg,y.Good:=fun y hy=>by obtain⟨x,hx,rfl⟩:=Qb.1 hy;exact Zkk (h x hx)
 refine serT.unique (fun y hy=>hg y ((serT.set_mem hg y).1 hy)) (serT.set_asc hg) ?_ fun x=>?_
 ·exact Qa2.2 ((serI.set_asc fun _ _=>trivial).imp fun{a b} h=>by rw[Zrj];exact h)
 ·rw[serT.set_mem hg,Qb,Qb];simp only[serI.set_mem (l:=S) fun _ _=>trivial]
variable {ps:List (List Tm)}
theorem Zna{op:Str}(h:(Ye (ps.map Ym)).foldlM (Zac op) []=some S){xs:List Tm}(hx:xs.Perm (S.map Yg)):Zbm op ps=some (XM cmpT xs)∧(XM cmpT xs).length≤1000∧ ∀t∈xs,t.Good:=by
 obtain⟨h1,h2,h3⟩:=ZdJ GU sm h;have hV:∀x,x∈S↔x∈(Ye (ps.map Ym)).filterMap (X6 op):=fun x=>by rw[h3];simp
 have hfit:∀x∈S,Xa x=true:=fun x hx=>by
  obtain⟨r,_,hr⟩:=QaR.1 ((hV x).1 hx);exact ZhH hr
 have hgx:∀t∈xs,t.Good:=fun t ht=>by
  obtain⟨x,hx,rfl⟩:=Qb.1 (hx.mem_iff.1 ht);exact Zkk (hfit x hx)
 have e1:XM cmpT xs=XM cmpT (S.map Yg):=serT.unique (fun y hy=>hgx y ((serT.set_mem hgx y).1 hy)) (serT.set_asc hgx) (serT.set_asc fun y hy=>hgx y (hx.mem_iff.2 hy)) fun x=>by
  rw[serT.set_mem hgx,serT.set_mem fun y hy=>hgx y (hx.mem_iff.2 hy),hx.mem_iff]
 have e2:XM YA S=XM YA ((Ye (ps.map Ym)).filterMap (X6 op)):=serI.unique (fun _ _=>trivial) (serI.set_asc fun _ _=>trivial) (serI.set_asc fun _ _=>trivial) fun x=>by
  rw[serI.set_mem fun _ _=>trivial,serI.set_mem fun _ _=>trivial,hV]
 have hnd:(XM YA S).Nodup:=(serI.set_asc (l:=S) fun _ _=>trivial).imp fun{a b} h e=>by subst e;rw[serI.self trivial]at h;omega
 have hle:(XM YA S).length≤1000:=Uw (Xq hnd fun x hx=>(serI.set_mem (fun _ _=>trivial) x).1 hx) h2;rw[e1,Zpl hfit];refine⟨?_,by simpa using hle,hgx⟩;unfold Zbm Zn4;rw[←e2,if_neg om]
theorem ZnP{op:Str}(h:(Ye (ps.map Ym)).foldlM (Zac op) []=none):Zbm op ps=none:=by
 obtain⟨T,h1,h2,h3⟩:=Zbe GU h;have:=Xq (q:=XM YA ((Ye (ps.map Ym)).filterMap (X6 op))) h1 fun x hx=>(serI.set_mem (fun _ _=>trivial) x).2 (by have:=h3 x hx;simpa using this)
 unfold Zbm Zn4;rw[if_pos om]
end
end Go.Proofs.YtmdeagmbfhbbnaaGreatDoorR

namespace Go.Abs
open Go.Proofs.YtmdeagmbfhbbnaaGreatDoorR
section
variable {S S':List Str}
theorem ZfN(h:∀n,n∈S↔n∈S')(l:List Str):Va S l=Va S' l:=by
 unfold Va;congr 1
 funext n;exact decide_eq_decide.2 (h n)
theorem ZiE(h:∀n,n∈S↔n∈S'):Y0 S=Y0 S':=by
 funext x;unfold Y0;simp only[ZfN h]
theorem Zki(h:∀n,n∈S↔n∈S')(l:List Lt):Vf S l=Vf S' l:=by unfold Vf;rw[ZiE h]
theorem ZdF(h:∀n,n∈S↔n∈S'):XV S=XV S':=by funext x;unfold XV;rw[ZfN h]
def plG:Nat→List Str→List Lt→List (Stp×Lt)×List Str×List Lt
 |0,S,l=>([],S,l)
 |f+1,S,l=>match Vf S l with
  |none=>([],S,l)
  |some (s,x,r)=>let p:=plG f (ZO S (ZJ x)) r;((s,x)::p.1,p.2)
theorem plG_planF:∀(f:Nat) (S S':List Str) (l:List Lt),(∀n,n∈S↔n∈S')→(plG f S l).1.map Prod.fst=(planF f S' l).1∧(∀n,n∈(plG f S l).2.1↔n∈(planF f S' l).2.1)∧(plG f S l).2.2=(planF f S' l).2.2
 |0,S,S',l,h=>⟨rfl,h,rfl⟩
 |f+1,S,S',l,h=>by
  unfold plG planF;rw[Zki h l];cases Vf S' l with
  |none=>exact⟨rfl,h,rfl⟩
  |some p=>
   obtain⟨s,x,r⟩:=p;obtain⟨h1,h2,h3⟩:=plG_planF f (ZO S (ZJ x)) (S'++ZJ x) r fun n=>by rw[Vz,Qj,h n]
   exact⟨by simp[h1],h2,h3⟩
theorem ZgO{f:Lt→Option Stp}{s:Stp}:∀(l:List Lt) (i:Nat) (h:i<l.length),(∀j (h:j<l.length),j<i→f l[j]=none)→f l[i]=some s→ZaD f l=some (s,l[i],l.take i++l.drop (i+1))
 |x::r,0,h,_,e=>by
  simp only[Ud]at e;simp[ZaD,e]
 |x::r,i+1,h,hn,e=>by
  have h0:=hn 0 sm om;simp only[Ud]at h0;have:=ZgO r i (by simpa using h) (fun j hj hji=>hn (j+1) (by simpa using hj) om) e;simp[ZaD,h0,this]
theorem ZaJ{f:Lt→Option Stp}:∀(l:List Lt),(∀j (h:j<l.length),f l[j]=none)→ZaD f l=none
 |[],_=>rfl
 |x::r,hn=>by
  have h0:=hn 0 sm;simp only[Ud]at h0;have:=ZaJ r (fun j hj=>hn (j+1) (by simpa using hj));simp[ZaD,h0,this]
variable {s:Stp} {l:List Lt}
theorem Zof(i:Nat)(h:i<l.length)(hn:∀j (h:j<l.length),j<i→Y0 S l[j]=none)(e:Y0 S l[i]=some s):Vf S l=some (s,l[i],l.take i++l.drop (i+1)):=by
 unfold Vf;rw[ZgO l i h hn e];rfl
theorem Zli(i:Nat)(h:i<l.length)(h0:∀j (h:j<l.length),Y0 S l[j]=none)(hn:∀j (h:j<l.length),j<i→JU l[j]=none)(e:JU l[i]=some s):Vf S l=some (s,l[i],l.take i++l.drop (i+1)):=by
 unfold Vf;rw[ZaJ l h0,ZgO l i h hn e];rfl
theorem ZpN(h0:∀j (h:j<l.length),Y0 S l[j]=none)(hn:∀j (h:j<l.length),JU l[j]=none):Vf S l=none:=by
 unfold Vf;rw[ZaJ l h0,ZaJ l hn];rfl
theorem ZkB{x:Lt}{r:List Lt}{f:Nat}(h:Vf S l=some (s,x,r))(hf:l.length=f+1):plG l.length S l=((s,x)::(plG f (ZO S (ZJ x)) r).1,(plG f (ZO S (ZJ x)) r).2):=by
 rw[hf,plG,h]
theorem Zqn(h:Vf S l=none):plG l.length S l=([],S,l):=by
 cases l with
 |nil=>rfl
 |cons x r=>rw[Qo,plG,h]
end
end Go.Abs
