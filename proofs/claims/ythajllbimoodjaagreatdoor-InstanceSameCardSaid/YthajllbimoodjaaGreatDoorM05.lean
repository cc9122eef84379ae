/- plan. -/
import Derived.Test.YthajllbimoodjaaGreatDoorM04
import Derived.Test.YthajllbimoodjaaGreatDoorM03
import Derived.Ground.SlsfProg
import Derived.Shelf.SlGeneric
import Derived.Shelf.SlSortCmp.NoneTotal
import Derived.Shelf.SlSortCmp.WholeK
import Derived.Shelf.SlSortCmp.Whole1
import Derived.Test.YthajllbimoodjaaGreatDoorM02
set_option linter.all false
set_option maxRecDepth 100000
open Go.Proofs.Tryz
noncomputable section
namespace Go.Proofs.YthajllbimoodjaaGreatDoor
open Go.Abs
def fnV(l bx:Nat):Stp×Lt->AV
 |(.test x,_)=>.fn (.func 179) [.iptr [.ptr l bx 0],.iptr x.cs]
 |(.bind s t,_)=>.fn (.func 181) [.iptr [.ptr l bx 0],.iptr [.str s],.iptr t.cs]
 |(.atom _,x)=>.fn (.func 183) [.iptr [.ptr l bx 0],.iptr x.cs]
def Zco(l bx:Nat)(s:Stp×Lt):(fnV l bx s).cells=[fnV l bx s]:=by
 obtain⟨s,x⟩:=s;cases s<;>rfl
def Znu(l bx:Nat)(s:Stp×Lt):(fnV l bx s).one=true:=by
 obtain⟨s,x⟩:=s;cases s<;>rfl
section
variable {n:Nat}
def Zcn(l bx:Nat)(h:l<n)(s:Stp×Lt):Below n (fnV l bx s):=by
 have b:Below n (.iptr [.ptr l bx 0]):=Zj ⟨.ptr _ _ _ h,trivial⟩;obtain⟨s,x⟩:=s;have key:∀f cs,ZW (fun c=>Below n c) cs->Below n (.fn f cs):=fun f cs h=>Below.fn _ _ fun i d=>h.mem _ (Qa d)
 cases s with
 |test y=>exact key _ _ ⟨b,Zj y.bcs,trivial⟩
 |bind s t=>exact key _ _ ⟨b,Zj ⟨.str _,trivial⟩,Zj t.bcs,trivial⟩
 |atom a=>exact key _ _ ⟨b,Zj x.bcs,trivial⟩
variable {l bx:Nat}
def ZhG{m:Nat}(h:l<n)(a:List (Stp×Lt)):Ze.Below n (.Zg 156 1 (a.map (fnV l bx)) m):=⟨fun c b=>by
 simp only[Ze.avs,Qg]at b;obtain⟨s,_,rfl⟩:=b;exact Zcn l bx h s,by simp[Ze.at_]⟩
def plH(H:Za)(l bx b q:Nat)(d c:AV)(a:List (Stp×Lt))(S:List Str):Za:=
 ((H.upd l b (.map (encS S))).upd l q (.Zg 156 1 (a.map (fnV l bx)) a.length)).upd l bx (.box [.map l b,d,c,.msl 1 l q a.length])
def ZmJ(n l bx d q:Nat)(b c:AV)(H:Za)(S:List Str)(e:List Lt)(a:List (Stp×Lt)):Zc:=
 ⟨[(5,.fn (.func 176) [.iptr [.ptr l bx 0],.ptr n 3 0]),(2,.iptr [.ptr l bx 0]),(3,.ptr n 3 0)],[(3,.box [.sl 13 (e.map Lt.enc) .any])],plH H l bx d q b c a S⟩
def I42(n l bx e q:Nat)(c d:AV)(H:Za)(D:List (Stp×Lt))(E:List Str×List Lt)(m:Nat)(s:Zc):Prop:=
 ∃S b a,m=b.length/\s=ZmJ n l bx e q c d H S b a/\(∀x∈b,Sm x)/\a++(plG b.length S b).1=D/\(plG b.length S b).2=E/\b.length+a.length<=1000000
variable {p:Nat->Prop}
def Zbs(a:l<n)(h:p 3):Inside n p (.fn (.func 176) [.iptr [.ptr l bx 0],.ptr n 3 0]):=
 .fn _ _ fun i b=>ZW.mem (l:=[.iptr [.ptr l bx 0],.ptr n 3 0]) (p:=fun c=>Inside n p c) ⟨(Zj (cs:=[.ptr l bx 0]) ⟨.ptr _ _ _ a,trivial⟩).inside,.ptr _ _ _ (.inr ⟨rfl,h⟩),trivial⟩ _ (Qa b)
def Zfr(a:l<n):Inside n p (.iptr [.ptr l bx 0]):=(Zj (cs:=[.ptr l bx 0]) ⟨.ptr _ _ _ a,trivial⟩).inside
def Zsd(H:Za)(l bx d q:Nat)(e:d≠q/\d≠bx/\q≠bx)(g i:AV)(c:List (Stp×Lt))(S f:List Str):(plH H l bx d q g i c S).upd l d (.map (encS f))=plH H l bx d q g i c f:=by
 funext a b;unfold plH Za.upd;by_cases h:a=l
 ·subst h;by_cases j:b=d
  ·subst j;simp[e.1,e.2.1]
  ·simp[j]
 ·simp[h]
def ZnI(H:Za)(l bx d q:Nat)(j:d≠q/\d≠bx/\q≠bx)(e f:AV)(c:List (Stp×Lt))(s:Stp×Lt)(S:List Str):
  ((plH H l bx d q e f c S).upd l q (.Zg 156 1 (c.map (fnV l bx)++[fnV l bx s]) (c.length+1))).upd l bx (.box [.map l d,e,f,.msl 1 l q (c.length+1)])=plH H l bx d q e f (c++[s]) S:=by
 funext a b;unfold plH Za.upd;by_cases h:a=l
 ·subst h;by_cases g:b=bx
  ·simp[g]
  ·by_cases i:b=q
   ·simp[g,i]
   ·simp[g,i]
 ·simp[h]
def ZpN(p q:List Lt):∀x∈ZaA p q,x.cells.length=13:=fun x a=>by
 rcases Qr.1 a with h|h
 ·obtain⟨y,_,rfl⟩:=Qg.1 h;rfl
 ·rw[Qo]at h;subst h;rfl
variable {tm:LN} {S:List Str}
def ZvU{N d q:Nat}(h:l<n)(y:d≠q/\d≠bx/\q≠bx){f g:AV}{H:Za}{p r:List Lt}{x:Lt}{a:List (Stp×Lt)}(v:83<N)
  (s:lkv tm 5= .fn (.func 176) [.iptr [.ptr l bx 0],.ptr n 3 0]) (o:lkv tm 2= .iptr [.ptr l bx 0]) (u:lkv tm 3= .ptr n 3 0):
  AWk n N ⟨tm,[(3,.box [.sub 13 n 200 (p++x::r).length 0 (p++r).length]),(200,.Zg 35 13 (flat (ZaA p r)) (p++x::r).length)],plH H l bx d q f g a S⟩ (ZmJ n l bx d q f g H S (p++r) a):=by
 have:=YU (n:=n) (N:=N) (tm:=tm) (tm':=(ZmJ n l bx d q f g H S (p++r) a).tmps) (L:=[(3,.box [.sub 13 n 200 (p++x::r).length 0 (p++r).length]),(200,.Zg 35 13 (flat (ZaA p r)) (p++x::r).length)]) (H:=plH H l bx d q f g a S)
  (j0:=3) (j:=200) (i:=0) (e:=35) (sz:=13) (k:=(p++x::r).length) (av':=.sl 13 ((p++r).map Lt.enc) .any) (cs0:=[.sub 13 n 200 (p++x::r).length 0 (p++r).length]) 83 v (ZaA p r) dc rfl rfl (.inr ⟨0,(p++r).length,rfl,?_⟩) rfl rfl ?_ (ZpN p r) ?_ ?_ ?_
 ·exact this
 ·rw[Qab,ZaA,Gq sm]
 ·simp[ZaA]
 ·intro c w;exact((Ze.ZhF (n:=n) (m:=0) p r).1 c w).inside
 ·intro t b;simp only[ZmJ,Ql,QA,or_false]at b;rcases b with rfl|rfl|rfl
  ·exact⟨show 5≠83 by decide,by rw[s];exact .refl _,by rw[s];exact Zbs h dc⟩
  ·exact⟨show 2≠83 by decide,by rw[o];exact .refl _,by rw[o];exact Zfr h⟩
  ·exact⟨show 3≠83 by decide,by rw[u];exact .refl _,by rw[u];exact .ptr _ _ _ (.inr ⟨rfl,dc⟩)⟩
 ·intro t b;simp only[setb,delb,if_true,Ql,QA,or_false]at b;simp at b;subst b;exact Ze.Zv ⟨.dead,trivial⟩
def Zq8{b q:Nat}{u:Fm}{N:Nat}(s:l<n)(v:0<l)(i:b≠q/\b≠bx/\q≠bx){d e:AV}{H:Za}(y:Tabs H){p r:List Lt}{x:Lt}(z:Sm x){a:List (Stp×Lt)}(f:(p++x::r).length<=1000000)
  {o:Oper} {g:Operand} {c:List Operand} {t:List TypeId} {F:Zc->Prop} (w:evT tm g= .fn (.func 176) [.iptr [.ptr l bx 0],.ptr n 3 0]) (A:Yo tt (evT tm) c t=[.int .i64 p.length])
  (h:F ⟨Yf tm o.dst (.tup []),[(3,.box [.sub 13 n 200 (p++x::r).length 0 (p++r).length]),(200,.Zg 35 13 (flat (ZaA p r)) (p++x::r).length)],plH H l bx b q d e a (ZO S (ZX x))⟩):
  WV ⟨prog,tt,u,n,N⟩ false o g c t ⟨tm,[(3,.box [.sl 13 ((p++x::r).map Lt.enc) .any])],plH H l bx b q d e a S⟩ F:=by
 have j:¬l=n:=om;have m:Tabs (full n [(3,.box [.sl 13 ((p++x::r).map Lt.enc) .any])] (plH H l bx b q d e a S)):=y.up fun k=>by
  rw[Zi om];unfold plH Za.upd;simp only[show¬(0:Nat)=l by omega,false_and,if_false]
 have B:=k84 (n+1) _ m l bx b n 3 200 s om v dc d e (.msl 1 l q a.length) (by rw[Zi s];simp[plH,Za.upd]) S (by rw[Zi s];simp[plH,Za.upd,i.1,i.2.1]) p r x z f (by simp[full,lkb]) (by simp[full,lkb]);refine YS (caps:=[.iptr [.ptr l bx 0],.ptr n 3 0]) (avs:=[.int .i64 p.length]) w (Zf func176 rfl rfl) B A ?_;rintro _ C ⟨rfl,rfl⟩;refine⟨[(3,.box [.sub 13 n 200 (p++x::r).length 0 (p++r).length]),(200,.Zg 35 13 (flat (ZaA p r)) (p++x::r).length)],(plH H l bx b q d e a S).upd l b (.map (encS (ZO S (ZX x)))),?_,.upd (WC _),?_⟩
 ·rw[<-Yj n _ _ _ _ _ j,<-Zm,<-Zm];rfl
 ·show F ⟨_,_,(plH H l bx b q d e a S).upd l b _⟩;rw[Zsd H l bx b q i];exact h
def plO:Opt:=⟨true,true,fun d=>if d=37\/d=38\/d=66\/d=67 then .pure else if d=44\/d=73 then .heap else .auto,[]⟩
theorem k42(n:Nat)(H:Za)(hT:Tabs H)(l bx e q:Nat)(h0:0<l)(hl:l<n)(t:e≠q/\e≠bx/\q≠bx)(w A:AV)(S:List Str)(a:List Lt)(W:∀x∈a,Sm x)(o:a.length<=1000000)(L:Below n w/\Below n A)
  (a2:H l bx=some (.box [.map l e,w,A,.msl 1 l q 0])) (hq:H l q=some (.Zg 156 1 [] 0)) (hm:H l e=some (.map (encS S))):
  Zh prog n 82 [.ptr l bx 0,.sl 13 (a.map Lt.enc) .any] H fun r H'=>r= .bool ((plG a.length S a).2.2.all (X0 (plG a.length S a).2.1))/\H'=plH H l bx e q w A (plG a.length S a).1 (plG a.length S a).2.1:=by
 have ay:¬l=n:=om;have hn:0<n:=om;obtain⟨D,N⟩:∃D,D=(plG a.length S a).1:=⟨_,rfl⟩
 obtain⟨E,R⟩:∃E,E=(plG a.length S a).2:=⟨_,rfl⟩
 have a3:plH H l bx e q w A [] S=H:=by
  unfold plH;rw[Z7 hm];exact(congrArg (fun G:Za=>G.upd l bx _) (Z7 hq)).trans (Z7 a2)
 rw[<-N,<-R];refine aF func82 fun B=>?_
 refine gh ?_;refine ZT 2 [.ptr l bx 0] [(2,.iptr [.ptr l bx 0]),(3,.ptr n 3 0)] rfl ⟨.ptr _ _ _ (.inl hl),trivial⟩ ?_ ⟨Ze.Zv ⟨(Ym a).inside,trivial⟩,trivial⟩ ?_
 ·exact⟨.inr ⟨0,rfl,rfl⟩,.inl ⟨.refl _,.ptr _ _ _ (.inr ⟨rfl,dc⟩)⟩,trivial⟩
 refine aS ?_;refine Zl4 (rest0:=(Zz Tryz.f82).snd.fst.snd.snd) 0 (I42 n l bx e q w A H D E) a.length (ZmJ n l bx e q w A H S a []) rfl rfl (fun _ _ h=>ZbY rfl (Zl5 rfl h)) ?_ ⟨S,a,[],rfl,rfl,W,N.symm,R.symm,by simpa using o⟩ ?_
 ·intro Q' h;rw[ZmJ,a3]at h;refine gh ?_;refine ZrT rfl ?_;refine ZJ ?_ h;exact KK
 rintro m _ ⟨S,a,done,rfl,rfl,W,N,R,o⟩;unfold ZmJ;obtain⟨G,hG⟩:∃G,G=plH H l bx e q w A done S:=⟨_,rfl⟩
 have I:G l bx=some (.box [.map l e,w,A,.msl 1 l q done.length]):=by rw[hG];simp[plH,Za.upd]
 have au:G l q=some (.Zg 156 1 (done.map (fnV l bx)) done.length):=by rw[hG];simp[plH,Za.upd,t.2.2]
 rw[<-hG];refine gh ?_;refine ZG (fun i=>⟨[(17,.int .i64 i),(16,.int .i64 a.length),(15,.sl 13 (a.map Lt.enc) .any),(5,.fn (.func 176) [.iptr [.ptr l bx 0],.ptr n 3 0]),(2,.iptr [.ptr l bx 0]),(3,.ptr n 3 0)],[(3,.box [.sl 13 (a.map Lt.enc) .any])],G⟩)
  (fun i=>∀j (h:j<a.length),j<i->XO S a[j]=none) a.length rfl ?_ (fun j _ h=>absurd h (Qj _)) ?_
 ·exact KK
 intro i hi hr;refine ZV rfl ?_;rcases Qd i a.length with h|h
 ·obtain⟨x,hx⟩:∃x,x=a[i]:=⟨_,rfl⟩
  have z:=W _ (Qa h);rw[<-hx]at z;refine nq h ?_;refine gH ?_;simp only[go_sem,simprocAttr,Lt.Zw _ _ h,h,<-hx];refine nR ?_;by_cases k2:x.kind=2
  ·refine nFq k2 ?_;refine nR ?_;refine cQ (j87 (n+1) _ l bx l e om om w A (.msl 1 l q done.length) ?_ S ?_ x z) ?_
   ·rw[Zi hl,hG];simp[plH,Za.upd]
   ·rw[Zi hl,hG];simp[plH,Za.upd,t.1,t.2.1]
   have ax:=Zo4 S x k2;generalize Zbf S x=rd at ax⊢;obtain⟨g,J,b⟩:=rd;refine aS ?_;cases b with
   |false=>
    have u:XO S x=none:=by rw[ax];rfl
    refine nR ?_;refine gm ?_;refine⟨fun j Y P=>?_,?_⟩
    ·rcases Qd j i with h'|h'
     ·exact hr j Y h'
     ·have:j=i:=om;subst this;rw[<-hx];exact u
    ·apply kZ;repeat' first|apply q0|exact xx|apply aI
     ·refine aS ?_;rw[iw];exact .refl _
     all_goals first|exact Zfr hl|exact(Ym a).inside|exact Zbs hl rfl
   |true=>
    refine nR ?_;refine nT ?_;have az:XO S x=some (if g=[]then .test x else .bind g J):=by rw[ax];rfl
    refine ZT 7 x.cs [(7,.iptr x.cs),(8,.ptr n 8 0),(9,.ptr n 9 0),(6,.int .i64 i),(5,.fn (.func 176) [.iptr [.ptr l bx 0],.ptr n 3 0]),(2,.iptr [.ptr l bx 0]),(3,.ptr n 3 0)] rfl (ZM fun c M=>(x.bcs.mem c M).inside) ?_ ?_ ?_
    ·exact⟨.inr ⟨0,rfl,rfl⟩,.inl ⟨.refl _,.ptr _ _ _ (.inr ⟨rfl,dc⟩)⟩,.inl ⟨.refl _,.ptr _ _ _ (.inr ⟨rfl,dc⟩)⟩,.inl ⟨.refl _,.int _ _⟩,.inl ⟨.refl _,Zbs hl dc⟩,.inl ⟨.refl _,Zfr hl⟩,.inl ⟨.refl _,.ptr _ _ _ (.inr ⟨rfl,dc⟩)⟩,trivial⟩
    ·exact⟨Ze.Zv ⟨(Ym a).inside,trivial⟩,Ze.Zv ⟨.str _,trivial⟩,Ze.Zv (ZM fun c M=>(J.bcs.mem c M).inside),trivial⟩
    refine aS ?_;refine ZT 8 [.str g] [(8,.iptr [.str g]),(7,.iptr x.cs),(9,.ptr n 9 0),(6,.int .i64 i),(5,.fn (.func 176) [.iptr [.ptr l bx 0],.ptr n 3 0]),(2,.iptr [.ptr l bx 0]),(3,.ptr n 3 0)] rfl ⟨.str _,trivial⟩ ?_ ?_ ?_
    ·exact⟨.inr ⟨0,rfl,rfl⟩,.inl ⟨.refl _,(Zj x.bcs).inside⟩,.inl ⟨.refl _,.ptr _ _ _ (.inr ⟨rfl,dc⟩)⟩,.inl ⟨.refl _,.int _ _⟩,.inl ⟨.refl _,Zbs hl dc⟩,.inl ⟨.refl _,Zfr hl⟩,.inl ⟨.refl _,.ptr _ _ _ (.inr ⟨rfl,dc⟩)⟩,trivial⟩
    ·exact⟨Ze.Zv ⟨(Ym a).inside,trivial⟩,Ze.Zv (ZM fun c M=>(J.bcs.mem c M).inside),trivial⟩
    refine aS ?_;refine ZT 9 J.cs [(9,.iptr J.cs),(8,.iptr [.str g]),(7,.iptr x.cs),(6,.int .i64 i),(5,.fn (.func 176) [.iptr [.ptr l bx 0],.ptr n 3 0]),(2,.iptr [.ptr l bx 0]),(3,.ptr n 3 0)] rfl (ZM fun c M=>(J.bcs.mem c M).inside) ?_ ?_ ?_
    ·exact⟨.inr ⟨0,rfl,rfl⟩,.inl ⟨.refl _,(Zj (cs:=[.str g]) ⟨.str _,trivial⟩).inside⟩,.inl ⟨.refl _,(Zj x.bcs).inside⟩,.inl ⟨.refl _,.int _ _⟩,.inl ⟨.refl _,Zbs hl dc⟩,.inl ⟨.refl _,Zfr hl⟩,.inl ⟨.refl _,.ptr _ _ _ (.inr ⟨rfl,dc⟩)⟩,trivial⟩
    ·exact⟨Ze.Zv ⟨(Ym a).inside,trivial⟩,trivial⟩
    refine gc ?_;refine Zah ⟨[(11,fnV l bx (if g=[]then .test x else .bind g J,x)),(6,.int .i64 i),(5,.fn (.func 176) [.iptr [.ptr l bx 0],.ptr n 3 0]),(2,.iptr [.ptr l bx 0]),(3,.ptr n 3 0)],[(3,.box [.sl 13 (a.map Lt.enc) .any])],G⟩ ?_ ?_
    ·by_cases K:g=[]
     ·rw[if_pos K];have Q:(!g==[])=false:=by simp[K]
      refine nFq Q ?_;refine nN ?_;refine⟨rfl,?_⟩;apply kZ;repeat' first|apply q0|exact xx|apply aI
      all_goals first|exact Zfr hl|exact(Ym a).inside|exact Zbs hl rfl|exact(Zcn l bx hl (Stp.test x,x)).inside|exact(Zcn l bx hl (Stp.bind g J,x)).inside
     ·rw[if_neg K];have Q:(!g==[])=true:=by simp[K]
      refine nTq Q ?_;refine gd ?_;refine⟨rfl,?_⟩;apply kZ;repeat' first|apply q0|exact xx|apply aI
      all_goals first|exact Zfr hl|exact(Ym a).inside|exact Zbs hl rfl|exact(Zcn l bx hl (Stp.test x,x)).inside|exact(Zcn l bx hl (Stp.bind g J,x)).inside
    generalize (if g=[]then Stp.test x else .bind g J)=s at az⊢;have d:=ZoO i h hr (hx▸az);refine nD plO ?_;obtain⟨Z,hG1⟩:∃Z,Z=G.upd l q (.Zg 156 1 (done.map (fnV l bx)++[fnV l bx (s,x)]) (done.length+1)):=⟨_,rfl⟩
    have F:Z l bx=some (.box [.map l e,w,A,.msl 1 l q done.length]):=by rw[hG1];simp only[Za.upd,t.2.2.symm,and_false,if_false];exact I
    have U:flat [fnV l bx (s,x)]=[fnV l bx (s,x)]:=by simp[flat,Zco]
    have a5:done.length+1<=1000000:=om;simp only[go_sem,simprocAttr,plO,ay,I,au,Zco,Znu,U,<-hG1,F];have e2:done.map (fnV l bx)++[fnV l bx (s,x)]=(done++[(s,x)]).map (fnV l bx):=sm;refine⟨rfl,⟨Zn om,om⟩,.inr (e2▸ZhG hl _),.inr (Ze.Zy ⟨.map _ _ hl,L.1,L.2,.msl _ _ _ _ hl,trivial⟩),?_⟩;rw[hG1,hG,ZnI H l bx e q t];obtain⟨p,r,hls,hpi⟩:∃p r,a=p++x::r/\p.length=i:=⟨a.take i,a.drop (i+1),by rw[hx];simp,by simp;omega⟩
    have V:a.take i++a.drop (i+1)=p++r:=by rw[hls,<-hpi];simp
    rw[<-hx,V]at d;subst hls hpi;refine nR ?_;refine Zq8 hl h0 t hT z om rfl sS ?_;refine gM ?_;have C:=ZkS d (f:=(p++r).length) (by simp;omega);refine Zp7 rfl (Zdq ⟨rfl,_,_,?_,ZvU hl t dc sS sS sS,⟨_,_,_,rfl,rfl,?_,?_,?_,?_⟩⟩ _)
    ·simp
    ·exact fun y hy=>W y (by rcases Qr.1 hy with h|h;all_goals simp[h])
    ·rw[<-N,C];simp
    ·rw[<-R,C]
    ·simp at o⊢;omega
  ·have a1:(x.kind !=2)=true:=by simp[k2]
   have u:XO S x=none:=by unfold XO;rw[if_neg k2]
   refine nTq a1 ?_;refine Zmg rfl rfl rfl ?_;refine gd ?_;refine⟨fun j Y P=>?_,?_⟩
   ·rcases Qd j i with h'|h'
    ·exact hr j Y h'
    ·have:j=i:=om;subst this;rw[<-hx];exact u
   ·apply kZ;repeat' first|apply q0|exact xx|apply aI
    ·refine aS ?_;rw[iw];exact .refl _
    all_goals first|exact Zfr hl|exact(Ym a).inside|exact Zbs hl rfl
 ·have O:i=a.length:=om;subst O;have av:∀j (h:j<a.length),XO S a[j]=none:=fun j h=>hr j h h
  refine nq (QC.2 h) ?_;refine gg ?_;refine gh ?_;refine ZG (fun i=>⟨[(53,.int .i64 i),(52,.int .i64 a.length),(51,.sl 13 (a.map Lt.enc) .any),(5,.fn (.func 176) [.iptr [.ptr l bx 0],.ptr n 3 0]),(2,.iptr [.ptr l bx 0]),(3,.ptr n 3 0)],[(3,.box [.sl 13 (a.map Lt.enc) .any])],G⟩)
   (fun i=>∀j (h:j<a.length),j<i->Zay a[j]=none) a.length rfl ?_ (fun j _ h=>absurd h (Qj _)) ?_
  ·exact KK
  intro i hi ha;refine ZV rfl ?_;rcases Qd i a.length with h|h
  ·obtain⟨x,hx⟩:∃x,x=a[i]:=⟨_,rfl⟩
   have z:=W _ (Qa h);rw[<-hx]at z;refine nq h ?_;refine gH ?_;simp only[go_sem,simprocAttr,Lt.Zw _ _ h,h,<-hx];by_cases k1:x.kind=1/\x.neg=false
   ·have e1:(x.kind==1)=true:=by simp[k1.1]
    have a6:Zay x=some (.atom x.at_):=by unfold Zay;rw[if_pos k1]
    have e2:(!x.neg)=true:=by simp[k1.2]
    refine nq2 e1 e2 ?_;refine nT ?_;refine ZT 13 x.cs [(13,.iptr x.cs),(12,.int .i64 i),(5,.fn (.func 176) [.iptr [.ptr l bx 0],.ptr n 3 0]),(2,.iptr [.ptr l bx 0]),(3,.ptr n 3 0)] rfl (ZM fun c M=>(x.bcs.mem c M).inside) ?_ ?_ ?_
    ·exact⟨.inr ⟨0,rfl,rfl⟩,.inl ⟨.refl _,.int _ _⟩,.inl ⟨.refl _,Zbs hl dc⟩,.inl ⟨.refl _,Zfr hl⟩,.inl ⟨.refl _,.ptr _ _ _ (.inr ⟨rfl,dc⟩)⟩,trivial⟩
    ·exact⟨Ze.Zv ⟨(Ym a).inside,trivial⟩,trivial⟩
    refine aS ?_;obtain⟨Z,hG1⟩:∃Z,Z=G.upd l q (.Zg 156 1 (done.map (fnV l bx)++[fnV l bx (.atom x.at_,x)]) (done.length+1)):=⟨_,rfl⟩
    have F:Z l bx=some (.box [.map l e,w,A,.msl 1 l q done.length]):=by rw[hG1];simp only[Za.upd,t.2.2.symm,and_false,if_false];exact I
    have aw:AV.fn (.func 183) [.iptr [.ptr l bx 0],.iptr x.cs]=fnV l bx (.atom x.at_,x):=rfl;simp only[Lt.cs]at aw;have U:flat [fnV l bx (.atom x.at_,x)]=[fnV l bx (.atom x.at_,x)]:=by simp[flat,Zco]
    have a5:done.length+1<=1000000:=om;have d:=Zmi i h av ha (hx▸a6);refine nD plO ?_;simp only[go_sem,simprocAttr,plO,ay,I,au,aw,Zco,Znu,U,<-hG1,F];have e2:done.map (fnV l bx)++[fnV l bx (.atom x.at_,x)]=(done++[(Stp.atom x.at_,x)]).map (fnV l bx):=sm;refine⟨rfl,⟨Zn om,om⟩,.inr (e2▸ZhG hl _),.inr (Ze.Zy ⟨.map _ _ hl,L.1,L.2,.msl _ _ _ _ hl,trivial⟩),?_⟩;rw[hG1,hG,ZnI H l bx e q t];obtain⟨p,r,hls,hpi⟩:∃p r,a=p++x::r/\p.length=i:=⟨a.take i,a.drop (i+1),by rw[hx];simp,by simp;omega⟩
    have V:a.take i++a.drop (i+1)=p++r:=by rw[hls,<-hpi];simp
    rw[<-hx,V]at d;subst hls hpi;refine nR ?_;refine Zq8 hl h0 t hT z om rfl sS ?_;refine gM ?_;have C:=ZkS d (f:=(p++r).length) (by simp;omega);refine Zp7 rfl (Zdq ⟨rfl,_,_,?_,ZvU hl t dc sS sS sS,⟨_,_,_,rfl,rfl,?_,?_,?_,?_⟩⟩ _)
    ·simp
    ·exact fun y hy=>W y (by rcases Qr.1 hy with h|h;all_goals simp[h])
    ·rw[<-N,C];simp
    ·rw[<-R,C]
    ·simp at o⊢;omega
   ·have u:Zay x=none:=by unfold Zay;rw[if_neg k1]
    have e1:((x.kind==1)&& !x.neg)=false:=by
     cases h1:(x.kind==1)with
     |false=>rfl
     |true=>
      cases h2:x.neg with
      |false=>exact absurd ⟨by simpa using h1,h2⟩ k1
      |true=>rfl
    cases h1:(x.kind==1)with
    |false=>
     refine nq h1 ?_;refine gm ?_;refine⟨fun j Y P=>?_,?_⟩
     ·rcases Qd j i with h'|h'
      ·exact ha j Y h'
      ·have:j=i:=om;subst this;rw[<-hx];exact u
     ·apply kZ;repeat' first|apply q0|exact xx|apply aI
      ·refine aS ?_;rw[iw];exact .refl _
      all_goals first|exact Zfr hl|exact(Ym a).inside|exact Zbs hl rfl
    |true=>
     rw[h1,QX]at e1;refine nq2 h1 e1 ?_;refine gm ?_;refine⟨fun j Y P=>?_,?_⟩
     ·rcases Qd j i with h'|h'
      ·exact ha j Y h'
      ·have:j=i:=om;subst this;rw[<-hx];exact u
     ·apply kZ;repeat' first|apply q0|exact xx|apply aI
      ·refine aS ?_;rw[iw];exact .refl _
      all_goals first|exact Zfr hl|exact(Ym a).inside|exact Zbs hl rfl
  ·have O:i=a.length:=om;subst O;have a4:∀j (h:j<a.length),Zay a[j]=none:=fun j h=>ha j h h
   have d:=Zsc (Zqq av a4);refine nq (QC.2 h) ?_;refine gG ?_;refine YS (caps:=[]) (avs:=[.sl 13 (a.map Lt.enc) .any,.fn (.func 185) [.iptr [.ptr l bx 0]]]) rfl (Zf func171 rfl rfl) (h78 a om 185 [.iptr [.ptr l bx 0]] (fun x=>!X0 S x) (n+1) _ ⟨⟨_,_,Zf func185 rfl rfl⟩,fun x hx m G2 hm X=>?_,fun m hm=>⟨Zj (cs:=[.ptr l bx 0]) ⟨.ptr _ _ _ om,trivial⟩,trivial⟩⟩) sS ?_
   ·exact k94 m G2 (hT.up fun k=>by
     rw[X 0 k om,Zi hn,hG];unfold plH Za.upd;simp only[show¬(0:Nat)=l by omega,false_and,if_false]) om l bx e om w A (.msl 1 l q done.length) (by rw[X _ _ om,Zi hl];exact I) S (by rw[X _ _ om,Zi hl,hG];simp[plH,Za.upd,t.1,t.2.1]) x (W x hx)
   rintro r H1 ⟨rfl,rfl⟩;refine⟨_,_,rfl,.refl _ _,?_⟩;refine gw ?_;rw[d,Qu]at N;rw[d]at R;subst N R;have a0:(!a.any fun x=>!X0 S x)=a.all (X0 S):=by
    rw[U7];simp
   show PostF prog tt n [.tmp 4] (fun r H'=>r=AV.bool (a.all (X0 S))/\H'=plH H l bx e q w A done S) .ret _;refine Zq (v:=.bool (a.all (X0 S))) ?_ (.bool _) ?_
   ·refine aq a0 ?_;exact .refl _
   ·exact⟨rfl,hG⟩
end
theorem cmps_len:∀{p q:LT},cmpT.cmps p q=0->p.length=q.length
 |[],[],_=>rfl
 |[],_::_,h=>by rw[cmpT.cmps]at h;cases h
 |_::_,[],h=>by rw[cmpT.cmps]at h;cases h
 |a::p,b::q,h=>by
  rw[cmpT.cmps]at h;unfold thn at h;split at h
  ·rw[Qm,Qm,cmps_len h]
  ·rename_i c;exact absurd h c
def Zol(b c:Bnd):Y9 b c=cmpT.cmps (b.map Prod.snd) (c.map Prod.snd):=by
 unfold Y9 thn;split
 ·rename_i h;have:=cmps_len h;simp only[Qv]at this;rw[h,this];simp[Yh]
 ·rfl
def k99(p q:Str×Tm)(a:p.2.Good)(b:q.2.Good):Pure prog 190 [eBd p,eBd q] (.int .i64 (cmpT p.2 q.2)):=by
 intro n H;refine aF func190 fun B=>?_
 refine gc ?_;refine cP (a53 p.2 q.2 a b) ?_;refine nV ?_;exact Zb (.refl _) (.int _ _) rfl
def Zxt(p q:Bnd)(H:Za)(i:Nat):Zc:=
 ⟨[(13,.int .i64 i),(12,.int .i64 p.length),(11,.sl 5 (p.map eBd) .any),(0,.sl 5 (p.map eBd) .any),(1,.sl 5 (q.map eBd) .any),(2,.fn (.func 190) [])],[],H⟩
def k98(p q:Bnd)(l:p.length<=1000000)(hq:q.length<=1000000)(j:∀x∈p,x.2.Good)(k:∀x∈q,x.2.Good):Pure prog 189 [.sl 5 (p.map eBd) .any,.sl 5 (q.map eBd) .any,.fn (.func 190) []] (.int .i64 (Y9 p q)):=by
 intro n H;rw[Zol];have hfi:∀r,Inside n r (.fn (.func 190) []):=fun r=>Inside.fn _ _ (fun i h=>absurd h (Qj _))
 refine aF func189 fun B=>?_
 refine gk ?_;refine ZG (Zxt p q H) (fun i=>cmpT.cmps (p.map Prod.snd) (q.map Prod.snd)=cmpT.cmps ((p.map Prod.snd).drop i) ((q.map Prod.snd).drop i)) p.length rfl ?_ rfl ?_
 ·exact KK
 intro i m a;refine ZV rfl ?_;rcases Qd i p.length with h|h
 ·refine nq h ?_;refine nT ?_;have b:i<(p.map Prod.snd).length:=by simpa using h
  refine nq2 (getD_map eBd _ _ h) h ?_;rcases Qd i q.length with h'|h'
  ·have e:i<(q.map Prod.snd).length:=by simpa using h'
   refine nq2 h' (QbG.2 h') ?_;refine nF ?_;refine nq2 (getD_map eBd _ _ h') h' ?_;refine nR ?_;refine cP (k99 p[i] q[i] (j _ (Qa h)) (k _ (Qa h'))) ?_;have g:=Zck (p.map Prod.snd) (q.map Prod.snd) i b e;simp only[QZ]at g;rw[g]at a;cases d:(cmpT p[i].2 q[i].2==0)with
   |false=>
    refine nr ?_;simp only[go_sem,simprocAttr,bne,d];refine gn ?_;refine Zb ?_ (.int _ _) rfl;rw[a,J3 (by simpa using d)];exact .refl _
   |true=>
    refine nr ?_;simp only[go_sem,simprocAttr,bne,d];refine gm ?_;refine⟨?_,?_⟩
    ·rw[a,(by simpa using d:cmpT p[i].2 q[i].2=0),YD]
    ·apply kZ;repeat' first|apply q0|exact xx|apply aI
     ·refine aS ?_;rw[iw];exact .refl _
     all_goals exact(ZH n _).inside
  ·refine nq h' ?_;refine gn ?_;refine Zb ?_ (.int _ _) rfl;rw[a,show(q.map Prod.snd).drop i=[] from UQ (by simpa using h'),QB b];exact .refl _
 ·refine nq (QC.2 h) ?_;refine gg ?_;have f:i=p.length:=om;subst f;rw[show(p.map Prod.snd).drop p.length=[] from UQ sm]at a;cases c:decide (p.length<q.length)with
  |true=>
   refine nq c ?_;refine gj ?_;refine Zb ?_ (.int _ _) rfl;have:=of_decide_eq_true c;rw[a,QB (by simpa using this)];exact .refl _
  |false=>
   refine nq c ?_;refine gF ?_;refine Zb ?_ (.int _ _) rfl;have:=of_decide_eq_false c;rw[a,show(q.map Prod.snd).drop p.length=[] from UQ (by simp;omega)];exact .refl _
def k51(p q:Bnd)(a:p.length<=1000000)(c:q.length<=1000000)(b:∀x∈p,x.2.Good)(d:∀x∈q,x.2.Good):Pure prog 90 [Zu p,Zu q] (.int .i64 (Y9 p q)):=by
 intro n H;have e:=k98 p q a c b d;refine aF func90 fun B=>?_
 refine gc ?_;refine XY (Zf func189 rfl rfl) (e) (by simp only[go_sem,simprocAttr,Zu]) ?_;simp only[go_sem,simprocAttr,Zu];refine nV ?_;exact Zb (.refl _) (.int _ _) rfl
def k53(p q:Bnd)(a:p.length<=1000000)(c:q.length<=1000000)(b:∀x∈p,x.2.Good)(d:∀x∈q,x.2.Good):Pure prog 92 [Zu p,Zu q] (.bool (Y9 p q==0)):=by
 intro n H;refine aF func92 fun B=>?_
 refine gc ?_;refine cP (k51 p q a c b d) ?_;exact pB
def okB(a:Option Str)(p:Str×Tm):Bool:=(match a with
 |none=>true
 |some s=>decide (Lib.compareBytes s p.1<0))&&Zt p.2
def vB:Option Str->Bnd->Bool
 |_,[]=>true
 |pr,p::r=>okB pr p&&vB (some p.1) r
def Zn1(s:Str)(v:Tm):∀r:Bnd,(Zt v&&vB (some s) r)=validB ((s,v)::r)
 |[]=>by simp[vB,validB]
 |p::r=>by
  have:=Zn1 p.1 p.2 r;simp only[vB,okB,validB]at this⊢;rw[<-this];cases Zt v<;>cases Zt p.2<;>simp
theorem vB_none:∀b:Bnd,vB none b=validB b
 |[]=>rfl
 |p::r=>by
  have:=Zn1 p.1 p.2 r;rw[<-this];simp[vB,okB]
def ZsP(x y:Str):(Op.bytesLess x y||x==y)= !decide (Lib.compareBytes y x<0):=by
 have a:=ZhN x y;have c:Lib.compareBytes y x= -Lib.compareBytes x y:=by rw[Zgm,Zgm,lexI_anti]
 rw[c,<-a];cases Op.bytesLess x y with
 |true=>simp
 |false=>
  cases b:x==y with
  |true=>simp
  |false=>simp
def Zmr(b:Bnd)(i:Nat):Option Str:=if i=0 then none else(b[i - 1]?).map Prod.fst
def Zxu(b:Bnd)(H:Za)(i:Nat):Zc:=⟨[(7,.int .i64 i),(6,.int .i64 b.length),(5,.sl 5 (b.map eBd) .any),(0,.sl 5 (b.map eBd) .any)],[],H⟩
def k39(b:Bnd)(p:b.length<=1000000)(o:∀x∈b,x.2.Good):Yb prog 80 [.sl 5 (b.map eBd) .any] (.bool (validB b)):=by
 intro n H hn hT;refine aF func80 fun B=>?_
 refine gk ?_;refine ZG (Zxu b H) (fun i=>validB b=vB (Zmr b i) (b.drop i)) b.length rfl ?_ (vB_none b).symm ?_
 ·exact KK
 intro i q d;refine ZV rfl ?_;rcases Qd i b.length with h|h
 ·rw[QB h,vB]at d;refine nq h ?_;refine nT ?_;refine nq2 (getD_map eBd _ _ h) h ?_;have m:=a37 b[i].2 (o _ (Qa h));have e:∀i (h:i<b.length),Zmr b (i+1)=some b[i].1:=fun i h=>by simp[Zmr,Qe h]
  cases i with
  |zero=>
   have j:okB (Zmr b 0) b[0]=Zt b[0].2:=by simp[okB,Zmr]
   rw[j]at d;have k:decide (0<(0:Int))=false:=rfl;refine XD tok mixed drawO rfl rfl rfl ?_;simp -implicitDefEqProofs (maxSteps:=1000000) only[go_sem,simprocAttr,k,Int.natCast_zero];refine cT (m) ?_;refine kK ?_;cases a:Zt b[0].2 with
   |false=>
    refine nTq a ?_;refine nR ?_;refine nW ?_;refine Zb ?_ (.bool _) rfl;rw[d,a];exact .refl _
   |true=>
    refine nFq a ?_;refine gd ?_;refine⟨by rw[d,a,e 0 h,QX],?_⟩;exact KK
  |succ i=>
   have g:i<b.length:=om;have j:okB (Zmr b (i+1)) b[i+1]=(decide (Lib.compareBytes b[i].1 b[i+1].1<0)&&Zt b[i+1].2):=by simp[okB,Zmr,Qe g]
   rw[j]at d;have f:decide (0<((i+1:Nat):Int))=true:=sm;have l:IntKind.i64.wrap (((i+1:Nat):Int) - 1)=(i:Int):=by rw[show((i+1:Nat):Int) - 1=(i:Int) by omega];exact iw
   cases c:decide (Lib.compareBytes b[i].1 b[i+1].1<0)with
   |false=>
    rw[c,QW,QW]at d;refine XD tok mixed drawO rfl rfl rfl ?_;simp -implicitDefEqProofs (maxSteps:=1000000) only[go_sem,simprocAttr,f,l,getD_map eBd _ _ g,g,ZsP,c];refine kK ?_;refine nTq c ?_;refine nR ?_;refine nW ?_;refine Zb ?_ (.bool _) rfl;rw[d];exact .refl _
   |true=>
    rw[c,QX]at d;refine XD tok mixed drawO rfl rfl rfl ?_;simp -implicitDefEqProofs (maxSteps:=1000000) only[go_sem,simprocAttr,f,l,getD_map eBd _ _ g,g,ZsP,c];refine cT (m) ?_;refine kK ?_;cases a:Zt b[i+1].2 with
    |false=>
     refine nTq a ?_;refine nR ?_;refine nW ?_;refine Zb ?_ (.bool _) rfl;rw[d,a];exact .refl _
    |true=>
     refine nFq a ?_;refine gd ?_;refine⟨by rw[d,a,e (i+1) h,QX],?_⟩;exact KK
 ·refine nq (QC.2 h) ?_;refine gt ?_;refine Zb ?_ (.bool _) rfl;rw[d,UQ h];exact .refl _
theorem Zm5{a:Type}(p:a->Bool)(l:List a):(l.any fun t=>!p t)= !l.all p:=by
 induction l with
 |nil=>rfl
 |cons x r ih=>simp only[List.any_cons,Qbi,ih,Bool.not_and]
def j79(x:Lt)(h:x.Good):Yb prog 172 [x.enc,.iptr [.fn (.func 169) []]] (.bool (!Xt x)):=by
 intro n H hn hT;have o:=h.at_.pred;have g:ZeY 169 [] Tm.enc x.at_.args (fun t=>!Zav t):=⟨⟨_,_,Zf func169 rfl rfl⟩,fun t m=>j76 t (h.at_.arg m),fun _=>trivial⟩
 refine aF func172 fun B=>?_
 refine gk ?_;by_cases b:x.kind=1
 ·have k:(x.kind==1)=true:=by simp[b]
  refine nq k ?_;refine gi ?_;refine cP (a45 x.at_.pred om) ?_;cases a:sym x.at_.pred with
  |false=>
   refine aS ?_;refine Zk rfl rfl ?_;refine Zb ?_ (.bool _) rfl;try simp only[go_sem,simprocAttr,Xt,b,a]
   exact .refl _
  |true=>
   cases c:decide ((8:Int)<(x.at_.args.length:Int))with
   |true=>
    have e:decide (x.at_.args.length<=8)=false:=by simp at c⊢;omega
    refine aq c ?_;refine Zk rfl rfl ?_;refine Zb ?_ (.bool _) rfl;try simp only[go_sem,simprocAttr,Xt,b,a,e]
    exact .refl _
   |false=>
    have e:decide (x.at_.args.length<=8)=true:=by simp at c⊢;omega
    refine aq c ?_;refine cT (a46 x.at_.args h.at_.len _ [] _ g) ?_;refine nV ?_;refine Zb ?_ (.bool _) rfl;simp only[go_sem,simprocAttr,Xt,b,a,e,Zm5];exact .refl _
 ·have k:(x.kind==1)=false:=by simp[b]
  refine nq k ?_;refine nF ?_;by_cases d:x.kind=2
  ·have e:(x.kind==2)=true:=by simp[d]
   refine nq e ?_;refine gi ?_;cases a:x.neg with
   |true=>
    refine aq a ?_;refine Zk rfl rfl ?_;refine Zb ?_ (.bool _) rfl;try simp only[go_sem,simprocAttr,Xt,b,d,a]
    exact .refl _
   |false=>
    cases c:decide (x.op<1)with
    |true=>
     have f:decide (1<=x.op)=false:=by simp at c⊢;omega
     refine aq2 a c ?_;refine Zk rfl rfl ?_;refine Zb ?_ (.bool _) rfl;try simp only[go_sem,simprocAttr,Xt,b,d,a,f]
     exact .refl _
    |false=>
     have f:decide (1<=x.op)=true:=by simp at c⊢;omega
     cases j:decide (6<x.op)with
     |true=>
      have i:decide (x.op<=6)=false:=by simp at j⊢;omega
      simp only[go_sem,simprocAttr,a,c,j];refine Zk rfl rfl ?_;refine Zb ?_ (.bool _) rfl;try simp only[go_sem,simprocAttr,Xt,b,d,a,f,i]
      exact .refl _
     |false=>
      have i:decide (x.op<=6)=true:=by simp at j⊢;omega
      simp only[go_sem,simprocAttr,a,c,j];refine Yp (avs:=[x.L.enc]) rfl (Zf func169 rfl rfl) (j76 x.L h.L _ _ (UR _) (hT.full hn)) rfl ?_;cases l:Zav x.L with
      |false=>
       refine aS ?_;refine Zk rfl rfl ?_;refine Zb ?_ (.bool _) rfl;try simp only[go_sem,simprocAttr,Xt,b,d,a,f,i,l]
       exact .refl _
      |true=>
       refine aS ?_;refine Yp (avs:=[x.R.enc]) rfl (Zf func169 rfl rfl) (j76 x.R h.R _ _ (UR _) (hT.full hn)) rfl ?_;refine aS ?_;refine Zk rfl rfl ?_;refine Zb ?_ (.bool _) rfl;try simp only[go_sem,simprocAttr,Xt,b,d,a,f,i,l]
       exact .refl _
  ·have e:(x.kind==2)=false:=by simp[d]
   refine nq e ?_;refine gv ?_;refine Zk rfl rfl ?_;refine Zb ?_ (.bool _) rfl;try simp only[go_sem,simprocAttr,Xt,b,d]
   exact .refl _
def j38(l:List Lt)(a:l.length<=1000000)(b:∀x∈l,x.Good):Yb prog 79 [.sl 13 (l.map Lt.enc) .any] (.bool (l.all Xt)):=by
 intro n H hn hT;refine aF func79 fun B=>?_
 refine gk ?_;refine ZT 3 [.fn (.func 169) []] [(2,.bool false),(3,.iptr [.fn (.func 169) []]),(0,.sl 13 (l.map Lt.enc) .any)] rfl ?_ ?_ trivial ?_
 ·exact⟨(ZaT (caps:=[]) trivial).inside,trivial⟩
 ·exact⟨.inl ⟨.refl _,.bool _⟩,.inr ⟨0,rfl,rfl⟩,.inl ⟨.refl _,(Ym l).inside⟩,trivial⟩
 refine nR ?_;refine cT (j78 l a 172 [.iptr [.fn (.func 169) []]] (fun x=>!Xt x) ⟨⟨_,_,Zf func172 rfl rfl⟩,fun x c=>j79 x (b x c),fun n=>⟨Zj ⟨ZaT (caps:=[]) trivial,trivial⟩,trivial⟩⟩) ?_;refine nV ?_;refine Zb ?_ (.bool _) rfl;simp only[go_sem,simprocAttr,Zm5,Bool.not_not];exact .refl _
section
variable {k:Nat}
def Zi0{a:LA}(h:∀x∈a,x.cells.length=k)(i:Nat)(b:i<a.length):((flat a).drop (i*k)).take k=a[i].cells:=by
 rw[<-Zcm h,QB b,Yc,Gq (h _ (Qa b))]
def mix{α:Type}(a b:List α):List α:=a++b.drop a.length
variable {α:Type}
def ZfJ{kept xs:List α}(h:kept.length<=xs.length):(mix kept xs).length=xs.length:=by simp[mix];omega
def ZdS{a b:List α}(j:Nat)(h:a.length<=j)(d:j<(mix a b).length)(c:j<b.length):(mix a b)[j]=b[j]:=by
 have:(mix a b)[j]? =b[j]?:=by unfold mix;rw[Gl h,Uy];congr 1;omega
 rw[Qe d,Qe c]at this;exact Uu this
def Zdi(enc:α->AV)(he:∀x,(enc x).cells.length=k){kept xs:List α}(x:α)(h:kept.length<xs.length):
  splice (flat ((mix kept xs).map enc)) (kept.length*k) (enc x).cells=flat ((mix (kept++[x]) xs).map enc):=by
 have hk:(flat (kept.map enc)).length=kept.length*k:=by rw[flat_length (k:=k) (mB fun z=>he z),Qv]
 unfold mix splice;rw[QB h];simp only[QM,Qs,YJ,Yc,UJ,Qh,Qai,flat_nil,Qu];rw[Gq hk,<-List.drop_drop,Qaz hk,he x,Qaz (he _),Q5]
def Zb9(enc:α->AV)(he:∀x,(enc x).cells.length=k){z:AV}(c:z.cells.length=k){kept xs:List α}(h:kept.length<=xs.length):
  splice (flat ((mix kept xs).map enc)) (kept.length*k) (flat (List.replicate (xs.length - kept.length) z))=flat (kept.map enc++List.replicate (xs.length - kept.length) z):=by
 have hk:(flat (kept.map enc)).length=kept.length*k:=by rw[flat_length (k:=k) (mB fun z=>he z),Qv]
 have hr:(flat ((xs.drop kept.length).map enc)).length=(xs.length - kept.length)*k:=by rw[flat_length (k:=k) (mB fun z=>he z),Qv,QL]
 have a:(flat (List.replicate (xs.length - kept.length) z)).length=(xs.length - kept.length)*k:=by rw[flat_length (k:=k) (fun y b=>by rw[(Ue.1 b).2];exact c),GX]
 unfold mix splice;simp only[QM,YJ];rw[Gq hk,<-List.drop_drop,Qaz hk,a,<-hr,Qao,Qu]
def kpt{α:Type}(c:α->α->Int)(a:List α):Nat->List α
 |0=>[]
 |m+1=>kpt c a m++if h:m<a.length then(if m=0\/c a[m] a[m - 1]≠0 then [a[m]]else [])else []
def Za7{α:Type}(c:α->α->Int)(a:List α):∀m,m<=a.length->(∀i (h:i<a.length),i<m->0<i->c a[i] a[i - 1]≠0)->kpt c a m=a.take m
 |0,_,_=>by simp[kpt]
 |m+1,b,h=>by
  rw[kpt,Za7 c a m om fun i d b=>h i d om,dif_pos om,Qn om];rw[if_pos];by_cases e:m=0
  ·exact .inl e
  ·exact .inr (h m om om om)
def ZnB{G:α->Prop}{c:α->α->Int}(S:Zhk G c){a l:List α}(q:∀x∈l,G x)(A:a.Perm l)(g:∀i i' (h:i<a.length) (D:i'<a.length),i<i'-> ¬c a[i'] a[i]<0):kpt c a a.length=X5 c l:=by
 have b:∀i (h:i<a.length),G a[i]:=fun i h=>q _ (A.mem_iff.1 (Qa h))
 have o:∀{s t:α},G s->G t-> ¬c s t<0-> ¬c t s<0->s=t:=fun{s t} hs ht h D=>by
  have:=S.anti (x:=s) (y:=t) hs ht;exact S.zero _ _ hs ht om
 have u:∀m,m<=a.length->(∀x,x∈kpt c a m↔ ∃j,∃h:j<a.length,j<m/\a[j]=x)/\(kpt c a m).Pairwise fun x y=>c x y<0:=by
  intro m;induction m with
  |zero=>intro _;simp[kpt]
  |succ m ih=>
   intro I;obtain⟨v,w⟩:=ih om;have d:m<a.length:=om;rw[kpt,dif_pos d];by_cases hk:m=0\/c a[m] a[m - 1]≠0
   ·rw[if_pos hk];refine⟨fun x=>?_,List.pairwise_append.2 ⟨w,sm,fun x f y B=>?_⟩⟩
    ·simp only[Qr,v,Qo];constructor
     ·rintro(⟨j,h,n,rfl⟩|rfl)
      ·exact⟨j,h,om,rfl⟩
      ·exact⟨m,d,om,rfl⟩
     ·rintro⟨j,h,n,rfl⟩;by_cases e:j=m
      ·subst e;exact .inr rfl
      ·exact .inl ⟨j,h,om,rfl⟩
    ·simp only[Qo]at B;subst B;obtain⟨j,h,n,rfl⟩:=(v x).1 f;have p:=g j m h d n;by_cases e:c a[j] a[m]<0
     ·exact e
     ·have z:=o (b _ h) (b _ d) e p;exfalso
      have k:a[m]≠a[m - 1]:=by
       intro e;rcases hk with hk|hk
       ·omega
       ·rw[<-e]at hk;exact hk (by have:=S.anti (x:=a[m]) (y:=a[m]) (b _ d) (b _ d);omega)
      by_cases E:j=m - 1
      ·subst E;exact k z.symm
      ·have F:=g j (m - 1) h om om;have H:=g (m - 1) m om d om;by_cases r:c a[m - 1] a[m]<0
       ·rw[<-z]at r;exact F r
       ·exact k (o (b _ d) (b _ om) H r)
   ·rw[if_neg hk,Qu];refine⟨fun x=>?_,w⟩;rw[v];constructor
    ·rintro⟨j,h,n,rfl⟩;exact⟨j,h,om,rfl⟩
    ·rintro⟨j,h,n,rfl⟩;by_cases e:j=m
     ·subst e;simp only[not_or,Decidable.not_not]at hk;exact⟨j - 1,om,om,(S.zero _ _ (b _ h) (b _ om) hk.2).symm⟩
     ·exact⟨j,h,om,rfl⟩
 obtain⟨p,C⟩:=u a.length (Qi _);refine S.unique (fun x f=>?_) C (S.set_asc fun x f=>q x f) fun x=>?_
 ·obtain⟨j,h,_,rfl⟩:=(p x).1 f;exact b _ h
 ·rw[S.set_mem fun x f=>q x f,p,<-A.mem_iff];constructor
  ·rintro⟨j,h,_,rfl⟩;exact Qa h
  ·intro f;obtain⟨j,h,rfl⟩:=QK f;exact⟨j,h,h,rfl⟩
end
theorem ZuI(x:Str×Tm):(eBd x).cells.length=5:=rfl
def Zs8(b:Bnd):∀y∈b.map eBd,y.cells.length=5:=fun y a=>by obtain⟨x,_,rfl⟩:=Qg.1 a;rfl
def Zel{n m:Nat}(b:Bnd):Ze.Below n (.Zg 155 5 (flat (b.map eBd)) m):=⟨(XH fun x hx=>by obtain⟨y,_,rfl⟩:=Qg.1 hx;exact ZfE n y).mem,by simp[Ze.at_]⟩
def Zqe(b:Bnd)(j:Nat)(h:j<b.length):((flat (b.map eBd)).drop (j*5)).take 5=(eBd b[j]).cells:=by
 have:=Zi0 (Zs8 b) j (by simpa using h);rw[this,QZ]
def Zi2(b:Bnd):(flat (b.map eBd)).length=b.length*5:=by rw[flat_length (Zs8 b),Qv]
def Zxg(l k:Nat)(b:Bnd)(f:Nat)(a:LA)(H:Za)(i:Nat):Zc:=
 ⟨[(8,.int .i64 i),(7,.int .i64 b.length),(1,.fn (.func f) a),(0,.msl 5 l k b.length)],[],H⟩
def k95(n:Nat)(H:Za)(l k:Nat)(hl:l<n)(b:Bnd)(D:b.length<=1000000)(f:Nat)(caps:LA)(p:Str×Tm->Bool)(r:Nat)(u:Za)(m:r<=n)(g:∀l' k,l'<r->H l' k=u l' k)(o:Zbm r u f caps eBd b p)(A:H l k=some (.Zg 155 5 (flat (b.map eBd)) b.length)):
  PC prog n 186 [.msl 5 l k b.length,.fn (.func f) caps] H (.int .i64 (Zc8 p b)):=by
 have e:¬l=n:=om;obtain⟨⟨s,c,z⟩,o,a⟩:=o;have hfi:∀q,Inside n q (.fn (.func f) caps):=fun q=>(Below.fn _ _ fun i w=>(a n m).mem _ (Qa w)).inside
 have hmi:∀q,Inside n q (.msl 5 l k b.length):=fun q=>.msl _ _ _ _ (.inl hl)
 refine aF func186 fun B=>?_
 refine gk ?_;refine ZG (Zxg l k b f caps H) (fun i=>∀j (h:j<b.length),j<i->p b[j]=false) b.length rfl ?_ (fun j _ h=>absurd h (Qj _)) ?_
 ·exact KK
 intro i w hq;refine ZV rfl ?_;rcases Qd i b.length with h|h
 ·have y:=Zqe b i h;have C:=Zi2 b;have E:i*5+5<=b.length*5:=om;refine nq h ?_;refine gi ?_;refine nq4 h e A y ?_;refine⟨⟨om,om⟩,?_⟩;refine Yp (avs:=[eBd b[i]]) rfl z (o b[i] (Qa h) (n+1) _ om fun l' k d=>(Zi (show l'<n by omega) _ _ _).trans (g l' k d)) rfl ?_;cases v:p b[i]with
  |true=>
   refine aS ?_;refine gn ?_;refine Zb ?_ (.int _ _) rfl;rw[Za4 h v hq];exact .refl _
  |false=>
   refine gI ?_;refine⟨fun j t x=>?_,?_⟩
   ·rcases Qd j i with h'|h'
    ·exact hq j t h'
    ·have:j=i:=om;subst this;exact v
   ·apply kZ;repeat' first|apply q0|exact xx|apply aI
    ·refine aS ?_;rw[iw];exact .refl _
    all_goals first|exact hfi _|exact hmi _
 ·refine nq (QC.2 h) ?_;refine gt ?_;refine Zb ?_ (.int _ _) rfl;rw[Vy (fun j t=>hq j t om)];exact .refl _
theorem ZoH{k:Type}(p:k->Bool)(b:List k):(Zc8 p b= -1/\ ∀x∈b,p x=false)\/ ∃i,∃h:i<b.length,Zc8 p b=i/\p b[i]=true/\ ∀j (h:j<b.length),j<i->p b[j]=false:=by
 by_cases h:∃i,∃h:i<b.length,p b[i]=true
 ·right
  have g:∃x∈b,p x=true:=by obtain⟨i,f,e⟩:=h;exact⟨_,Qa f,e⟩
  have a:=List.findIdx_lt_length_of_exists g;refine⟨b.findIdx p,a,?_,List.findIdx_getElem (w:=a),fun j d c=>by simpa using Qbu c⟩;exact Za4 a (List.findIdx_getElem (w:=a)) fun j d c=>by simpa using Qbu c
 ·left
  have l:∀x∈b,p x=false:=fun x g=>by
   obtain⟨i,f,rfl⟩:=QK g;cases e:p b[i]with
   |false=>rfl
   |true=>exact absurd ⟨i,f,e⟩ h
  exact⟨Vy fun j d=>l _ (Qa d),l⟩
def ktB(p:Str×Tm->Bool)(b:Bnd)(j:Nat):Bnd:=(b.take j).filter fun x=>!p x
def ZrX(p:Str×Tm->Bool)(b:Bnd)(j:Nat):(ktB p b j).length<=j:=by
 have a:=U0 (fun x=>!p x) (b.take j);have c:(b.take j).length<=j:=by rw[QJ];omega
 exact UA a c
def Zkx(p:Str×Tm->Bool)(b:Bnd)(j:Nat)(h:j<b.length):ktB p b (j+1)=ktB p b j++if p b[j]=true then []else [b[j]]:=by
 unfold ktB;rw[Qn h,Qa6];cases e:p b[j]<;>simp[e]
def Zsp(l k:Nat)(b:Bnd)(f:Nat)(a:LA)(p:Str×Tm->Bool)(H:Za)(j:Nat):Zc:=
 ⟨[(6,.int .i64 j),(5,.int .i64 (ktB p b j).length),(0,.msl 5 l k b.length),(1,.fn (.func f) a)],[],H.upd l k (.Zg 155 5 (flat ((mix (ktB p b j) b).map eBd)) b.length)⟩
def zBd:AV:=.agg [.str [],.int .u8 0,.int .i64 0,.str [],.sl 4 [] .full]
def Zn7{n:Nat}:ZW (fun c=>Below n c) zBd.cells:=⟨.str _,.int _ _,.int _ _,.str _,YR (fun _ h=>by cases h) (fun _ _ e=>by cases e),trivial⟩
def Zum(n l k:Nat)(b:Bnd)(p:Str×Tm->Bool)(H:Za)(r:AV)(a:Za):Prop:=
 (r= .msl 5 l k b.length/\a=H/\ktB p b b.length=b)\/
 (r= .sub 5 l k b.length 0 (ktB p b b.length).length/\0<b.length/\a=H.upd l k (.Zg 155 5 (flat ((ktB p b b.length).map eBd++List.replicate (b.length - (ktB p b b.length).length) zBd)) b.length))
def u45:Opt:=⟨false,false,fun d=>if d=38 then .heap else .auto,[]⟩
def k45(n:Nat)(H:Za)(l k:Nat)(hl:l<n)(b:Bnd)(hb:b.length<=1000000)(f:Nat)(caps:LA)(p:Str×Tm->Bool)(M:Nat)(Q:Za)(D:M<=l)(A:∀l' k,l'<M->H l' k=Q l' k)(J:Zbm M Q f caps eBd b p)(Y:H l k=some (.Zg 155 5 (flat (b.map eBd)) b.length)):
  Zh prog n 85 [.msl 5 l k b.length,.fn (.func f) caps] H (Zum n l k b p H):=by
 have m:¬l=n:=om;have hI:=k95 (n+1) (full n [] H) l k om b hb f caps p M Q om (fun l' k g=>(Zi (show l'<n by omega) _ _ _).trans (A l' k g)) J (by rw[Zi hl];exact Y);obtain⟨⟨U,c,hf⟩,J,P⟩:=J;have hfi:∀q,Inside n q (.fn (.func f) caps):=fun q=>(Below.fn _ _ fun i Z=>(P n om).mem _ (Qa Z)).inside
 have hmi:∀q,Inside n q (.msl 5 l k b.length):=fun q=>.msl _ _ _ _ (.inl hl)
 refine aF func85 fun B=>?_
 refine gc ?_;refine cQ hI ?_;rcases ZoH p b with⟨e,O⟩|⟨d,V,e,hpi,hq⟩
 ·rw[e];refine gP ?_;refine gj ?_;refine Zq (.refl _) (.msl _ _ _ _ hl) (.inl ⟨rfl,rfl,?_⟩);unfold ktB;rw[QV,List.filter_eq_self.2 fun x hx=>by rw[O x hx];rfl]
 ·rw[e];have F:((d:Int)== -1)=false:=sm;refine aS ?_;refine nq F ?_;refine gN ?_;have hk0:ktB p b (d+1)=b.take d:=by
   rw[Zkx p b d V,if_pos hpi,Qu];unfold ktB;refine List.filter_eq_self.2 fun x hx=>?_
   obtain⟨j,N,rfl⟩:=QK hx;rw[GI,hq j (by rw[QJ]at N;omega) (by rw[QJ]at N;omega)];rfl
  have r:(b.take d).length=d:=by rw[QJ];omega
  have D:mix (b.take d) b=b:=by unfold mix;rw[r,Q8]
  refine Zx (fun i=>Zsp l k b f caps p H (d+1+i)) (b.length - (d+1)) rfl ?_ ?_
  ·unfold Zsp;rw[UC,hk0,r,D,Z7 Y];exact KK
  intro i Z;refine ZV rfl ?_;obtain⟨j,N⟩:∃j,j=d+1+i:=⟨_,rfl⟩
  rw[show d+1+(i+1)=j+1 by omega,<-N];have o:=ZrX p b j;rcases Qd j b.length with h|h
  ·have s:=ZfJ (kept:=ktB p b j) (xs:=b) om;have I:=Zqe (mix (ktB p b j) b) j om;rw[ZdS j o om h]at I;have R:=Zi2 (mix (ktB p b j) b);rw[s]at R;have E:=Zkx p b j h;have C:H.upd l k (.Zg 155 5 (flat ((mix (ktB p b j) b).map eBd)) b.length) l k=some (.Zg 155 5 (flat ((mix (ktB p b j) b).map eBd)) b.length):=Za.upd_same _ _ _ _;refine nq h ?_;refine nT ?_;refine nq4 h m C I ?_;refine⟨⟨om,om⟩,?_⟩;refine nR ?_;refine Yp (avs:=[eBd b[j]]) rfl hf (J b[j] (Qa h) (n+1) _ om fun l' k g=>?_) rfl ?_
   ·rw[Zi (show l'<n by omega)];simp only[Za.upd,show¬l'=l by omega,false_and,if_false];exact A l' k g
   cases X:p b[j]with
   |true=>
    rw[X,if_pos rfl,Qu]at E;refine gI ?_;refine⟨om,?_⟩;unfold Zsp;rw[E];apply kZ;repeat' first|apply q0|exact xx|apply aI
    ·refine aS ?_;rw[iw];exact .refl _
    all_goals first|exact hfi _|exact hmi _
   |false=>
    rw[X,if_neg sm]at E;have w:(ktB p b j).length<b.length:=om;have t:=Zdi eBd ZuI (kept:=ktB p b j) (xs:=b) b[j] w;rw[<-E]at t;simp only[go_sem,simprocAttr]at t;refine aS ?_;refine nT ?_;refine nq4 m C w t ?_;refine⟨⟨om,om⟩,.inr (Zel _),?_⟩;rw[Za.Zaa];refine gc ?_;refine nN ?_;refine⟨om,?_⟩;unfold Zsp;have hsl:(ktB p b (j+1)).length=(ktB p b j).length+1:=by rw[E];simp
    rw[hsl];apply kZ;repeat' first|apply q0|exact xx|apply aI
    ·refine aS ?_;rw[iw];exact .refl _
    ·refine aS ?_;rw[iw];exact .refl _
    all_goals first|exact hfi _|exact hmi _
  ·have S:j=b.length:=om;subst S;have s:=ZfJ (kept:=ktB p b b.length) (xs:=b) o;have g:(ktB p b b.length).length<b.length:=by
    have I:ktB p b b.length=ktB p b (d+1)++(b.drop (d+1)).filter fun x=>!p x:=by
     unfold ktB;rw[QV,<-Qa6,Q8]
    have R:=U0 (fun x=>!p x) (b.drop (d+1));rw[I,hk0,Qh,r];rw[QL]at R;omega
   generalize W:ktB p b b.length=K at o s g;refine nr ?_;refine aq (QC.2 h) ?_;refine gg ?_;repeat refine kn rfl ?_
   refine Yy tok u45 rfl rfl (by kernel_rfl) ?_;simp only[go_sem,simprocAttr,u45];have u:∀L G,(∀j,G l j=(H.upd l k (.Zg 155 5 (flat ((mix K b).map eBd)) b.length)) l j)->full n L G l k=some (.Zg 155 5 (flat ((mix K b).map eBd)) b.length):=fun L G h=>(Zi hl _ _ _).trans ((h k).trans (by simp[Za.upd]))
   refine Step.look (v:=.sub 5 l k b.length K.length (b.length - K.length)) (XW (a:=K.length) (h:=(b.length:Int)) tok rfl rfl rfl rfl rfl (u _ _ fun _=>rfl) rfl rfl ?_ ?_ ?_ ?_ ?_) ?_
   ·omega
   ·omega
   ·omega
   ·omega
   ·rw[if_pos om];rfl
   refine aS ?_;refine Step.turn (l:=l) (k:=k) (b:=.Zg 155 5 (flat (K.map eBd++List.replicate (b.length - K.length) zBd)) b.length) (Ji tok rfl rfl rfl rfl rfl rfl (u _ _ fun _=>rfl) ?_ rfl ?_ ?_) (.inr ?_) ?_
   ·decide
   ·omega
   ·exact Zb9 eBd ZuI (z:=zBd) rfl o
   ·refine⟨(XH fun x hx=>?_).mem,by simp[Ze.at_]⟩;rcases Qr.1 hx with hx|hx
    ·obtain⟨y,_,rfl⟩:=Qg.1 hx;exact ZfE n y
    ·rw[(Ue.1 hx).2];exact Yt Zn7.mem
   simp only[go_sem,simprocAttr,m,Za.Zaa];refine nr ?_;simp only[go_sem,simprocAttr,m,Za.upd_same];refine⟨⟨om,om⟩,?_⟩;refine nV ?_;exact Zq (v:=.sub 5 l k b.length 0 K.length) (.refl _) (.sub _ _ _ _ _ _ hl) (.inr ⟨by rw[W],om,by rw[W]⟩)
def k47(n:Nat)(H:Za)(l a:Nat)(c:l<n)(S:List Str)(b:H l a=some (.map (encS S)))(x:Str×Tm):PC prog n 87 [eBd x,.iptr [.map l a]] H (.bool (!decide (x.1∈S))):=by
 have d:Ve S [x.1]=decide (x.1∈S):=by simp[Ve]
 refine aF func87 fun B=>?_
 refine gc ?_;refine⟨rfl,?_⟩;refine cQ (Zh.args (j48 (n+1) _ l a om S [x.1] sm ((Zi c _ _ _).trans b)) (args':=[.map l a,.sl 1 [.str x.1] .full]) ⟨.refl _,.any _ _ _,trivial⟩) ?_;refine aq d ?_;exact pB
def Zlc{b c:LA}{a:Nat}(h:(b.drop a).take c.length=c):splice b a c=b:=by
 unfold splice;rw[<-UN]
 conv=>rhs;rw[<-Q8 a b,<-Q8 c.length (b.drop a),h]
def Zty(b:Bnd)(j:Nat)(h:j<b.length):((flat (b.map eBd)).drop (j*5+1)).take 4=b[j].2.cs:=by
 have:=Zqe b j h;rw[<-UN];have a:((((flat (b.map eBd)).drop (j*5)).take 5).drop 1)=((eBd b[j]).cells).drop 1:=by rw[this]
 rw[Qa5]at a;exact a
def ZvA(n l a:Nat)(K:Bnd)(H:Za)(i:Nat):Zc:=
 ⟨[(11,.int .i64 i),(10,.int .i64 K.length),(0,.msl 5 n 200 K.length),(1,.iptr [.map l a])],[(200,.Zg 155 5 (flat (K.map eBd)) K.length)],H⟩
def k44(n:Nat)(H:Za)(hT:Tabs H)(hn:0<n)(l a:Nat)(hl:l<n)(S:List Str)(W:H l a=some (.map (encS S)))(b:Bnd)(t:b.length<=1000000)(M:∀q∈b,q.2.Good):
  PC prog n 84 [Zu b,.iptr [.map l a]] H (Zu (Zb6 S b)):=by
 have J:¬l=n:=om;have O:ktB (fun x=>!decide (x.1∈S)) b b.length=Zb6 S b:=by
  unfold ktB Zb6;rw[QV];congr 1
  funext x;simp
 have C:ZjH 5 n (b.map eBd):=⟨by simpa using t,fun y U=>by obtain⟨x,_,rfl⟩:=Qg.1 U;exact⟨rfl,rfl,ZfE n x⟩⟩
 have hmi:∀q,Inside n q (.iptr [.map l a]):=fun q=>(Zj (cs:=[.map l a]) ⟨.map _ _ hl,trivial⟩).inside
 refine aF func84 fun B=>?_
 refine gc ?_;refine YS (caps:=[]) (avs:=[.sl 5 (b.map eBd) .any]) rfl (Zf func86 rfl rfl) (k46 (n+1) _ (b.map eBd) n 200 (Qq n) sS C) (by simp only[go_sem,simprocAttr];rfl) ?_;rintro r R ⟨rfl,rfl⟩;refine⟨[(200,.Zg 155 5 (flat (b.map eBd)) (b.map eBd).length)],H,(Zm n _ H 200 _).symm,.refl _ _,?_⟩;refine aS ?_;refine YS (caps:=[]) (avs:=[.msl 5 n 200 b.length,.fn (.func 87) [.iptr [.map l a]]]) rfl (Zf func85 rfl rfl)
  (k45 (n+1) _ n 200 (Qq n) b t 87 [.iptr [.map l a]] (fun x=>!decide (x.1∈S)) n _ (Qi n) (fun _ _ _=>rfl) ⟨⟨_,_,Zf func87 rfl rfl⟩,fun x hx m G s V=>k47 m G l a om S ((V _ _ hl).trans ((Zi hl _ _ _).trans W)) x,fun m s=>⟨Zj (cs:=[.map l a]) ⟨.map _ _ om,trivial⟩,trivial⟩⟩ sS) sS ?_
 rintro r R hq;unfold Zum at hq;rw[O]at hq;generalize g:Zb6 S b=K at hq⊢;have w:∀q∈K,q.2.Good:=fun q hq=>M q (by rw[<-g]at hq;exact(MO.1 hq).1)
 have Q:K.length<=1000000:=by rw[<-g];exact UA (U0 _ _) t
 have hmb:∀q m,Ze.Inside n q (.Zg 155 5 (flat (K.map eBd)) m):=fun q m=>⟨fun c hc=>((Zel (n:=n) (m:=m) K).1 c hc).inside,by simp[Ze.at_]⟩
 have hms:∀q:Nat->Prop,q 200->Inside n q (.msl 5 n 200 K.length):=fun q h=>.msl _ _ _ _ (.inr ⟨rfl,h⟩)
 have hal:∀q,ZW (fun c=>Inside n q c) (flat (K.map eBd)):=fun q=>ZM fun c hc=>((Zel (n:=n) (m:=0) K).1 c hc).inside
 have f:AKc ⟨prog,tt,⟨none,B⟩,n,Tryz.f84.ntmps⟩ [.code (Zz Tryz.f84).snd.snd] (PostF prog tt n Tryz.f84.results.toList fun I X=>I=Zu K/\X=H)
   ⟨[(0,.msl 5 n 200 K.length),(1,.iptr [.map l a])],[(200,.Zg 155 5 (flat (K.map eBd)) K.length)],H⟩:=by
  refine gh ?_;refine Zx (ZvA n l a K H) K.length rfl ?_ ?_
  ·exact KK
  intro i Z;refine ZV rfl ?_;rcases Qd i K.length with h|h
  ·have F:=Zty K i h;have Y:=Zi2 K;have o:splice (flat (K.map eBd)) (i*5+1) K[i].2.cs=flat (K.map eBd):=Zlc (by rw[show K[i].2.cs.length=4 from rfl];exact F);simp only[go_sem,simprocAttr]at o;refine nq h ?_;refine gi ?_;refine nq2 h F ?_;refine⟨⟨om,om⟩,?_⟩;refine cT (j49 K[i].2 (w _ (Qa h))) ?_;refine aq2 h o ?_;refine⟨⟨om,om⟩,?_⟩;refine gd ?_;unfold ZvA;apply kZ;repeat' first|apply q0|exact xx|apply aI
   ·refine aS ?_;rw[iw];exact .refl _
   all_goals first|exact hmi _|exact hmb _ _|exact hms _ rfl|exact hal _
  ·have u:i=K.length:=om;subst u;refine nq (QC.2 h) ?_;refine gg ?_;refine kK ?_;refine ZJ (YV (tm':=[(0,.sl 5 (K.map eBd) .any)]) (j:=200) (K.map eBd) rfl rfl sm (Zs8 K) (hal _).mem (fun p d=>?_) (fun p d=>?_)) ?_
   ·simp only[Qo]at d;subst d;exact .inr ⟨5,rfl,rfl⟩
   ·simp[delb]at d
   refine ge ?_;exact Zb (.refl _) (ZH n K) rfl
 rcases hq with⟨rfl,rfl,A⟩|⟨rfl,k,rfl⟩
 ·refine⟨[(200,.Zg 155 5 (flat (b.map eBd)) b.length)],H,rfl,.refl _ _,?_⟩;refine aS ?_;have e:b=K:=A.symm;refine ZJ ?_ f;rw[<-e]at hms hmb hal⊢;exact KK
 ·refine⟨[(200,.Zg 155 5 (flat (K.map eBd++List.replicate (b.length - K.length) zBd)) b.length)],H,(Zm n _ H 200 _).symm,.refl _ _,?_⟩;refine aS ?_;have v:(flat (K.map eBd++List.replicate (b.length - K.length) zBd)).take (K.length*5)=flat (K.map eBd):=by
   rw[YJ,Gq (Zi2 K)]
  have D:K.length<=b.length:=by rw[<-g];exact U0 _ _
  have E:=ZbB (n:=n) (N:=Tryz.f84.ntmps) (m:=K.length) (tm':=[(0,.msl 5 n 200 K.length),(1,.iptr [.map l a])]) (j:=200) (e:=155) (sz:=5) (i:=b.length) (H:=H)
   (L:=[(200,.Zg 155 5 (flat (K.map eBd++List.replicate (b.length - K.length) zBd)) b.length)])
   (tm:=[(0,.sub 5 n 200 b.length 0 K.length),(8,.sub 5 n 200 b.length 0 K.length),(7,.fn (.func 87) [.iptr [.map l a]]),(6,.msl 5 n 200 b.length),(5,Zu b),(3,.sl 5 [] .full),(0,Zu b),(1,.iptr [.map l a])]) k D rfl ?_ ?_ ?_
  ·rw[v]at E;exact ZJ E f
  ·intro c hc;rw[YJ,Qr]at hc;rcases hc with hc|hc
   ·exact(hal _).mem c hc
   ·obtain⟨z,P,hc⟩:=QI.1 hc;rw[(Ue.1 P).2]at hc;exact((Zn7 (n:=n)).mem c hc).inside
  ·intro p d;simp only[Ql,QA,or_false]at d;rcases d with rfl|rfl
   ·exact .inr ⟨5,5,rfl,rfl⟩
   ·exact .inl ⟨.refl _,hmi _⟩
  ·intro p d;simp[delb]at d
def ZgN{d:Type}(c:d->d->Int)(b:List d)(a:Nat):∀m,(kpt c b (a+m)).length<=(kpt c b a).length+m
 |0=>Qi _
 |m+1=>by
  have:=ZgN c b a m;rw[<-MS,kpt,Qh];split
  ·split<;>simp<;>omega
  ·simp;omega
def ZiY{b:Type}(c:b->b->Int)(a:List b)(m:Nat)(h:m<a.length)(d:0<m)(e:c a[m] a[m - 1]=0):kpt c a (m+1)=kpt c a m:=by
 rw[kpt,dif_pos h,if_neg (by simp only[e];omega),Qu]
def Zqa{b:Type}(c:b->b->Int)(a:List b)(m:Nat)(h:m<a.length)(e:c a[m] a[m - 1]≠0):kpt c a (m+1)=kpt c a m++[a[m]]:=by
 rw[kpt,dif_pos h,if_pos (.inr e)]
def Zm8(l:List Bnd):∀y∈l.map Zu,y.cells.length=1:=fun y a=>by obtain⟨x,_,rfl⟩:=Qg.1 a;rfl
def ZhE{n m:Nat}(l:List Bnd):Ze.Below n (.Zg 93 1 (flat (l.map Zu)) m):=⟨(XH fun x hx=>by obtain⟨y,_,rfl⟩:=Qg.1 hx;exact ZH n y).mem,by simp[Ze.at_]⟩
def ZnC(l:List Bnd)(j:Nat)(h:j<l.length):((flat (l.map Zu)).drop (j*1)).getD 0 .dead=Zu l[j]:=by
 have:=Zi0 (Zm8 l) j (by simpa using h);rw[QZ]at this;have a:=congrArg (fun q:LA=>q.getD 0 .dead) this;simp only[Qk]at a⊢;rw[QT om]at a;exact a
def Zqf(l:List Bnd):(flat (l.map Zu)).length=l.length*1:=by rw[flat_length (Zm8 l),Qv]
def zBn:AV:=.sl 5 [] .full
def Zul(l k:Nat)(a:List Bnd)(H:Za)(r:AV)(b:Za):Prop:=
 (r= .msl 1 l k a.length/\b=H/\kpt Y9 a a.length=a)\/
 (r= .sub 1 l k a.length 0 (kpt Y9 a a.length).length/\0<a.length/\(kpt Y9 a a.length).length<=a.length/\b=H.upd l k (.Zg 93 1 (flat ((kpt Y9 a a.length).map Zu++List.replicate (a.length - (kpt Y9 a a.length).length) zBn)) a.length))
def u52:Opt:=⟨false,false,fun d=>if d=31\/d=61 then .heap else .auto,[]⟩
def ZvH(l k:Nat)(a:List Bnd)(H:Za)(j:Nat):Zc:=⟨[(5,.int .i64 j),(0,.msl 1 l k a.length),(1,.fn (.func 92) [])],[],H⟩
def ZnV(l k:Nat)(a:List Bnd)(H:Za)(j m:Nat):Zc:=
 ⟨[(7,.int .i64 m),(6,.sub 1 l k a.length j (a.length - j)),(5,.int .i64 (kpt Y9 a (j+m)).length),(0,.msl 1 l k a.length),(1,.fn (.func 92) [])],[],H.upd l k (.Zg 93 1 (flat ((mix (kpt Y9 a (j+m)) a).map Zu)) a.length)⟩
def k52(n:Nat)(H:Za)(l k:Nat)(hl:l<n)(xs:List Bnd)(hx:xs.length<=1000000)(M:∀b∈xs,b.length<=1000000/\ ∀q∈b,q.2.Good)(W:H l k=some (.Zg 93 1 (flat (xs.map Zu)) xs.length)):
  Zh prog n 91 [.msl 1 l k xs.length,.fn (.func 92) []] H (Zul l k xs H):=by
 have c:¬l=n:=om;have hmi:∀q,Inside n q (.msl 1 l k xs.length):=fun q=>.msl _ _ _ _ (.inl hl)
 have hms:∀q a b,Inside n q (.sub 1 l k xs.length a b):=fun q a b=>.sub _ _ _ _ _ _ (.inl hl)
 have E:∀i j (h:i<xs.length) (s:j<xs.length),Pure prog 92 [Zu xs[i],Zu xs[j]] (.bool (Y9 xs[i] xs[j]==0)):=fun i j h s=>
  k53 _ _ (M _ (Qa h)).1 (M _ (Qa s)).1 (M _ (Qa h)).2 (M _ (Qa s)).2
 refine aF func91 fun B=>?_
 refine gc ?_;by_cases h2:xs.length<2
 ·have u:((xs.length:Int)<2):=om;refine nTq u ?_;refine ge ?_;refine Zq (.refl _) (.msl _ _ _ _ hl) (.inl ⟨rfl,rfl,?_⟩);rw[Za7 Y9 xs _ (Qi _) fun i h s R=>by omega,QV]
 have u:¬((xs.length:Int)<2):=om;refine nFq u ?_;refine gh ?_;refine ZG (fun i=>ZvH l k xs H (1+i)) (fun i=>∀j (h:j<xs.length),j<1+i->0<j->Y9 xs[j] xs[j - 1]≠0) (xs.length - 1) rfl ?_ (fun j h h1 R=>by omega) ?_
 ·exact KK
 intro i hi hq;obtain⟨j,hj⟩:∃j,j=1+i:=⟨_,rfl⟩
 rw[show 1+(i+1)=j+1 by omega,<-hj];rw[<-hj]at hq;have ax:0<j:=om;refine ZV rfl ?_;rcases Qd j xs.length with h|h
 ·have h1:=ZnC xs j h;have h3:=ZnC xs (j - 1) om;have av:=Zqf xs;have hw:IntKind.i64.wrap ((j:Int) - 1)=((j - 1:Nat):Int):=by rw[show(j:Int) - 1=((j - 1:Nat):Int) by omega];exact iw
  have D:j - 1<xs.length:=om;refine nq h ?_;refine nT ?_;refine nD drawO ?_;simp only[go_sem,simprocAttr,h,c,W,h1,h3,hw,D];refine⟨⟨om,om,om⟩,⟨om,om,om⟩,?_⟩;refine Yp (avs:=[Zu xs[j],Zu xs[j - 1]]) rfl (Zf func92 rfl rfl) (E j (j - 1) h D _ _) rfl ?_;cases N:(Y9 xs[j] xs[j - 1]==0)with
  |false=>
   have t:Y9 xs[j] xs[j - 1]≠0:=by simpa using N
   refine aq N ?_;refine gm ?_;refine⟨om,fun O s aw ay=>?_,?_⟩
   ·rcases Qd O j with h5|h5
    ·exact hq O s h5 ay
    ·have:O=j:=om;subst this;exact t
   ·apply kZ;repeat' first|apply q0|exact xx|apply aI
    ·refine aS ?_;rw[iw];exact .refl _
    all_goals exact hmi _
  |true=>
   have t:Y9 xs[j] xs[j - 1]=0:=by simpa using N
   have X:kpt Y9 xs j=xs.take j:=Za7 Y9 xs j om hq;have f:kpt Y9 xs (j+1)=xs.take j:=by rw[ZiY Y9 xs j h ax t,X]
   have p:(xs.take j).length=j:=by rw[QJ];omega
   simp only[go_sem,simprocAttr,N];refine nT ?_;repeat refine kn rfl ?_
   refine Yy tok u52 rfl rfl (by kernel_rfl) ?_;simp only[go_sem,simprocAttr,u52];refine Step.look (v:=.sub 1 l k xs.length j (xs.length - j)) (XW (a:=j) (h:=(xs.length:Int)) tok rfl rfl rfl rfl rfl ((Zi hl _ _ _).trans W) rfl rfl ?_ ?_ ?_ ?_ ?_) ?_
   ·omega
   ·omega
   ·omega
   ·omega
   ·rw[if_pos om];rfl
   refine aS ?_;refine gh ?_;refine Zx (fun m=>ZnV l k xs H j (1+m)) (xs.length - j - 1) rfl ?_ ?_
   ·unfold ZnV;rw[UC,f,p,show mix (xs.take j) xs=xs by unfold mix;rw[p,Q8],Z7 W];exact KK
   intro m hm;obtain⟨r,hr⟩:∃r,r=1+m:=⟨_,rfl⟩
   rw[show 1+(m+1)=r+1 by omega,<-hr];refine ZV rfl ?_;have P:(kpt Y9 xs (j+r)).length<=j+r - 1:=by
    have:=ZgN Y9 xs (j+1) m;rw[f,p,show j+1+m=j+r by omega]at this;omega
   generalize S:kpt Y9 xs (j+r)=K at P;have F:H.upd l k (.Zg 93 1 (flat ((mix K xs).map Zu)) xs.length) l k=some (.Zg 93 1 (flat ((mix K xs).map Zu)) xs.length):=Za.upd_same _ _ _ _;rcases Qd (j+r) xs.length with h5|h5
   ·have Y:=ZfJ (kept:=K) (xs:=xs) om;have U:=ZnC (mix K xs) (j+r) om;rw[ZdS (j+r) om om h5]at U;have g2:=ZnC (mix K xs) (j+r - 1) om;rw[ZdS (j+r - 1) om om om]at g2;have g3:=Zqf (mix K xs);rw[Y]at g3;have d:r<xs.length - j:=om;have Z:r - 1<xs.length - j:=om;have az:IntKind.i64.wrap ((r:Int) - 1)=((r - 1:Nat):Int):=by rw[show(r:Int) - 1=((r - 1:Nat):Int) by omega];exact iw
    have er:j+(r - 1)=j+r - 1:=om;refine nq d ?_;refine nT ?_;refine nD drawO ?_;simp only[go_sem,simprocAttr,d,c,F,U,g2,az,Z,er];refine⟨⟨om,om,om⟩,⟨om,om,om⟩,?_⟩;refine Yp (avs:=[Zu xs[j+r],Zu xs[j+r - 1]]) rfl (Zf func92 rfl rfl) (E (j+r) (j+r - 1) h5 om _ _) rfl ?_;cases J:(Y9 xs[j+r] xs[j+r - 1]==0)with
    |true=>
     have w:Y9 xs[j+r] xs[j+r - 1]=0:=by simpa using J
     have g:kpt Y9 xs (j+(r+1))=K:=by rw[<-MS,ZiY Y9 xs (j+r) h5 om w,S]
     refine aq J ?_;refine gm ?_;refine⟨om,?_⟩;unfold ZnV;rw[g];apply kZ;repeat' first|apply q0|exact xx|apply aI
     ·refine aS ?_;rw[iw];exact .refl _
     all_goals first|exact hmi _|exact hms _ _ _
    |false=>
     have w:Y9 xs[j+r] xs[j+r - 1]≠0:=by simpa using J
     have g:kpt Y9 xs (j+(r+1))=K++[xs[j+r]]:=by rw[<-MS,Zqa Y9 xs (j+r) h5 w,S]
     have A:K.length<xs.length:=om;have I:=Zdi Zu (fun _=>rfl) (kept:=K) (xs:=xs) xs[j+r] A;simp only[go_sem,simprocAttr]at I;refine aq J ?_;refine gH ?_;simp only[go_sem,simprocAttr,d,c,F,U,A,I];refine⟨⟨om,om,om⟩,⟨om,om⟩,.inr (ZhE _),?_⟩;rw[Za.Zaa];refine gc ?_;refine nN ?_;refine⟨om,?_⟩;unfold ZnV;rw[g,Qh,Qai];apply kZ;repeat' first|apply q0|exact xx|apply aI
     ·refine aS ?_;rw[iw];exact .refl _
     ·refine aS ?_;rw[iw];exact .refl _
     all_goals first|exact hmi _|exact hms _ _ _
   ·have Q:j+r=xs.length:=om;have o:kpt Y9 xs xs.length=K:=by rw[<-Q];exact S
    have d:¬r<xs.length - j:=om;have A:K.length<xs.length:=om;refine nq d ?_;refine gg ?_;repeat refine kn rfl ?_
    refine Yy tok u52 rfl rfl (by kernel_rfl) ?_;simp only[go_sem,simprocAttr,u52];have C:∀L G,(∀j,G l j=(H.upd l k (.Zg 93 1 (flat ((mix K xs).map Zu)) xs.length)) l j)->full n L G l k=some (.Zg 93 1 (flat ((mix K xs).map Zu)) xs.length):=fun L G h=>(Zi hl _ _ _).trans ((h k).trans (by simp[Za.upd]))
    refine Step.look (v:=.sub 1 l k xs.length K.length (xs.length - K.length)) (XW (a:=K.length) (h:=(xs.length:Int)) tok rfl rfl rfl rfl rfl (C _ _ fun _=>rfl) rfl rfl ?_ ?_ ?_ ?_ ?_) ?_
    ·omega
    ·omega
    ·omega
    ·omega
    ·rw[if_pos om];rfl
    refine aS ?_;refine Step.turn (l:=l) (k:=k) (b:=.Zg 93 1 (flat (K.map Zu++List.replicate (xs.length - K.length) zBn)) xs.length) (Ji tok rfl rfl rfl rfl rfl rfl (C _ _ fun _=>rfl) ?_ rfl ?_ ?_) (.inr ?_) ?_
    ·decide
    ·omega
    ·exact Zb9 Zu (fun _=>rfl) (z:=zBn) rfl om
    ·refine⟨(XH fun x hx=>?_).mem,by simp[Ze.at_]⟩;rcases Qr.1 hx with hx|hx
     ·obtain⟨y,_,rfl⟩:=Qg.1 hx;exact ZH n y
     ·rw[(Ue.1 hx).2];exact YR (fun _ h=>by cases h) (fun _ _ e=>by cases e)
    simp only[go_sem,simprocAttr,c,Za.Zaa];refine nr ?_;simp only[go_sem,simprocAttr,c,Za.upd_same];refine⟨⟨om,om⟩,?_⟩;refine nW ?_;exact Zq (v:=.sub 1 l k xs.length 0 K.length) (.refl _) (.sub _ _ _ _ _ _ hl) (.inr ⟨by rw[o],om,by rw[o];omega,by rw[o]⟩)
 ·have V:j=xs.length:=om;subst V;refine nq (QC.2 h) ?_;refine gt ?_;refine Zq (.refl _) (.msl _ _ _ _ hl) (.inl ⟨rfl,rfl,?_⟩);rw[Za7 Y9 xs _ (Qi _) fun i h s R=>hq i h om R,QV]
end Go.Proofs.YthajllbimoodjaaGreatDoor

namespace Go.Proofs
open Go.Shelf
def bO {P : Program} {i : FuncId} {B : Func} (h : ((((P.funcs[i]?).map Func.name).getD "") == "runtime.NumGoroutine") = false := by kernel_rfl) (h2 : P.funcs[i]? = some { B with name := ((P.funcs[i]?).map Func.name).getD "" } := by kernel_rfl) : Bears P i B := ⟨_, h, h2⟩
def Tryz.sort50_ren:Go.Shelf.Ren:=⟨fun|6=>89|15=>188|14=>187|28=>264|29=>265|20=>256|21=>257|22=>258|23=>259|24=>260|25=>261|26=>262|27=>263|46=>326|47=>327|48=>328|49=>329|50=>330|57=>382|n=>n,fun|22=>87|24=>93|25=>163|3=>3|39=>270|0=>0|53=>334|55=>336|4=>4|46=>328|45=>327|50=>296|5=>5|9=>9|66=>371|70=>178|76=>406|77=>407|n=>n,fun|n=>n⟩
def Tryz.sort50:Go.Proofs.SlLaysF0.n6 prog Tryz.sort50_ren:=by
 repeat' first|kernel_rfl|exact bO|(intro w;kernel_rfl)|constructor
def Tryz.sort264_ren:Go.Shelf.Ren:=⟨fun|6=>460|15=>188|14=>474|28=>264|29=>265|20=>475|21=>476|22=>477|23=>478|24=>479|25=>480|26=>481|27=>482|46=>483|47=>327|48=>328|49=>484|50=>485|57=>486|n=>n,fun|22=>23|24=>25|25=>216|3=>3|39=>270|0=>0|53=>334|55=>336|4=>4|46=>328|45=>327|50=>296|5=>5|9=>9|66=>371|70=>178|76=>406|77=>407|n=>n,fun|n=>n⟩
def Tryz.sort264:Go.Proofs.SlLaysF0.n6 prog Tryz.sort264_ren:=by
 repeat' first|kernel_rfl|exact bO|(intro w;kernel_rfl)|constructor
end Go.Proofs

namespace Go.Abs
open Go.Proofs Go.Shelf Go.Sort
def bare(E:Env):Env:={F:=E.F,m:=fun _ _=>none,hist:=fun _ _ _=>none,g:=fun _ _=>none,qd:=true}
section
variable {E:Env}
def VR.Zvc(q:Bool){a:AV}{v:Value}(d:VR E a v):VR {E with qd:=q} a v:=by
 induction d with
 |int k n=>exact .int k n
 |bool b=>exact .bool b
 |str l=>exact .str l
 |nilp=>exact .nilp
 |ptr l k off b hm=>exact .ptr l k off b hm
 |iptr cs b off c hc _ ih=>exact .iptr cs b off c hc ih
 |slnil k o a ho ha=>exact .slnil k o a (by cases o<;>exact ho) ha
 |sl k xs o b off cap c hk hc _ hcap hm ho ih=>exact .sl k xs o b off cap c hk hc ih hcap hm (by cases o<;>exact ho)
 |nilf=>exact .nilf
 |fn f caps vs hl _ ih=>exact .fn f caps vs hl ih
 |bfn f caps vs hl _ ih=>exact .bfn f caps vs hl ih
 |nilm=>exact .nilm
 |map l k b hm=>exact .map l k b hm
 |mnil sz l k a hh ha=>exact .mnil sz l k a hh ha
 |msl sz l k n g cap hh=>exact .msl sz l k n g cap hh
 |eptr l k n off g cap hh=>exact .eptr l k n off g cap hh
 |ssl k xs ys b off cap c hk hc _ hcap hm ih=>exact .ssl k xs ys b off cap c hk hc ih hcap hm
 |nili=>exact .nili
 |Xd=>exact .Xd
 |sln k a cap hc=>exact .sln k a cap hc
 |sub sz l k n off m g cap hh hm=>exact .sub sz l k n off m g cap hh hm
 |ifc t a v _ ih=>exact .ifc t a v ih
 |agg cs vs hl _ ih=>exact .agg cs vs hl ih
 |tup cs vs hl _ ih=>exact .tup cs vs hl ih
 |dead v=>exact .dead v
def bare_eq(E:Env):bare E={(E.cut 0)with qd:=true}:=by
 simp[bare,Env.cut]
def VR.bare{E:Env}{a:AV}{v:Value}(b:VR E a v)(c:Below 0 a):VR (bare E) a v:=by
 rw[bare_eq];exact(b.cut c).Zvc true
def ZoG{w:World}(a:∀b o v,E.F b o=some v->w.cell? ⟨b,o,none⟩=some v):Zo 0 (fun _ _=>none) (bare E) w where
 norm:=⟨fun _ _ _=>rfl,fun _ _ _=>rfl,fun _ _ _ _=>rfl⟩
 F:=a
 blk l k b hl _:=absurd hl (Qj _)
 dom l k hl _:=absurd hl (Qj _)
 nobuf l k h:=absurd rfl h
 inj l k l' k' b h:=by cases h
 injg l k l' k' b h:=by cases h
 mg l k l' k' b h:=by cases h
 mF l k b o h:=by cases h
 lt b h:=by rcases h with⟨_,_,h⟩|⟨_,_,h⟩<;>cases h
def Zgk{P:Program}{g:FuncId}{args:LA}{r:AV}{w:World}{vs:List Value}(h:Pure P g args r)(hv:VRs E args vs)(hb:∀a∈args,Below 0 a)
  (t:∀b o v,E.F b o=some v->w.cell? ⟨b,o,none⟩=some v):Calls P g vs.toArray w fun e w'=>(∃v E',e= .returned v/\VR E' r v)/\ ∃q os,w'=grow (w.drewN q) os:=by
 have d:VRs (bare E) args vs:=⟨hv.1,fun i c l=>(hv.2 i c l).bare (hb _ (Qa c))⟩
 refine(h 0 _ (bare E) w vs (ZoG t) d).mono ?_;rintro e w' ⟨u,v,H',E',rfl,⟨rfl,_⟩,c,l,hx⟩;refine⟨⟨v,E',rfl,c⟩,w'.drawn - w.drawn,w'.heap.extract w.heap.size w'.heap.size,?_⟩;obtain⟨heap,tape,drawn,os,output⟩:=w';have j:=hx.os;have m:=hx.tape;have k:=hx.output;have p:=hx.drawn rfl;have n:=hx.size;have f:=hx.block;simp only at j m k p n f;subst j m k;have s:heap=w.heap++heap.extract w.heap.size heap.size:=by
  apply Array.ext_getElem?;intro i;rcases Qd i w.heap.size with hi|hi
  ·rw[Gh hi];exact f i hi (by rintro(⟨_,_,h⟩|⟨_,_,h⟩)<;>cases h)
  ·rw[Array.getElem?_append_right hi,Array.getElem?_extract];rcases Qd i heap.size with hj|hj
   ·rw[if_pos om];congr 1;omega
   ·rw[if_neg om,Qad hj]
 simp only[grow,World.drewN,World.mk.injEq,true_and,and_true];exact⟨s,om⟩
def Zc7{c d:Type}(f:c->List d)(k:Nat)(a:∀x,(f x).length=k)(b:0<k):∀(l:List c) (t:Nat),(l.flatMap f)[t]? =(l[t / k]?).bind fun x=>(f x)[t % k]?
 |[],t=>by simp
 |x::l,t=>by
  rw[Uk];rcases Qd t k with h|h
  ·rw[UF (by rw[a];exact h),Nat.div_eq_of_lt h,Qbo h];rfl
  ·rw[Gl (by rw[a];exact h),a,Zc7 f k a b l (t - k)];have e:t / k=(t - k) / k+1:=by rw[Nat.div_eq_sub_div b h]
   have g:t % k=(t - k) % k:=Nat.mod_eq_sub_mod h;rw[e,g,U1]
section
variable {X:Type} {P:Program} {ρ:Ren}
structure Zs0 (G:X->Prop) (lt:X->X->Bool):Prop where
 irrefl:∀x,G x->lt x x=false
 trans:∀x y z,G x->G y->G z->lt x y=true->lt y z=true->lt x z=true
 ntrans:∀x y z,G x->G y->G z->lt x y=false->lt y z=false->lt x z=false
def Elt(E:Env)(a:X->LA)(G:X->Prop):={p:List Value×X // G p.2/\VRs E (a p.2) p.1}
def Zqm(L:SlLaysF0.n6 P ρ)(k:Nat)(k0:0<k)(aE:∀w,(isAgg (ρ.t 24)).run P w= .ok true w)(zE:∀w,(Go.sizeOf (ρ.t 24)).run P w= .ok k w)(cs:X->LA)(hk:∀x,(cs x).length=k)(ax:∀x,∀c∈cs x,c.one=true)
  (b4:∀x,∀c∈cs x,Below 0 c) (cf:X->X->Int) (G:X->Prop) (hO:Zs0 G (ltOf cf)) (g:Nat) (fn:Func) (c:Code) (hf:Fun P g fn c) (hp:∀x y,G x->G y->Pure P g [.agg (cs x),.agg (cs y)] (.int .i64 (cf x y)))
  (n:Nat) (H:Za) (l j e Y:Nat) (xs:List X) (hl:l<n) (hG:∀x∈xs,G x) (hH:H l j=some (.Zg e k (xs.flatMap cs) xs.length)) (c2:xs.length<=1000000000):
  Zh P n (ρ.f 6) [.msl Y l j xs.length,.fn (.func g) []] H fun r H'=>r= .tup []/\ ∃ys:List X,ys.Perm xs/\(∀i M (h:i<ys.length) (h':M<ys.length),i<M->ltOf cf ys[M] ys[i]=false)/\H'=H.upd l j (.Zg e k (ys.flatMap cs) ys.length):=fun E w vs hr hv=>by
 obtain⟨v1,r1,rfl,h1,hv⟩:=hv.Yw;obtain⟨v2,r2,rfl,h2,hv⟩:=hv.Yw;rw[hv.of_nil];cases h2 with|fn _ _ vs2 hl2 hv2=>
 have e2:vs2=[]:=by simpa using hl2
 subst e2;have O:∀(l:List X),(l.flatMap cs).length=l.length*k:=fun l=>by
  induction l with
  |nil=>simp
  |cons x l ih=>rw[Uk,Qh,hk,ih,Qm,Q9];omega
 cases Z:xs with
 |nil=>
  subst Z;have I:∀a cap,Calls P (ρ.f 6) #[.slice a 0 cap,.func (.func g) #[] #[]] w fun e' w'=>∃r v H' E',e'= .returned v/\(r= .tup []/\ ∃ys:List X,ys.Perm []/\(∀i M (h:i<ys.length) (h':M<ys.length),i<M->ltOf cf ys[M] ys[i]=false)/\H'=H.upd l j (.Zg e k (ys.flatMap cs) ys.length))/\VR E' r v/\Zo n H' E' w'/\Ext n E w E' w':=fun a cap=>
   (AnyF.slices_SortFunc_none L a cap _ w).mono fun e' w' ⟨he,hw⟩=>by
    subst hw he;exact⟨.tup [],_,H,E,rfl,⟨rfl,[],.refl _,fun i _ h=>absurd h (Qj _),(Z7 hH).symm⟩,.tup [] [] rfl (fun i h=>absurd h (Qj _)),hr,.refl _ _ _⟩
  generalize hz:AV.msl Y l j ([]:List X).length=av at h1;cases h1<;>cases hz
  ·exact I _ _
  ·exact I _ _
 |cons x0 xr=>
  rw[<-Z];have R:0<xs.length:=by rw[Z];simp
  obtain⟨nx,hnx⟩:∃m,m=xs.length:=⟨_,rfl⟩
  rw[<-hnx]at h1;generalize hz:AV.msl Y l j nx=av at h1;cases h1<;>cases hz
  ·omega
  rename_i gb cap hh;subst hnx;obtain⟨A,q1,q2,q3,q4,q5,q6,q7,q8⟩:=hr.mrow hh hH R;have c6:xs.length*k<=cap*k:=QF _ q3;have c5:xs.length*k<=A.size:=om;have c0:gb<w.heap.size:=(QO.1 q2).1;have V:∀i (u:i<xs.length),G xs[i]/\VRs E (cs xs[i]) ((A.toList.drop (i*k)).take k):=fun i u=>by
   refine⟨hG _ (Qa u),?_⟩;have c7:i*k+k<=xs.length*k:=by
    have:=QF k (show i+1<=xs.length from u);rwa [Q9,QaW]at this
   refine⟨by rw[hk,QJ,QL,Uh];omega,fun t C a9=>?_⟩;have au:t<k:=by rw[hk]at C;exact C
   have hd:(i*k+t) / k=i:=by rw[G6,Nat.mul_add_div k0,Nat.div_eq_of_lt au,UC]
   have hm:(i*k+t) % k=t:=by rw[G6,Nat.mul_add_mod,Qbo au]
   have a1:=Zc7 cs k hk k0 xs (i*k+t);rw[hd,hm,Qe u,UY,Qe C]at a1;obtain⟨a2,a3⟩:=Q7.1 a1;have a4:=q7.2 (i*k+t) a2 (by rw[q7.1];exact a2);rw[a3]at a4;simpa[GI,Qak]using a4
  letI inh:Inhabited (Elt E cs G):=⟨⟨((A.toList.drop (0*k)).take k,xs[0]),V 0 R⟩⟩
  let enc:Elt E cs G->List Value:=fun p=>p.1.1
  let cf':Elt E cs G->Elt E cs G->Int:=fun p q=>cf p.1.2 q.1.2
  let d:Array (Elt E cs G):=Array.ofFn fun i:Fin xs.length=>⟨((A.toList.drop (i.1*k)).take k,xs[i.1]),V i.1 i.2⟩
  have s:d.size=xs.length:=Array.size_ofFn;have ay:∀i (u:i<xs.length),d[i]! =⟨((A.toList.drop (i*k)).take k,xs[i]),V i u⟩:=fun i u=>by
   rw[getElem!_pos d i (by rw[s];exact u)];exact Array.getElem_ofFn _
  have b7:∀x,(enc x).length=k:=fun x=>by have:=x.2.2.1;rw[hk]at this;exact this
  have bx:∀x,∀v∈enc x,v.oneCell'=true:=fun x v hv=>by
   obtain⟨t,C,rfl⟩:=QK hv;have h0:=x.2.2.2 t (by rw[<-x.2.2.1];exact C) C;exact h0.one (ax _ _ (Qa _))
  have cq:SWO (ltOf cf'):=⟨fun x=>hO.irrefl _ x.2.1,fun x y z=>hO.trans _ _ _ x.2.1 y.2.1 z.2.1,fun x y z=>hO.ntrans _ _ _ x.2.1 y.2.1 z.2.1⟩
  have b8:HoldsK enc k w gb 0 d:=fun t C=>by
   rw[size_flatK,s]at C;have u:t / k<xs.length:=Qan (by rw[G6];exact C);have J:t % k<k:=Qbw _ k0;have W:w.cell? ⟨gb,0+t,none⟩=A[t]?:=by simp only[World.cell?,q2];simp
   have az:w.frozen? ⟨gb,0+t,none⟩=false:=by simp[World.frozen?,q2]
   refine⟨?_,az⟩;rw[W,get_flatK _ _ _ _ (by rw[s];exact C),ay _ u];have bz:t / k*k+t % k=t:=by rw[G6];exact Qbx t k
   have N:t % k<((A.toList.drop (t / k*k)).take k).length:=by rw[QJ,QL,Uh];omega
   show A[t]? =some (((A.toList.drop (t / k*k)).take k)[t % k]!);have b2:((A.toList.drop (t / k*k)).take k)[t % k]! =((A.toList.drop (t / k*k)).take k)[t % k]'N:=getElem!_pos ((A.toList.drop (t / k*k)).take k) (t % k) N;rw[b2,GI,Qak];rw[UD om];simp[bz]
  have aw:CmpLays P g #[] enc k cf' gb 0 d.size w:=fun m os dk c3 x y=>by
   have c4:w.heap.size<=(sortWorldK enc k w gb 0 m dk os).heap.size:=size_sortWorldK_c enc k w gb 0 m dk os;have cz:=Zgk (E:=E) (w:=sortWorldK enc k w gb 0 m dk os) (vs:=[.agg (enc x).toArray,.agg (enc y).toArray]) (hp _ _ x.2.1 y.2.1)
    (VRs.cons (.agg _ _ (by have:=x.2.2.1;exact this) x.2.2.2) (VRs.cons (.agg _ _ (by have:=y.2.2.1;exact this) y.2.2.2) (VRs.nil _)))
    (fun a ha=>by
     simp only[Ql,QA,or_false]at ha;rcases ha with rfl|rfl<;>exact Yt (b4 _))
    (fun b o v Q=>by
     have a7:b≠gb:=fun e'=>by subst e';rw[q6]at Q;cases Q
     have N:=hr.ZbC Q;unfold sortWorldK;rw[cell?_grow _ _ _ (by rw[size_putRowK];exact N),cell?_putRowK_other _ _ _ _ _ _ _ a7];exact hr.F _ _ _ Q)
   refine Calls.mono cz ?_;rintro e' w' ⟨⟨v,E',rfl,c1⟩,hw⟩;cases c1;exact⟨rfl,hw⟩
  have hs:=AnyQ.slices_SortFunc L k aE zE enc b7 bx cf' cq g #[] gb 0 cap d w (Y2 hf) aw b8 c0 (by rw[s];omega);rw[s]at hs;refine Calls.mono hs ?_;rintro e' w' ⟨rfl,B,m,os,⟨p1,p2,p3⟩,cy,rfl⟩;have D:B.size=xs.length:=by rw[p1,s]
  have bv:B.extract 0 xs.length=B:=by rw[<-D];simp
  have cx:d.extract 0 xs.length=d:=by rw[<-s];simp
  rw[bv,cx]at p3;have b5:d.toList.map (fun p=>p.1.2)=xs:=by
   apply Gv
   ·simp[s]
   ·intro i h1 h2;have u:i<xs.length:=by simpa[s]using h1
    have:=ay i u;rw[getElem!_pos d i (by rw[s];exact u)]at this;simp only[QZ,MJ,this]
  obtain⟨ys,hys⟩:∃ys,ys=B.toList.map (fun p=>p.1.2):=⟨_,rfl⟩
  have K:ys.length=xs.length:=by rw[hys];simp[D]
  have U:∀i (u:i<ys.length),ys[i]=(B[i]!).1.2:=fun i u=>by
   subst hys;rw[getElem!_pos B i (by simpa using u)];simp
  have cw:ys.Perm xs:=by rw[hys,<-b5];exact p3.map _
  have bq:(putRowK enc k (Go.Sort.ahead w m) gb 0 B).heap[gb]? =some (.cells (putCells id 0 (flatK enc k B) A) e (0,0)):=by
   simp only[putRowK,putRow,mapBlock,U5,if_true,Go.Sort.ahead,q2,Ut,onCells]
  have S:(putCells id 0 (flatK enc k B) A).size=A.size:=by simp[putCells]
  obtain⟨b9,a0⟩:=hr.turn (w':=putRowK enc k (Go.Sort.ahead w m) gb 0 B) (.inr q1) (.Zg e k (ys.flatMap cs) ys.length) (fun _=>rfl) rfl rfl rfl (fun _=>GU _ _) (by rw[size_putRowK];rfl)
   (fun b' b1=>by simp only[putRowK,putRow,mapBlock,U5,Go.Sort.ahead];rw[if_neg (fun e=>b1 e.symm)]) q6 (by
    obtain⟨⟨_,v0,aq,bw,_⟩,b0⟩:=hr.Zg l j e k (xs.flatMap cs) xs.length (hr.norm.Xg hh) hH;rw[hh]at aq;cases aq;rw[K];refine⟨⟨by rw[O,K],_,hh,bw,.inr ⟨gb,cap,_,rfl,q1,bq,q3,q4,by rw[S,q5],q6,?_⟩⟩,b0⟩;have b6:(putCells id 0 (flatK enc k B) A).toList.length=A.size:=by rw[Uh];exact S
    refine⟨by rw[O,K,QJ,b6];omega,fun t C a9=>?_⟩;rw[O,K]at C;have u:t / k<xs.length:=Qan (by rw[G6];exact C);have J:t % k<k:=Qbw _ k0;have a1:=Zc7 cs k hk k0 ys t;rw[Qe (l:=ys) (i:=t / k) om,UY,Qe (l:=cs ys[t / k]) (i:=t % k) (by rw[hk];exact J),Qe (l:=ys.flatMap cs) (i:=t) (by rw[O,K];exact C)]at a1;have a2:=Uu a1;rw[a2];have a3:((putCells id 0 (flatK enc k B) A).toList.take (xs.length*k))[t]=(enc B[t / k]!)[t % k]!:=by
     rw[GI];simp only[putCells,MJ,QaP,size_flatK,D];rw[if_pos ⟨Us _,om⟩,MV,get_flatK _ _ _ _ (by rw[D];exact C)];rfl
    rw[a3];have a4:=(B[t / k]!).2.2;have b3:=U (t / k) om;have a5:=a4.2 (t % k) (by rw[hk];exact J) (by rw[a4.1,hk];exact J);have a6:(enc B[t / k]!)[t % k]! =(B[t / k]!).1.1[t % k]'(by rw[a4.1,hk];exact J):=getElem!_pos _ _ _;rw[a6];simp only[b3];exact a5)
  obtain⟨cv,bu⟩:=b9.below (w':=sortWorldK enc k w gb 0 m B os) ⟨rfl,rfl,rfl,by simp[sortWorldK],fun b hb=>by simp[sortWorldK,grow,Qbz,hb]⟩ (fun _=>Qi _);refine⟨.tup [],_,_,E,rfl,⟨rfl,ys,cw,fun i M u a8 cu=>?_,rfl⟩,.tup [] [] rfl (fun i h=>absurd h (Qj _)),cv,a0.trans bu⟩;have:=cy i M (Us _) cu om;rw[U i u,U M a8];exact this
end
end
section
variable {P:Program} {ρ:Ren} {X:Type}
def ZoL(L:SlLaysF.n6 P ρ)(L0:SlLaysF0.n6 P ρ)(c:X->AV)(W:∀x,(c x).one=true)(a8:∀x,Below 0 (c x))(Z:X->X->Int)(G:X->Prop)(hO:Zs0 G (ltOf Z))(g:Nat)(fn:Func)(cd:Code)(hf:Fun P g fn cd)(hp:∀x y,G x->G y->Pure P g [c x,c y] (.int .i64 (Z x y)))
  (n:Nat) (H:Za) (l j e Q:Nat) (xs:List X) (hG:∀x∈xs,G x) (hH:H l j=some (.Zg e 1 (xs.map c) xs.length)) (b7:xs.length<=1000000000):
  Zh P n (ρ.f 6) [.msl Q l j xs.length,.fn (.func g) []] H fun r H'=>r= .tup []/\ ∃ys:List X,ys.Perm xs/\(∀i C (h:i<ys.length) (h':C<ys.length),i<C->ltOf Z ys[C] ys[i]=false)/\H'=H.upd l j (.Zg e 1 (ys.map c) ys.length):=fun E w vs hr hv=>by
 obtain⟨v1,r1,rfl,U,hv⟩:=hv.Yw;obtain⟨v2,r2,rfl,h2,hv⟩:=hv.Yw;rw[hv.of_nil];cases h2 with|fn _ _ vs2 hl2 hv2=>
 have e2:vs2=[]:=by simpa using hl2
 subst e2;cases R:xs with
 |nil=>
  subst R;have A:∀a cap,Calls P (ρ.f 6) #[.slice a 0 cap,.func (.func g) #[] #[]] w fun V w'=>∃r v H' E',V= .returned v/\(r= .tup []/\ ∃ys:List X,ys.Perm []/\(∀i C (h:i<ys.length) (h':C<ys.length),i<C->ltOf Z ys[C] ys[i]=false)/\H'=H.upd l j (.Zg e 1 (ys.map c) ys.length))/\VR E' r v/\Zo n H' E' w'/\Ext n E w E' w':=fun a cap=>
   (AnyF.slices_SortFunc_none L0 a cap _ w).mono fun V w' ⟨he,hw⟩=>by
    subst hw he;exact⟨.tup [],_,H,E,rfl,⟨rfl,[],.refl _,fun i _ h=>absurd h (Qj _),(Z7 hH).symm⟩,.tup [] [] rfl (fun i h=>absurd h (Qj _)),hr,.refl _ _ _⟩
  generalize hz:AV.msl Q l j ([]:List X).length=av at U;cases U<;>cases hz
  ·exact A _ _
  ·exact A _ _
 |cons x0 xr=>
  rw[<-R];have J:0<xs.length:=by rw[R];simp
  obtain⟨nx,hnx⟩:∃m,m=xs.length:=⟨_,rfl⟩
  rw[<-hnx]at U;generalize hz:AV.msl Q l j nx=av at U;cases U<;>cases hz
  ·omega
  rename_i gb cap hh;subst hnx;obtain⟨B,q1,q2,q3,q4,q5,q6,q7,q8⟩:=hr.mrow hh hH J;rw[Gs]at q5 q7;have b5:gb<w.heap.size:=(QO.1 q2).1;have cx:xs.length<=B.size:=om;have N:∀i (s:i<xs.length),G xs[i]/\VR E (c xs[i]) B[i]:=fun i s=>by
   refine⟨hG _ (Qa s),?_⟩;have a4:=q7.2 i (by simpa using s) (by rw[q7.1];simpa using s);simpa using a4
  let Elt1:={p:Value×X // G p.2/\VR E (c p.2) p.1}
  letI inh:Inhabited Elt1:=⟨⟨(B[0],xs[0]),N 0 J⟩⟩
  let enc:Elt1->Value:=fun p=>p.1.1
  let cf':Elt1->Elt1->Int:=fun p q=>Z p.1.2 q.1.2
  let d:Array Elt1:=Array.ofFn fun i:Fin xs.length=>⟨(B[i.1],xs[i.1]),N i.1 i.2⟩
  have k:d.size=xs.length:=Array.size_ofFn;have Y:∀i (s:i<xs.length),d[i]! =⟨(B[i],xs[i]),N i s⟩:=fun i s=>by
   rw[getElem!_pos d i (by rw[k];exact s)];exact Array.getElem_ofFn _
  have aq:OneCell enc:=fun x=>x.2.2.one (W _)
  have b4:SWO (ltOf cf'):=⟨fun x=>hO.irrefl _ x.2.1,fun x y z=>hO.trans _ _ _ x.2.1 y.2.1 z.2.1,fun x y z=>hO.ntrans _ _ _ x.2.1 y.2.1 z.2.1⟩
  have bz:Holds enc w gb 0 d:=fun t ht=>by
   have s:t<xs.length:=by rw[k]at ht;exact ht
   have O:w.cell? ⟨gb,0+t,none⟩=B[t]?:=by simp only[World.cell?,q2];simp
   refine⟨?_,by simp[World.frozen?,q2]⟩;rw[O,Y _ s,UD om]
  have ax:CmpLays1 P g #[] enc cf' gb 0 d.size w:=fun m os dk b9 x y=>by
   have b0:=Zgk (E:=E) (w:=sortWorld enc w gb 0 m dk os) (vs:=[enc x,enc y]) (hp _ _ x.2.1 y.2.1) (VRs.cons x.2.2 (VRs.cons y.2.2 (VRs.nil _)))
    (fun a ha=>by
     simp only[Ql,QA,or_false]at ha;rcases ha with rfl|rfl<;>exact a8 _)
    (fun b o v D=>by
     have aw:b≠gb:=fun V=>by subst V;rw[q6]at D;cases D
     have a3:=hr.ZbC D;unfold sortWorld;rw[cell?_grow _ _ _ (by simp[putRow,mapBlock,Go.Sort.ahead];exact a3),cell?_putRow_other _ _ _ _ _ _ (.inl aw)];exact hr.F _ _ _ D)
   refine Calls.mono b0 ?_;rintro V w' ⟨⟨v,E',rfl,b6⟩,hw⟩;cases b6;exact⟨rfl,hw⟩
  have hs:=Any.slices_SortFunc L enc aq cf' b4 g #[] gb 0 cap d w (Y2 hf) ax bz b5 (by rw[k];omega);rw[k]at hs;refine Calls.mono hs ?_;rintro V w' ⟨rfl,u,m,os,⟨p1,p2,p3⟩,bq,rfl⟩;have I:u.size=xs.length:=by rw[p1,k]
  have a1:u.extract 0 xs.length=u:=by rw[<-I];simp
  have bu:d.extract 0 xs.length=d:=by rw[<-k];simp
  rw[a1,bu]at p3;have a9:d.toList.map (fun p=>p.1.2)=xs:=by
   apply Gv
   ·simp[k]
   ·intro i U h2;have s:i<xs.length:=by simpa[k]using U
    have:=Y i s;rw[getElem!_pos d i (by rw[k];exact s)]at this;simp only[QZ,MJ,this]
  obtain⟨ys,hys⟩:∃ys,ys=u.toList.map (fun p=>p.1.2):=⟨_,rfl⟩
  have S:ys.length=xs.length:=by rw[hys];simp[I]
  have M:∀i (s:i<ys.length),ys[i]=(u[i]!).1.2:=fun i s=>by
   subst hys;rw[getElem!_pos u i (by simpa using s)];simp
  have b1:ys.Perm xs:=by rw[hys,<-a9];exact p3.map _
  have a5:(putRow enc (Go.Sort.ahead w m) gb 0 u).heap[gb]? =some (.cells (putCells enc 0 u B) e (0,0)):=by
   simp only[putRow,mapBlock,U5,if_true,Go.Sort.ahead,q2,Ut,onCells]
  have K:(putCells enc 0 u B).size=B.size:=by simp[putCells]
  obtain⟨bw,az⟩:=hr.turn (w':=putRow enc (Go.Sort.ahead w m) gb 0 u) (.inr q1) (.Zg e 1 (ys.map c) ys.length) (fun _=>rfl) rfl rfl rfl (fun _=>GU _ _) (by simp[putRow,mapBlock,Go.Sort.ahead])
   (fun b' a7=>by simp only[putRow,mapBlock,U5,Go.Sort.ahead];rw[if_neg (fun e=>a7 e.symm)]) q6 (by
    obtain⟨⟨_,v0,ay,a0,_⟩,a6⟩:=hr.Zg l j e 1 (xs.map c) xs.length (hr.norm.Xg hh) hH;rw[hh]at ay;cases ay;rw[S];refine⟨⟨by simp[S],_,hh,a0,.inr ⟨gb,cap,_,rfl,q1,a5,q3,q4,by rw[K,q5,Gs],q6,?_⟩⟩,a6⟩;rw[Gs];have bx:(putCells enc 0 u B).toList.length=B.size:=by rw[Uh];exact K
    refine⟨by rw[QJ,bx,Qv,S];omega,fun t ht b8=>?_⟩;have bv:t<ys.length:=by simpa using ht
    have cy:t<u.size:=om;rw[QZ,M t bv,GI];simp only[putCells,MJ,QaP];rw[if_pos ⟨Us _,om⟩,MV];exact(u[t]!).2.2)
  obtain⟨b2,a2⟩:=bw.below (w':=sortWorld enc w gb 0 m u os) ⟨rfl,rfl,rfl,by simp[sortWorld,grow,enc],fun b hb=>by show((putRow enc (Go.Sort.ahead w m) gb 0 u).heap++os)[b]? =_;rw[Gh hb]⟩ (fun _=>Qi _);refine⟨.tup [],_,_,E,rfl,⟨rfl,ys,b1,fun i C s au b3=>?_,rfl⟩,.tup [] [] rfl (fun i h=>absurd h (Qj _)),b2,az.trans a2⟩;have:=bq i C (Us _) b3 om;rw[M i s,M C au];exact this
end
end Go.Abs

namespace Go.Proofs.YthajllbimoodjaaGreatDoor
open Go.Abs
def ZnY{X:Type}{G:X->Prop}{c:X->X->Int}(h:Zhk G c):Zs0 G (ltOf c) where
 irrefl x hx:=by rw[ltOf,h.self hx];rfl
 trans x y z hx hy hz h1 h2:=by
  rw[ltOf,decide_eq_true_eq]at*;exact h.trans hx hy hz h1 h2
 ntrans x y z hx hy hz h1 h2:=by
  obtain⟨f,a⟩:=h.ex;rw[ltOf,decide_eq_false_iff_not]at*;rw[a _ _ hx hy]at h1;rw[a _ _ hy hz]at h2;rw[a _ _ hx hz];have b:=lexI_anti (f x) (f y);have e:=lexI_anti (f y) (f z);have d:=lexI_anti (f x) (f z);have:=lexI_trans (f z) (f y) (f x) om om;omega
def SD(K:List Str)(b:Bnd):Prop:=WY K b/\b.length<=1000000
def Zvf(K:List Str):Zhk (SD K) Y9:=by
 obtain⟨⟨f,d⟩,c⟩:=Zxi K;exact⟨⟨f,fun x y b a=>d x y b.1 a.1⟩,fun x y b a=>c x y b.1 a.1⟩
def Tryz.sort50':Go.Proofs.SlLaysF.n6 prog Tryz.sort50_ren:={Tryz.sort50 with a24:=Tryz.isAgg93,z24:=Tryz.sizeOf93}
theorem k50(n:Nat)(H:Za)(l j:Nat)(K:List Str)(c:List Bnd)(v:∀b∈c,SD K b)(p:c.length<=1000000)(m:H l j=some (.Zg 93 1 (flat (c.map Zu)) c.length)):
  Zh prog n 89 [.msl 1 l j c.length,.fn (.func 90) []] H (fun r o=>r= .tup []/\ ∃a:List Bnd,a.Perm c/\(∀i e (h:i<a.length) (g:e<a.length),i<e-> ¬Y9 a[e] a[i]<0)/\o=H.upd l j (.Zg 93 1 (flat (a.map Zu)) a.length)):=by
 have d:∀q:List Bnd,flat (q.map Zu)=q.map Zu:=fun q=>by
  induction q with
  |nil=>rfl
  |cons x q ih=>rw[Qs,Yc,ih];rfl
 rw[d]at m;have h:=ZoL (P:=prog) (ρ:=Tryz.sort50_ren) Tryz.sort50' Tryz.sort50 Zu (fun _=>rfl) (fun b=>ZH 0 b) Y9 (SD K) (ZnY (Zvf K)) 90 _ _ (Zf func90 rfl rfl)
  (fun x y s k=>k51 x y s.2 k.2 (fun q f=>X8 (s.1.1.val q f)) (fun q f=>X8 (k.1.1.val q f))) n H l j 93 1 c v m om
 refine Zh.mono h ?_;rintro r o ⟨rfl,a,t,u,rfl⟩;refine⟨rfl,a,t,fun i e h g w=>?_,by rw[d]⟩;have:=u i e h g w;rw[ltOf,decide_eq_false_iff_not]at this;exact this
structure Zun (n:Nat) (H:Za) (f:Nat) (caps:LA) (l:List Bnd) (g:Bnd->Bnd):Prop where
 fn:∃fn c,Fun prog f fn c
 on:∀x∈l,∀m G,n<=m->(∀l' k,l'<n->G l' k=H l' k)->PC prog m f (Zu x::caps) G (Zu (g x))
 below:∀m,n<=m->ZW (fun c=>Below m c) caps
def ZvP(l:List Bnd)(f:Nat)(a:LA)(g:Bnd->Bnd)(n:Nat)(H:Za)(i:Nat):Zc:=
 ⟨[(10,.int .i64 i),(9,.int .i64 l.length),(8,.sl 1 (l.map Zu) .any),(5,.msl 1 n 200 i),(1,.fn (.func f) a)],[(200,.Zg 93 1 (((l.take i).map g).map Zu) i)],H⟩
def ZpO(v:AV)(h:v.cells=[v]):flat [v]=[v]:=by simp[flat,h]
def k43(n:Nat)(H:Za)(l:List Bnd)(hl:l.length<=1000000)(f:Nat)(caps:LA)(g:Bnd->Bnd)(j:Zun n H f caps l g)(a d:Nat)(b:a<n)(v:H a d=none):
  Zh prog n 83 [.sl 1 (l.map Zu) .any,.fn (.func f) caps] H fun r A=>r= .msl 1 a d l.length/\A=H.upd a d (.Zg 93 1 ((l.map g).map Zu) l.length):=by
 obtain⟨⟨x,c,z⟩,j,o⟩:=j;have hfi:∀q,Inside n q (.fn (.func f) caps):=fun q=>(Below.fn _ _ fun i y=>(o n (Qi n)).mem _ (Qa y)).inside
 have hbi:∀q,Inside n q (.sl 1 (l.map Zu) .any):=fun q=>(ZI l).inside
 have hmb:∀(q:Nat->Prop) (r:List Bnd) m,Ze.Inside n q (.Zg 93 1 (r.map Zu) m):=fun q r m=>⟨fun c e=>by obtain⟨u,_,rfl⟩:=Qg.1 e;exact(ZH n u).inside,by simp[Ze.at_]⟩
 have hmi:∀(q:Nat->Prop) (r:List Bnd),ZW (fun c=>Inside n q c) (r.map Zu):=fun q r=>ZM fun c e=>by obtain⟨u,_,rfl⟩:=Qg.1 e;exact(ZH n u).inside
 have p:∀(r:List Bnd) m,Ze.Below n (.Zg 93 1 (r.map Zu) m):=fun r m=>⟨fun c e=>by obtain⟨u,_,rfl⟩:=Qg.1 e;exact ZH n u,by simp[Ze.at_]⟩
 refine aF func83 fun B=>?_
 refine gz ?_;refine Jp 5 200 93 1 rfl rfl ?_;refine Zx (ZvP l f caps g n H) l.length rfl ?_ ?_
 ·exact KK
 intro i y;refine ZV rfl ?_;rcases Qd i l.length with h|h
 ·refine nq h ?_;refine nT ?_;refine nq2 (getD_map Zu _ _ h) h ?_;refine nR ?_;refine Yp (avs:=[Zu l[i]]) rfl z (j l[i] (Qa h) (n+1) _ om fun l' k h=>Zi h _ _ _) rfl ?_;have w:flat [Zu (g l[i])]=[Zu (g l[i])]:=ZpO _ rfl;have s:((l.take i).map g).map Zu++[Zu (g l[i])]=((l.take (i+1)).map g).map Zu:=by rw[Qn h,QM,QM];rfl
  refine aq2 w s ?_;refine⟨rfl,⟨Zn om,om⟩,?_⟩;refine gd ?_;apply kZ;repeat' first|apply q0|exact xx|apply aI
  ·refine aS ?_;rw[iw];exact .refl _
  all_goals first|exact hfi _|exact hbi _|exact hmb _ _ _|exact .msl _ _ _ _ (.inr ⟨rfl,rfl⟩)|exact hmi _ _
 ·refine nq (QC.2 h) ?_;refine gg ?_;have t:i=l.length:=om;subst t;refine nt0 ?_;refine Wi 200 a d _ [(4,.msl 1 a d l.length)] b v rfl (p _ _) ⟨⟨.inr (.inr (.inr ⟨1,_,rfl⟩)),by simp[lkv,ren];exact .refl _⟩,trivial⟩ trivial ?_;refine nV ?_;exact Zq (.refl _) (.msl _ _ _ _ b) ⟨rfl,rfl⟩
section
variable {L:List (Nat×Ze)} {tm:LN} {n:Nat}
def ZjD{N:Nat}{H:Za}{j0 i:Nat}{l av':AV}{cs:LA}(f:lkb L j0=some (.box cs))(r:cs[i]? =some l)(hw:Wk l av'):AWk n N ⟨tm,L,H⟩ ⟨tm,setb L j0 (.box (cs.set i av')),H⟩:=fun B E w a hs=>by
 have h:=hs.heap;obtain⟨b0,b,c,t,hc,hv⟩:=h.box n j0 cs (Qq n) (by simp only[full,if_true];exact f);obtain⟨j,g⟩:=Q7.1 r;obtain⟨d,p⟩:=h.turn (w':=w) (.inl b) (.box (cs.set i av')) (fun hg=>absurd (h.m_g b) hg) rfl rfl rfl (fun _=>Qi _) rfl (fun _ _=>rfl) (fun o=>h.mF _ _ _ o b)
  ⟨b0,b,c,t,hc,by rw[MN];exact hv.1,fun q m k=>by
   rw[Gw];split
   ·rename_i e;subst e;have:=hv.2 i j k;rw[g]at this;exact hw.vr this
   ·exact hv.2 q (by simpa using m) k⟩
 rw[<-Zm]at d;exact⟨E,⟨hs.size,hs.defs,hs.tmps,d,hs.out⟩,.refl _ _ _⟩
def Zpv{cx:Cx}(b:cx.P=prog){o:Oper}{args:List Operand}{a:List TypeId}{H:Za}{k:Nat}{S:List Str}{x:Str}{K:Zc->Prop}(hk:lkb L k=some (.map (encS S)))
  (ha:Yo cx.T (evT tm) args a=[.map cx.n k,.sl 1 [.str x] .full]) (h:K ⟨Yf tm o.dst (.tup []),setb L k (.map (encS (ZO S [x]))),H⟩):ZfY cx o (.func 68) args a ⟨tm,L,H⟩ K:=by
 obtain⟨P,T,φ,n,N⟩:=cx;dsimp only at b ha h;subst b;refine⟨68,_,_,[],.tup [],setb L k (.map (encS (ZO S [x]))),H,rfl,Zf func68 rfl rfl,?_,.refl _ _,h⟩;rw[Qu,ha,Zm];exact Zh.args (j40 (n+1) _ n k (Qq n) S [x] sm (by simp only[full,if_true];exact hk)) ⟨.refl _,.any _ _ _,trivial⟩
def o10a:Opt:=⟨true,true,fun d=>if d=48 then .heap else if d=49\/d=70 then .call else .auto,[]⟩
variable {p:Nat->Prop}
def ZsN{j:Nat}(h:p j):Inside n p (.iptr [.map n j]):=.iptr _ fun i a=>ZW.mem (l:=[.map n j]) (p:=fun c=>Inside n p c) ⟨.map _ _ (.inr ⟨rfl,h⟩),trivial⟩ _ (Qa a)
def Zfo(n b c:Nat)(a:List Bnd)(m:Nat):Ze:=.box [.map n 51,.ptr b c 0,.sl 1 (a.map Zu) .any,.msl 1 n 200 m]
def ZnR(n c a:Nat)(l:List Lt)(b:Bnd)(d:List Str)(H:Za):Zc:=
 ⟨[(13,.ptr n 56 0),(10,.iptr [.map n 39]),(0,.sl 13 (l.map Lt.enc) .any),(2,.sl 5 (b.map eBd) .any)],[(39,.map (encS d)),(51,.map []),(200,.Zg 156 1 [] 0),(56,Zfo n c a [b] 0)],H⟩
def Zvk(n c a:Nat)(l:List Lt)(b:Bnd)(d:List Str)(H:Za)(i:Nat):Zc:=
 ⟨[(59,.int .i64 i),(58,.int .i64 b.length),(57,.sl 5 (b.map eBd) .any),(13,.ptr n 56 0),(10,.iptr [.map n 39]),(0,.sl 13 (l.map Lt.enc) .any)],
  [(39,.map (encS (ZO d (ZP (b.take i))))),(51,.map (encS (ZO [] (ZP (b.take i))))),(200,.Zg 156 1 [] 0),(56,Zfo n c a [b] 0)],H⟩
def ZpZ{j:Nat}(h:p j):Inside n p (.ptr n j 0):=.ptr _ _ _ (.inr ⟨rfl,h⟩)
def Zuz{d f:Nat}(b:d<n)(h:p 51)(e:p 200)(a:List Bnd)(m:Nat):ZW (fun c=>Inside n p c) [.map n 51,.ptr d f 0,.sl 1 (a.map Zu) .any,.msl 1 n 200 m]:=
 ⟨Zez h,.ptr _ _ _ (.inl b),(ZI a).inside,.msl _ _ _ _ (.inr ⟨rfl,e⟩),trivial⟩
def Q10(n:Nat)(s:Sto)(l:List Lt)(b:Bnd)(H:Za):AV->Za->Prop:=fun c a=>c= .tup [.sl 1 ((JM s.A l b).1.map Zu) .any,eInt (JM s.A l b).2]/\a=H
def ZnS(n c e:Nat)(l:List Lt)(b:Bnd)(d a:List Str)(H:Za):Zc:=
 ⟨[(16,.sl 1 [] .full),(13,.ptr n 56 0),(10,.iptr [.map n 39]),(0,.sl 13 (l.map Lt.enc) .any)],[(39,.map (encS d)),(51,.map (encS a)),(200,.Zg 156 1 [] 0),(56,Zfo n c e [b] 0)],H⟩
def ZoQ(A:List Am)(p:List Stp)(a:List Bnd):ZcI A p a 0=a:=by cases p<;>rfl
def ZnT(n d c:Nat)(e b:List Str)(D:List (Stp×Lt))(a:List Bnd)(H:Za):Zc:=
 ⟨[(13,.ptr n 56 0),(10,.iptr [.map n 39])],[(39,.map (encS e)),(51,.map (encS b)),(200,.Zg 156 1 (D.map (fnV n 56)) D.length),(56,Zfo n d c a D.length)],H⟩
def Zts(l a:Nat)(q:Stp×Lt):fnV l a q= .fn (.func (fnF q)) (fnC l a q):=by
 obtain⟨s,x⟩:=q;cases s<;>rfl
def Ztt(h:p 56)(q:Stp×Lt):Inside n p (fnV n 56 q):=by
 have d:Inside n p (.iptr [.ptr n 56 0]):=.iptr _ fun i e=>ZW.mem (l:=[.ptr n 56 0]) (p:=fun c=>Inside n p c) ⟨ZpZ h,trivial⟩ _ (Qa e)
 have b:∀f cs,ZW (fun c=>Inside n p c) cs->Inside n p (.fn f cs):=fun f cs h=>Inside.fn _ _ fun i e=>h.mem _ (Qa e)
 obtain⟨s,x⟩:=q;cases s with
 |test y=>exact b _ _ ⟨d,(Zj y.bcs).inside,trivial⟩
 |bind s t=>exact b _ _ ⟨d,(Zj (cs:=[.str s]) ⟨.str _,trivial⟩).inside,(Zj t.bcs).inside,trivial⟩
 |atom a=>exact b _ _ ⟨d,(Zj x.bcs).inside,trivial⟩
def Znz(h:p 56)(D:List (Stp×Lt)):ZW (fun c=>Inside n p c) (D.map (fnV n 56)):=ZM fun c hc=>by
 obtain⟨q,_,rfl⟩:=Qg.1 hc;exact Ztt h q
def Zvl(n d c:Nat)(e b:List Str)(D:List (Stp×Lt))(a:List Bnd)(H:Za)(i:Nat):Zc:=
 ⟨[(98,.int .i64 i),(97,.int .i64 D.length),(96,.msl 1 n 200 D.length),(13,.ptr n 56 0),(10,.iptr [.map n 39])],[(39,.map (encS e)),(51,.map (encS b)),(200,.Zg 156 1 (D.map (fnV n 56)) D.length),(56,Zfo n d c a D.length)],H⟩
def Zw1(hE:ExpOK)(n:Nat)(H:Za)(hT:Tabs H)(hn:0<n)(N S:Nat)(hls:N<n)(s:Sto)(hs:Ya H N S s)(ax:Ok s)(l:List Lt)(b:Bnd)(hb:b.length<=1000)(F:List Lt)(P:Zef l b F)(av:validB b=true)
  (O S1 S0:List Str) (a2:∀x,x∈O↔x∈Y0 l b) (a1:∀x,x∈S0↔x∈ZP b) (D:List (Stp×Lt)) (X:List Str×List Lt) (hP:plG F.length S0 F=(D,X)) (ho:∀x∈l,okX x) (aw:ZcR (ZP b) (Vr l (Y0 l b))=some (D.map Prod.fst))
  (hj:JM s.A l b=if(ZcJ s.A (D.map Prod.fst) [b]).2=0 then(X5 Y9 ((ZcJ s.A (D.map Prod.fst) [b]).1.map (Zb6 (Y0 l b))),0)else([],(ZcJ s.A (D.map Prod.fst) [b]).2)) (B:Base):
  AKc ⟨prog,tt,⟨none,B⟩,n,Tryz.f33.ntmps⟩ [.code (Zz Tryz.f33).snd.snd.snd.snd.snd.snd.snd.snd.snd.snd] (PostF prog tt n Tryz.f33.results.toList (Q10 n s l b H)) (ZnT n N S O S1 D [b] H):=by
 obtain⟨r0,hD,a6,Z⟩:=Zo6 (A:=s.A) P av a1 hP;have a7:=P.len;unfold ZnT;refine nr ?_;simp only[go_sem,simprocAttr,Zfo];repeat refine kn rfl ?_
 refine ZG (fun i=>Zvl n N S O S1 D (ZcI s.A (D.map Prod.fst) [b] i) H i) (fun i=>ZjJ s.A (D.map Prod.fst) (ZP b) [b] i) D.length rfl ?_ r0 ?_
 ·rw[ZoQ];exact KK
 intro i hi K;refine ZV rfl ?_;rcases Qd i D.length with h|h
 ·have I:i<(D.map Prod.fst).length:=by simpa using h
  have u:=K.use P hb Z I;have a3:=K.len;have L:=ZeF s.A (D.map Prod.fst) [b] i I;have f:=K.step (fun a ha=>ax.v a ha) I;rw[QZ]at u L f;obtain⟨q,hq⟩:∃q,q=D[i]:=⟨_,rfl⟩
  rw[<-hq]at u L f;obtain⟨Q,az⟩:=hD q (hq▸Qa h);have h1:((D.map (fnV n 56)).drop (i*1)).getD 0 .dead=fnV n 56 q:=by rw[Gs,hq];simp[h]
  have h2:i*1+1<=(D.map (fnV n 56)).length:=by simp;omega
  have g:=K.eq;rw[QB I,QZ,<-hq,ZcJ]at g;generalize hN:ZcI s.A (D.map Prod.fst) [b] i=now at*;refine nq h ?_;refine nT ?_;refine nq2 h h1 ?_;refine⟨⟨om,om,om⟩,?_⟩;refine nR ?_;obtain⟨fn,cd,V⟩:=ZrP q;refine YS (caps:=fnC n 56 q) (avs:=[]) (Zts n 56 q) V (Zu4 hE (n+1) _ (hT.full hn) om n 56 N S (Qq n) hls (.map n 51) (.msl 1 n 200 D.length) now om (by simp[full,lkb,Zfo,prB]) ⟨.map _ _ om,.msl _ _ _ _ om⟩ s (hs.full hls _) ax q az (P.sm _ Q) (P.op _ Q) u) rfl ?_;rintro r H1 ⟨rfl,rfl⟩;refine⟨_,H,(Zm n _ H 56 _).symm,.refl _ _,?_⟩;refine aS ?_;cases he:((Go.Abs.XA (stepS s.A q.1) now).2 !=0)with
  |true=>
   have C:¬(Go.Abs.XA (stepS s.A q.1) now).2=0:=by simpa using he
   rw[if_neg C]at g;refine nq he ?_;refine gn ?_;unfold Q10;rw[hj,g,if_neg C];exact ZF (.any _ _ _) (.refl _) (ZI []) (.int _ _) rfl
  |false=>
   have C:(Go.Abs.XA (stepS s.A q.1) now).2=0:=by simpa using he
   refine nq he ?_;refine gm ?_;refine⟨f C,?_⟩;rw[L];exact KK
 ·have a0:i=D.length:=om;subst a0;have g:=K.eq;rw[UQ sm,ZcJ]at g;have t:=K.ok;have a3:=K.len;have Y:=Znk P hb Z K;generalize ZcI s.A (D.map Prod.fst) [b] D.length=out at*;rw[g,if_pos rfl]at hj;have M:∀c∈out,WY (Y0 l b) (Zb6 (Y0 l b) c):=fun c d=>ZqA ho aw (t c d).1 fun n=>by
   have:=(t c d).2 n
   rwa [Ud sm]at this
  have E:∀c∈out.map (Zb6 (Y0 l b)),SD (Y0 l b) c:=fun c d=>by
   obtain⟨x,hx,rfl⟩:=Qg.1 d;exact⟨M x hx,UA (U0 _ _) (by have:=Y x hx;omega)⟩
  refine nr ?_;simp only[go_sem,simprocAttr,QC.2 h];refine gg ?_;refine nr ?_;simp only[go_sem,simprocAttr,Zfo];refine YS (caps:=[]) (avs:=[.sl 1 (out.map Zu) .any,.fn (.func 84) [.iptr [.map n 39]]]) rfl (Zf func83 rfl rfl) (k43 (n+1) _ out om 84 [.iptr [.map n 39]] (Zb6 (Y0 l b)) ⟨⟨_,_,Zf func84 rfl rfl⟩,fun x hx m G hm hG=>?_,fun m hm=>⟨Zj (cs:=[.map n 39]) ⟨.map _ _ om,trivial⟩,trivial⟩⟩ n 202 (Qq n) (by simp[full,lkb])) sS ?_
  ·rw[<-ZmC a2];exact k44 m G (hT.up fun k=>by rw[hG 0 k om,Zi hn]) om n 39 om O (by rw[hG _ _ om];simp[full,lkb]) x (by have:=Y x hx;omega) fun q hq=>X8 ((t x hx).1.val q hq)
  rintro r H1 ⟨rfl,rfl⟩;refine⟨_,H,(Zm n _ H 202 _).symm,.refl _ _,?_⟩;obtain⟨J,hrs⟩:∃J,J=out.map (Zb6 (Y0 l b)):=⟨_,rfl⟩
  have a4:out.length=J.length:=by rw[hrs,Qv]
  rw[<-hrs,a4];rw[<-hrs]at E hj;refine gP ?_;refine YS (caps:=[]) (avs:=[.msl 1 n 202 J.length,.fn (.func 90) []]) rfl (Zf func89 rfl rfl) (k50 (n+1) _ n 202 (Y0 l b) J E om (by simp[full,lkb,flat_bnds])) sS ?_;rintro r H1 ⟨rfl,w,o,ha,rfl⟩;refine⟨_,H,(Zm n _ H 202 _).symm,.refl _ _,?_⟩;have au:J.length=w.length:=o.length_eq.symm;have W:∀c∈w,SD (Y0 l b) c:=fun c d=>E c (o.mem_iff.1 d)
  have ay:kpt Y9 w w.length=X5 Y9 J:=ZnB (Zvf _) E o ha;refine aq au ?_;refine nR ?_;refine YS (caps:=[]) (avs:=[.msl 1 n 202 w.length,.fn (.func 92) []]) rfl (Zf func91 rfl rfl) (k52 (n+1) _ n 202 (Qq n) w om (fun c d=>⟨(W c d).2,fun q hq=>X8 ((W c d).1.1.val q hq)⟩) (by simp[full,lkb])) sS ?_;rintro r H1 hq;unfold Zul at hq;rw[ay]at hq;have hin:∀q:List Bnd,∀c∈flat (q.map Zu),Inside n (fun k=>k≠202) c:=fun q c d=>((ZhE (n:=n) (m:=0) q).1 c d).inside
  have R:∀p∈[(39,Ze.map (encS O)),(51,.map (encS S1)),(200,.Zg 156 1 (D.map (fnV n 56)) D.length),(56,.box [.map n 51,.ptr N S 0,.sl 1 (out.map Zu) .any,.msl 1 n 200 D.length])],p.2.Inside n (fun k=>k≠202):=fun p o=>by
   simp only[Ql,QA,or_false]at o;rcases o with rfl|rfl|rfl|rfl
   ·exact⟨fun c d=>((WC (n:=n) O).1 c d).inside,by simp[Ze.at_]⟩
   ·exact⟨fun c d=>((WC (n:=n) S1).1 c d).inside,by simp[Ze.at_]⟩
   ·exact⟨fun c d=>(Znz (p:=fun k=>k≠202) dc D).mem c d,by simp[Ze.at_]⟩
   ·exact Ze.Zv (Zuz hls dc dc out D.length)
  rcases hq with⟨rfl,rfl,e⟩|⟨rfl,a5,a8,rfl⟩
  ·rw[e]at ay;refine⟨_,H,rfl,.refl _ _,?_⟩;refine aS ?_;refine ZJ (YV (tm':=[(6,.sl 1 (w.map Zu) .any),(7,.int .i64 0)]) (j:=202) (w.map Zu) rfl rfl sm (Zm8 w) (hin w) (fun p o=>?_) R) ?_
   ·simp only[Ql,QA,or_false]at o;rcases o with rfl|rfl
    ·exact .inr ⟨1,rfl,rfl⟩
    ·exact .inl ⟨.refl _,.int _ _⟩
   refine nV ?_;unfold Q10;rw[hj,e];exact ZF (.refl _) (.refl _) (ZI _) (.int _ _) rfl
  ·refine⟨_,H,(Zm n _ H 202 _).symm,.refl _ _,?_⟩;refine aS ?_;generalize X5 Y9 J=U at*;refine ZJ (Jw (tm':=[(6,.sl 1 (U.map Zu) .any),(7,.int .i64 0)]) (j:=202) (U.map Zu++List.replicate (w.length - U.length) zBn) rfl rfl (by simp;omega) (fun x hx=>?_) (fun c d=>?_) (fun p o=>?_) R) ?_
   ·rcases Qr.1 hx with hx|hx
    ·exact Zm8 U x hx
    ·rw[(Ue.1 hx).2];rfl
   ·obtain⟨z,hz,d⟩:=QI.1 d;rcases Qr.1 hz with hz|hz
    ·obtain⟨y,_,rfl⟩:=Qg.1 hz;exact(Below.cells (ZH n y) c d).inside
    ·rw[(Ue.1 hz).2]at d;simp only[zBn,AV.cells,Qo]at d;subst d;exact inZ
   ·simp only[Ql,QA,or_false]at o;rcases o with rfl|rfl
    ·exact .inr (.inr ⟨0,U.length,rfl,by rw[Qab,Gq sm]⟩)
    ·exact .inl ⟨.refl _,.int _ _⟩
   refine nV ?_;unfold Q10;rw[hj];exact ZF (.refl _) (.refl _) (ZI _) (.int _ _) rfl
def Zku(K:List Str)(i:Nat):Str:=K.getD i []
def Zl8(K:List Str):(List.range K.length).map (Zku K)=K:=by
 apply Gv
 ·simp
 ·intro i b a;simp[Zku,a]
def ZqY(n f e:Nat)(l:List Lt)(b:Bnd)(c d:List Str)(H:Za)(a:List Nat):Zc:=
 ⟨[(78,.ptr n 78 0),(16,.sl 1 ((a.map (Zku c)).map .str) (.buf n 201)),(13,.ptr n 56 0),(10,.iptr [.map n 39]),(0,.sl 13 (l.map Lt.enc) .any)],
  [(78,.iter n 39 c.length a),(201,.buf 9 1 a.length),(39,.map (encS c)),(51,.map (encS d)),(200,.Zg 156 1 [] 0),(56,Zfo n f e [b] 0)],H⟩
def Zw0(hE:ExpOK)(n:Nat)(H:Za)(hT:Tabs H)(X:0<n)(o t:Nat)(hls:o<n)(s:Sto)(hs:Ya H o t s)(a1:Ok s)(l:List Lt)(hl:l.length<=10)(M:∀x∈l,Sm x)(az:∀x∈l,0<=x.op/\x.op<=255)(b:Bnd)(hb:b.length<=1000)(Z:l.all Xt=true)(J:validB b=true)
  (f E:List Str) (hK:f.Nodup) (L:∀x,x∈f↔x∈Y0 l b) (w:∀x,x∈E↔x∈ZP b) (B:Base):
  AKc ⟨prog,tt,⟨none,B⟩,n,Tryz.f33.ntmps⟩ [.code (Zz Tryz.f33).snd.snd.snd.snd.snd.snd.snd.snd] (PostF prog tt n Tryz.f33.results.toList (Q10 n s l b H)) (ZnS n o t l b f E H):=by
 unfold ZnS;have S:f.length<=7100:=UA (XV hK fun x hx=>(L x).1 hx) (Zkr hl M hb);have K:(encS f).length=f.length:=by simp[encS,ZaV]
 have ax:∀j (h:j<f.length),(encS f).getD j (.dead,.dead)=(.str f[j],.agg []):=fun j h=>by
  rw[Qk];simp[encS,ZaV,h]
 have hso:∀(q:Nat->Prop) (r:List Str),q 201->Inside n q (.sl 1 (r.map .str) (.buf n 201)):=fun q r h=>Abs.YF (mB fun u=>.str _) h
 have a6:∀(q:Nat->Prop) (m:Nat) (z:List Nat),q 39->Ze.Inside n q (.iter n 39 m z):=fun q m z h=>⟨by simp[Ze.avs],fun q' hq=>by simp only[Ze.at_,Qo]at hq;subst hq;exact .inr ⟨rfl,h⟩⟩
 refine gh ?_;refine XL 16 201 9 1 rfl rfl ?_;refine Zap (fun m st=>∃d:List Nat,d.Nodup/\(∀i∈d,i<f.length)/\m=f.length - d.length/\st=ZqY n o t l b f E H d) (m0:=f.length) (s0:=ZqY n o t l b f E H []) rfl ?_ ⟨[],sm,sm,sm,rfl⟩ ?_
 ·rw[K];exact KK
 rintro m st ⟨d,N,I,rfl,rfl⟩;refine ZV rfl ?_;have a4:d.length<=f.length:=by
  have:=XV N (q:=List.range f.length) (fun i hi=>by simpa using I i hi);simpa using this
 refine nR ?_;refine⟨78,n,39,encS f,d,rfl,by simp only[go_sem,simprocAttr,K],sS,fun hall=>?_,fun i hi au=>?_⟩
 ·refine aS ?_;refine gg ?_;have hp:(d.map (Zku f)).Perm f:=by
   conv=>rhs;rw[<-Zl8 f]
   refine List.Perm.map _ ((Qa8 N Qbm).2 fun i=>?_);rw[Gm];exact⟨I i,fun h=>hall i om⟩
  have ay:d.length=(d.map (Zku f)).length:=sm;rw[ay];generalize d.map (Zku f)=ks at*;have aw:∀k,k∈ks↔k∈Y0 l b:=fun k=>by rw[hp.mem_iff,L]
  have a5:ks.length<=7100:=by rw[hp.length_eq];exact S
  have av:Vr l ks=Vr l (Y0 l b):=Zeu (fun x=>by rw[Qr,Qr,aw]) l 0;have g:=j26 l hl M ks om;rw[av]at g;obtain⟨F,hF⟩:∃F,F=Vr l (Y0 l b):=⟨_,rfl⟩
  rw[<-hF]at g;refine nR ?_;refine cQ (Zh.args (g (n+1) _ om (hT.full X)) (args':=[.sl 13 (l.map Lt.enc) .any,.sl 1 (ks.map .str) (.buf n 201)]) ⟨.refl _,.any _ _ _,trivial⟩) ?_;refine aS ?_;have O:Zef l b F:=hF▸ZrO hl M az hb Z;have a7:=O.len;refine YS (caps:=[]) (avs:=[.ptr n 56 0,.sl 13 (F.map Lt.enc) .any]) rfl (Zf func82 rfl rfl) (k42 (n+1) _ (hT.full X) n 56 51 200 X (Qq n) dc (.ptr o t 0) (.sl 1 ([b].map Zu) .any) E F O.sm om ⟨.ptr _ _ _ om,ZI _⟩ (by simp[full,lkb,Zfo]) (by simp[full,lkb]) (by simp[full,lkb])) sS ?_;rintro r H1 ⟨rfl,rfl⟩;generalize hP:plG F.length E F=P;obtain⟨D,W,R⟩:=P;refine⟨[(78,.iter n 39 f.length d),(201,.buf 9 1 ks.length),(39,.map (encS f)),(51,.map (encS W)),(200,.Zg 156 1 (D.map (fnV n 56)) D.length),(56,Zfo n o t [b] D.length)],H,?_,.refl _ _,?_⟩
  ·unfold plH;rw[<-Zm,<-Zm,<-Zm];rfl
  refine aS ?_;cases Q:R.all (X0 W)with
  |false=>
   refine aS ?_;refine gj ?_;have Y:JM s.A l b=([],120):=by rw[Zh5 Z J w (hF▸hP),Q];rfl
   unfold Q10;rw[Y];exact ZF (.any _ _ _) (.refl _) (ZI []) (.int _ _) rfl
  |true=>
   refine aS ?_;refine nF ?_;refine Zl5 rfl ?_;have Y:=Zh5 (A:=s.A) Z J w (hF▸hP);rw[Q,if_pos rfl]at Y;have hD:∀c∈D.map (fnV n 56),Below (n+1) c:=fun c hc=>by obtain⟨q,_,rfl⟩:=Qg.1 hc;exact Zcn n 56 (Qq n) q
   refine ZJ (s':=ZnT n o t f W D [b] H) ?_ ?_
   ·unfold ZnT;exact KK
   exact Zw1 hE n H hT X o t hls s hs a1 l b hb F O J f W E L w D (W,R) hP (fun x hx=>(Zis (Qw.1 Z x hx)).1) (ZoV w (hF▸hP) Q) Y B
 ·have v:i<f.length:=om;have U:=ax i v;refine aq U ?_;refine nT ?_;obtain⟨h0,t0,het⟩:∃h0 t0,d++[i]=h0::t0:=by
   cases d with
   |nil=>exact⟨i,[],rfl⟩
   |cons x y=>exact⟨x,y++[i],rfl⟩
  have a3:∀p,(h0::t0).getLast p=i:=fun p=>by
   have:∀(l:List Nat) (q:l≠[]),l=d++[i]->l.getLast q=i:=fun l q e=>by subst e;simp
   exact this _ p het.symm
  rw[het];refine nq3 K a3 U ?_;refine⟨v,?_⟩;refine nR ?_;refine⟨by first|exact⟨rfl,dc⟩|exact rfl,⟨Zn (by have:=S;omega),by have:=S;omega⟩,?_⟩;rw[<-het];refine nN ?_;have C:(d++[i]).Nodup:=G5.2 ⟨N,sm,fun x hx y hy e=>by
   simp only[Qo]at hy;subst hy;subst e;exact au hx⟩
  have G:∀x∈d++[i],x<f.length:=fun x hx=>by
   rcases Qr.1 hx with hx|hx
   ·exact I x hx
   ·simp only[Qo]at hx;subst hx;exact v
  have a2:(d++[i]).length=d.length+1:=sm;have V:=XV C (q:=List.range f.length) (fun x hx=>by simpa using G x hx);simp only[Qh,Qm,Qz,GK,Qy]at V;have a0:Zku f i=f[i]:=by simp[Zku,v]
  refine⟨f.length - (d++[i]).length,ZqY n o t l b f E H (d++[i]),by simp only[Qh,Qm,Qz];omega,?_,d++[i],C,G,rfl,rfl⟩;apply kZ;repeat' first|apply q0|exact xx|apply aI
  all_goals first|exact(Ym l).inside|exact(ZH n _).inside|exact ZsN rfl|exact ZpZ rfl|exact Zki _|exact Zez rfl|exact Inside.ptr _ _ _ (.inl hls)|exact(ZI _).inside|exact .msl _ _ _ _ (.inr ⟨rfl,rfl⟩)|exact hso _ (List.map _ _) rfl|(intro a ha;simp[Ze.avs]at ha;done)|(intro q hq;simp only[Ze.at_,Qo]at hq;subst hq;exact .inr ⟨rfl,rfl⟩)|(simp only[go_sem,simprocAttr,QM,a0];exact .refl _)|(simp only[go_sem,simprocAttr,a2];done)
def ZwZ(v:ExpOK)(n:Nat)(H:Za)(u:Tabs H)(y:0<n)(d e:Nat)(hls:d<n)(s:Sto)(w:Ya H d e s)(q:Ok s)(l:List Lt)(hl:l.length<=10)(p:∀x∈l,Sm x)(m:∀x∈l,0<=x.op/\x.op<=255)(b:Bnd)(t:b.length<=1000)(z:l.all Xt=true)(j:validB b=true)(c:List Str)(g:c=ZO [] (l.flatMap ZX))(B:Base):
  AKc ⟨prog,tt,⟨none,B⟩,n,Tryz.f33.ntmps⟩ [.code (Zz Tryz.f33).snd.snd.snd.snd.snd.snd] (PostF prog tt n Tryz.f33.results.toList (Q10 n s l b H)) (ZnR n d e l b c H):=by
 unfold ZnR;refine gh ?_;refine Zx (Zvk n d e l b c H) b.length rfl ?_ ?_
 ·exact KK
 intro i C;refine ZV rfl ?_;rcases Qd i b.length with h|h
 ·have a:∀S,ZO (ZO S (ZP (b.take i))) [b[i].1]=ZO S (ZP (b.take (i+1))):=fun S=>by
   rw[Qn h];unfold ZP;rw[QM,Jg];rfl
  refine nr ?_;refine aq h ?_;refine nT ?_;refine nq2 (getD_map eBd _ _ h) h ?_;refine nD o10a ?_;simp only[go_sem,simprocAttr,o10a,Zfo];refine⟨rfl,?_⟩;refine Zpv rfl (k:=51) (x:=b[i].1) (S:=ZO [] (ZP (b.take i))) rfl sS ?_;rw[a];simp only[go_sem,simprocAttr];refine nR ?_;refine⟨rfl,?_⟩;refine YS (caps:=[]) (avs:=[.map n 39,.sl 1 [.str b[i].1] .full]) rfl (Zf func68 rfl rfl) (Zh.args (j40 (n+1) _ n 39 (Qq n) (ZO c (ZP (b.take i))) [b[i].1] sm (by simp only[full,if_true];rfl)) ⟨.refl _,.any _ _ _,trivial⟩) sS ?_;rintro r A ⟨rfl,rfl⟩;have f:=a c;refine⟨_,H,(Zm n _ H 39 _).symm,.refl _ _,?_⟩;rw[f];simp only[go_sem,simprocAttr];refine gd ?_;exact KK
 ·have o:i=b.length:=om;subst o;rw[QV];refine nq (QC.2 h) ?_;refine gG ?_;refine ZJ (s':=ZnS n d e l b (ZO c (ZP b)) (ZO [] (ZP b)) H) ?_ ?_
  ·unfold ZnS;exact KK
  exact Zw0 v n H u y d e hls s w q l hl p m b t z j (ZO c (ZP b)) (ZO [] (ZP b)) (addsN_nodup (g▸addsN_nodup .nil)) (fun x=>by rw[Vw,g,Vw];simp[Y0]) (fun x=>by rw[Vw];simp) B
end
def Zvj(n a c:Nat)(l:List Lt)(b:Bnd)(H:Za)(i:Nat):Zc:=
 ⟨[(42,.int .i64 i),(41,.int .i64 l.length),(40,.sl 13 (l.map Lt.enc) .any),(10,.iptr [.map n 39]),(0,.sl 13 (l.map Lt.enc) .any),(1,.ptr a c 0),(2,.sl 5 (b.map eBd) .any)],[(39,.map (encS (ZO [] ((l.take i).flatMap ZX))))],H⟩
def k10(D:ExpOK)(n:Nat)(H:Za)(hT:Tabs H)(hn:0<n)(a c:Nat)(hls:a<n)(s:Sto)(y:Ya H a c s)(o:Ok s)(l:List Lt)(hl:l.length<=10)(j:∀x∈l,Sm x)(t:∀x∈l,0<=x.op/\x.op<=255)(b:Bnd)(C:b.length<=1000)(z:∀q∈b,q.2.Good):
  PC prog n 33 [.sl 13 (l.map Lt.enc) .any,.ptr a c 0,.sl 5 (b.map eBd) .any] H (.tup [.sl 1 ((JM s.A l b).1.map Zu) .any,eInt (JM s.A l b).2]):=by
 have r:((atR s.A 0).2==1)=false:=by
  unfold atR;split
  ·split<;>rfl
  ·rfl
 have d:∀k,Below k (.sl 1 (([]:List Bnd).map Zu) .any):=fun k=>ZI []
 refine aF func33 fun B=>?_
 refine gc ?_;refine cQ (a27 (n+1) _ a c s 0 om (y.full hls _) o.g om (hT.full hn)) ?_;refine aS ?_;refine nq r ?_;refine gv ?_;refine cT (j38 l om fun x hx=>(j x hx).good) ?_;cases w:l.all Xt with
 |false=>
  have v:JM s.A l b=([],2):=by unfold JM;rw[w];rfl
  refine aS ?_;refine gj ?_;rw[v];exact ZF (.any _ _ _) (.refl _) (d _) (.int _ _) rfl
 |true=>
  refine aS ?_;refine cT (k39 b om z) ?_;cases m:validB b with
  |false=>
   have v:JM s.A l b=([],2):=by unfold JM;rw[w,m];rfl
   refine aS ?_;refine gj ?_;rw[v];exact ZF (.any _ _ _) (.refl _) (d _) (.int _ _) rfl
  |true=>
   refine aS ?_;refine gN ?_;refine ZJ (s':=⟨[(10,.ptr n 10 0),(0,.sl 13 (l.map Lt.enc) .any),(1,.ptr a c 0),(2,.sl 5 (b.map eBd) .any)],[(39,.map []),(10,.box [.map n 39])],H⟩) ?_ ?_
   ·exact KK
   refine ZT 10 [.map n 39] [(10,.iptr [.map n 39]),(0,.sl 13 (l.map Lt.enc) .any),(1,.ptr a c 0),(2,.sl 5 (b.map eBd) .any)] rfl ⟨Zez dc,trivial⟩ ?_ ?_ ?_
   ·exact⟨.inr ⟨0,rfl,rfl⟩,.inl ⟨.refl _,(Ym l).inside⟩,.inl ⟨.refl _,.ptr _ _ _ (.inl hls)⟩,.inl ⟨.refl _,(ZH n b).inside⟩,trivial⟩
   ·exact⟨⟨by simp[Ze.avs],by simp[Ze.at_]⟩,trivial⟩
   refine aS ?_;refine gh ?_;refine Zx (Zvj n a c l b H) l.length rfl ?_ ?_
   ·exact KK
   intro i F;refine ZV rfl ?_;rcases Qd i l.length with h|h
   ·obtain⟨x,hx⟩:∃x,x=l[i]:=⟨_,rfl⟩
    have e:=j _ (Qa h);rw[<-hx]at e;have f:ZO (ZO [] ((l.take i).flatMap ZX)) (ZX x)=ZO [] ((l.take (i+1)).flatMap ZX):=by
     rw[Qn h,Uz,Jg,hx];simp
    refine nr ?_;simp only[go_sem,simprocAttr,h];refine gH ?_;simp only[go_sem,simprocAttr,Lt.Zw _ _ h,h,<-hx];refine nD o10a ?_;simp only[go_sem,simprocAttr,o10a];refine Zgj (Zf func81 rfl rfl) (fun G E=>j41 x e (n+1) G om (Jl E▸hT.full hn)) sS ?_;simp only[go_sem,simprocAttr,o10a];refine Zna rfl (k:=39) (xs:=ZX x) (S:=ZO [] ((l.take i).flatMap ZX)) (by have:=e.tv.2.2;omega) rfl (by simp only[go_sem,simprocAttr];rfl) ?_;rw[f];simp only[go_sem,simprocAttr];refine gd ?_;exact KK
   ·have u:i=l.length:=om;subst u;rw[QV];obtain⟨p,hK1⟩:∃p,p=ZO [] (l.flatMap ZX):=⟨_,rfl⟩
    rw[<-hK1];refine nq (QC.2 h) ?_;refine gG ?_;refine⟨rfl,?_⟩;refine Za5 56 200 3 156 1 rfl rfl rfl ?_;simp only[go_sem,simprocAttr,ML,U4];refine ZJ (ZjD (j0:=56) (i:=2) (av':=.sl 1 [.sl 5 (b.map eBd) .any] .any) rfl rfl (.any _ _ _)) ?_;simp only[go_sem,simprocAttr,ML,U4];refine ZJ (s':=ZnR n a c l b p H) ?_ ?_
    ·unfold ZnR;exact KK
    exact ZwZ D n H hT hn a c hls s y o l hl j t b C w m p hK1 B
def e233(x:Int):Pure prog 435 [.int .i64 x] (Vp x).enc:=by
 intro n H;refine aF func435 fun B=>?_
 refine gK ?_;refine YH (.inl rfl) _ n 2 0 [.int .u8 1,.int .i64 x,.str [],.sl 4 [] .full] sS sF rfl (Qi _) sS ?_ (Tm.blw _ _) rfl;refine aS ?_;exact .deep (.ZlK ⟨.refl _,.refl _,.refl _,.nil _ _ _,trivial⟩)
def ZbX{n:Nat}(l:List Int):Below n (.sl 1 (l.map eInt) .any):=Zl fun x a=>by obtain⟨y,_,rfl⟩:=Qg.1 a;exact .int _ _
def Zl1(l:LT)(i:Nat)(h:i<l.length):Yl (l.take (i+1))=Yl (l.take i)++if l[i].kind=1 then [l[i].num]else []:=by
 unfold Yl;rw[Qn h,Qa6,QM];by_cases a:l[i].kind=1
 ·simp[a]
 ·simp[a]
def ZqK(l:LT)(n:Nat)(H:Za)(i:Nat):Zc:=
 ⟨[(7,.int .i64 i),(6,.int .i64 l.length),(5,.sl 4 (l.map Tm.enc) .any),(2,.sl 1 ((Yl (l.take i)).map eInt) (.buf n 200))],[(200,.buf 3 1 (Yl (l.take i)).length)],H⟩
def e199(l:LT)(hl:l.length<=1000000):Pure prog 409 [.sl 4 (l.map Tm.enc) .any] (.sl 1 ((Yl l).map eInt) .any):=by
 intro n H;have hbi:∀q,Inside n q (.sl 4 (l.map Tm.enc) .any):=fun q=>(ZB l).inside
 have ho:∀(q:Nat->Prop) (r:List Int),q 200->Inside n q (.sl 1 (r.map eInt) (.buf n 200)):=fun q r h=>Abs.YF (mB fun u=>.int _ _) h
 refine aF func409 fun B=>?_
 refine gk ?_;refine XL 2 200 3 1 rfl rfl ?_;refine Zx (ZqK l n H) l.length rfl ?_ ?_
 ·exact KK
 intro i j;refine ZV rfl ?_;rcases Qd i l.length with h|h
 ·have b:=Zl1 l i h;have g:(Yl (l.take i)).length<=1000000:=by
   have:(Yl (l.take i)).length<=(l.take i).length:=by unfold Yl;rw[Qv];exact U0 _ _
   rw[QJ]at this;omega
  refine nq h ?_;refine nT ?_;refine nq2 (Tm.Zw _ _ h) h ?_;by_cases c:l[i].kind=1
  ·have a:(l[i].kind==1)=true:=by simp[c]
   rw[if_pos c]at b;have f:((Yl (l.take i)).map eInt)++[.int .i64 l[i].num]=(Yl (l.take (i+1))).map eInt:=by rw[b,QM];rfl
   have e:(Yl (l.take (i+1))).length=(Yl (l.take i)).length+1:=by rw[b];simp
   refine nq a ?_;refine gi ?_;refine⟨rfl,⟨Zn om,om⟩,?_⟩;rw[f];refine gd ?_;unfold ZqK;rw[e];exact KK
  ·have a:(l[i].kind==1)=false:=by simp[c]
   rw[if_neg c,Qu]at b;refine nq a ?_;refine gm ?_;unfold ZqK;rw[b];exact KK
 ·have d:i=l.length:=om;subst d;refine nq (QC.2 h) ?_;refine gg ?_;refine gE ?_;exact Zb (.any _ _ _) (ZbX _) rfl
def Zbr{c b:Type}(f:b->c->b)(a:b)(l:List c)(i:Nat)(h:i<l.length):(l.take (i+1)).foldl f a=f ((l.take i).foldl f a) l[i]:=by
 rw[Qn h,Gz];rfl
def Zu7(x y:Int):(if y<x then y else x)=min x y:=by
 show(if y<x then y else x)=min x y;simp only[Int.max_def,Int.min_def];split<;>split<;>omega
def e230(x:Int)(l:List Int)(hl:l.length<=1000000):Pure prog 432 [.sl 1 ((x::l).map eInt) .any] (.int .i64 (minS (x::l))):=by
 intro n H;have hbi:∀q,Inside n q (.sl 1 ((x::l).map eInt) .any):=fun q=>(ZbX (x::l)).inside
 have a:((x::l).map eInt).length=l.length+1:=sm;have j:¬(((l.length+1:Nat):Int)<1):=om;generalize f:(x::l).map eInt=X at a hbi⊢;refine aF func432 fun B=>?_
 refine nR ?_;have c:∀d,X.getD 0 d= .int .i64 x:=fun d=>by rw[<-f];rfl
 have hxi:∀i (h:i<l.length) d,X.getD (i+1) d= .int .i64 l[i]:=fun i h d=>by
  rw[<-f,Qk];simp[h,eInt]
 refine nq a ?_;refine nFq j ?_;refine nq2 a c ?_;refine⟨om,?_⟩;refine gh ?_;refine Zx (fun i=>⟨[(4,.int .i64 ((i+1:Nat):Int)),(3,.int .i64 ((l.take i).foldl min x)),(0,.sl 1 X .any)],[],H⟩) l.length rfl ?_ ?_
 ·exact KK
 intro i k;refine ZV rfl ?_;rcases Qd i l.length with h|h
 ·have g:=Zu7 ((l.take i).foldl min x) l[i];have e:i+1<l.length+1:=om;refine nq2 a e ?_;refine nT ?_;refine nq4 a e (hxi i h) g ?_;refine gd ?_;refine⟨h,?_⟩;rw[Zbr _ _ _ _ h];exact KK
 ·have b:i=l.length:=om;subst b;refine nr ?_;simp only[go_sem,simprocAttr,a,Un];refine gg ?_;refine gE ?_;exact Zb (.refl _) (.int _ _) rfl
def Zu8(x y:Int):(if y>x then y else x)=max x y:=by
 show(if y>x then y else x)=max x y;simp only[Int.max_def,Int.min_def];split<;>split<;>omega
def e231(x:Int)(l:List Int)(hl:l.length<=1000000):Pure prog 433 [.sl 1 ((x::l).map eInt) .any] (.int .i64 (maxS (x::l))):=by
 intro n H;have hbi:∀q,Inside n q (.sl 1 ((x::l).map eInt) .any):=fun q=>(ZbX (x::l)).inside
 have a:((x::l).map eInt).length=l.length+1:=sm;have j:¬(((l.length+1:Nat):Int)<1):=om;generalize f:(x::l).map eInt=X at a hbi⊢;refine aF func433 fun B=>?_
 refine nR ?_;have c:∀d,X.getD 0 d= .int .i64 x:=fun d=>by rw[<-f];rfl
 have hxi:∀i (h:i<l.length) d,X.getD (i+1) d= .int .i64 l[i]:=fun i h d=>by
  rw[<-f,Qk];simp[h,eInt]
 refine nq a ?_;refine nFq j ?_;refine nq2 a c ?_;refine⟨om,?_⟩;refine gh ?_;refine Zx (fun i=>⟨[(4,.int .i64 ((i+1:Nat):Int)),(3,.int .i64 ((l.take i).foldl max x)),(0,.sl 1 X .any)],[],H⟩) l.length rfl ?_ ?_
 ·exact KK
 intro i k;refine ZV rfl ?_;rcases Qd i l.length with h|h
 ·have g:=Zu8 ((l.take i).foldl max x) l[i];have e:i+1<l.length+1:=om;refine nq2 a e ?_;refine nT ?_;refine nq4 a e (hxi i h) g ?_;refine gd ?_;refine⟨h,?_⟩;rw[Zbr _ _ _ _ h];exact KK
 ·have b:i=l.length:=om;subst b;refine nr ?_;simp only[go_sem,simprocAttr,a,Un];refine gg ?_;refine gE ?_;exact Zb (.refl _) (.int _ _) rfl
def e261(x:Int):Pure prog 457 [.int .i64 x] (.bool (Y6 x)):=by
 intro n H;refine aF func457 fun B=>?_
 refine nR ?_;unfold Y6;cases a:decide ((-2147483647:Int)<=x)with
 |true=>
  refine nq a ?_;exact pB
 |false=>
  refine nq a ?_;exact pB
def e260(x:Int):Pure prog 456 [.int .i64 x] (.bool (!Y6 x)):=by
 intro n H;refine aF func456 fun B=>?_
 refine gc ?_;refine cP (e261 x) ?_;exact pB
def e262(a:Str):Pure prog 458 [.str a] (.int .i64 (if a=[45]then 1 else 0)):=by
 intro n H;refine aF func458 fun B=>?_
 refine nR ?_;by_cases h:a=[45]
 ·have b:(a==[45])=true:=by simp[h]
  rw[if_pos h];refine nq b ?_;refine gj ?_;exact Zb (.refl _) (.int _ _) rfl
 ·have b:(a==[45])=false:=by simp[h]
  rw[if_neg h];refine nq b ?_;refine gF ?_;exact Zb (.refl _) (.int _ _) rfl
def Zws(a b:Int):Pure prog 469 [.iptr [.int .i64 a],.iptr [.int .i64 b]] (.int .i64 (IntKind.i64.wrap (a+b))):=by
 intro n H;refine aF func469 fun B=>?_
 refine gK ?_;exact Zb (.refl _) (.int _ _) rfl
def Zwt(a b:Int):Pure prog 470 [.iptr [.int .i64 a],.iptr [.int .i64 b]] (.int .i64 (IntKind.i64.wrap (a-b))):=by
 intro n H;refine aF func470 fun B=>?_
 refine gK ?_;exact Zb (.refl _) (.int _ _) rfl
def e283(a b:Int):Pure prog 471 [.iptr [.int .i64 a],.iptr [.int .i64 b]] (.int .i64 (IntKind.i64.wrap (a*b))):=by
 intro n H;refine aF func471 fun B=>?_
 refine gK ?_;exact Zb (.refl _) (.int _ _) rfl
def e284(a b:Int)(c:b≠0):Pure prog 472 [.iptr [.int .i64 a],.iptr [.int .i64 b]] (.int .i64 (IntKind.i64.wrap (a.tdiv b))):=by
 intro n H;refine aF func472 fun B=>?_
 refine gc ?_;refine⟨c,?_⟩;refine nV ?_;exact Zb (.refl _) (.int _ _) rfl
def e285(a b:Int)(c:b≠0):Pure prog 473 [.iptr [.int .i64 a],.iptr [.int .i64 b]] (.int .i64 (a.tmod b)):=by
 intro n H;refine aF func473 fun B=>?_
 refine gc ?_;refine⟨c,?_⟩;refine nV ?_;exact Zb (.refl _) (.int _ _) rfl
def fV(A B:AV)(f:Nat):AV:=.fn (.func f) [A,B]
abbrev MC:=List (Str×Nat)
def Zdz(A B:AV)(m:MC):List (AV×AV):=ZaV AV.str (fV A B) m
def ZbM(A B:AV)(m:MC):∀p∈Zdz A B m,Yv tt 9 p.1=true:=fun p a=>by
 obtain⟨q,_,rfl⟩:=Qg.1 a;exact ZeC _
def M5:MC:=[([43],469),([45],470),([42],471),([47],472),([92],473)]
def Zsb(r:Option Int):AV:=.tup [.int .i64 (r.getD 0),.bool r.isSome]
def Zwr(d:Str)(a b:Int)(ha:Y6 a=true)(S:Y6 b=true):Pure prog 459 [.str d,.int .i64 a,.int .i64 b] (Zsb (VU d a b)):=by
 intro n H;have E:∀{x:Int},Y6 x=true-> -2147483647<=x/\x<=2147483647:=fun{x} h=>by
  unfold Y6 at h;rw[Qb,decide_eq_true_eq,decide_eq_true_eq]at h;exact h
 obtain⟨a1,a2⟩:=E ha;obtain⟨b1,b2⟩:=E S;refine aF func459 fun B=>?_
 refine gh ?_;refine ZT 4 [.int .i64 a] [(0,.str d),(4,.iptr [.int .i64 a]),(5,.ptr n 5 0)] rfl ⟨.int _ _,trivial⟩ ?_ ⟨Ze.Zv ⟨.int _ _,trivial⟩,trivial⟩ ?_
 ·exact⟨.inl ⟨.refl _,.str _⟩,.inr ⟨0,rfl,rfl⟩,.inl ⟨.refl _,.ptr _ _ _ (.inr ⟨rfl,dc⟩)⟩,trivial⟩
 refine aS ?_;refine ZT 5 [.int .i64 b] [(0,.str d),(4,.iptr [.int .i64 a]),(5,.iptr [.int .i64 b])] rfl ⟨.int _ _,trivial⟩ ?_ trivial ?_
 ·exact⟨.inl ⟨.refl _,.str _⟩,.inl ⟨.refl _,(Zj (cs:=[.int .i64 a]) ⟨.int _ _,trivial⟩).inside⟩,.inr ⟨0,rfl,rfl⟩,trivial⟩
 refine aS ?_;obtain⟨X,hX⟩:∃X,X=AV.iptr [.int .i64 a]:=⟨_,rfl⟩
 obtain⟨Y,hY⟩:∃Y,Y=AV.iptr [.int .i64 b]:=⟨_,rfl⟩
 rw[<-hX,<-hY];have z:∀(k:Str) (f:Nat) (m:MC),Zat (.str k) (.fn (.func f) [X,Y]) (Zdz X Y m)=Zdz X Y (Zg4 k f m):=fun k f m=>Zmz kinj_str (fV X Y) k f m
 have V:Zat (.str [43]) (.fn (.func 469) [X,Y]) []=Zdz X Y [([43],469)]:=z [43] 469 [];have R:Zat (.str [45]) (.fn (.func 470) [X,Y]) (Zdz X Y [([43],469)])=Zdz X Y [([43],469),([45],470)]:=z [45] 470 _;have M:Zat (.str [42]) (.fn (.func 471) [X,Y]) (Zdz X Y [([43],469),([45],470)])=Zdz X Y [([43],469),([45],470),([42],471)]:=z [42] 471 _;have O:Zat (.str [47]) (.fn (.func 472) [X,Y]) (Zdz X Y [([43],469),([45],470),([42],471)])=Zdz X Y [([43],469),([45],470),([42],471),([47],472)]:=z [47] 472 _;have N:Zat (.str [92]) (.fn (.func 473) [X,Y]) (Zdz X Y [([43],469),([45],470),([42],471),([47],472)])=Zdz X Y M5:=z [92] 473 _;refine nr ?_;simp only[go_sem,simprocAttr,V,R,M,O,N];refine⟨ZbM _ _ _,ZbM _ _ _,ZbM _ _ _,ZbM _ _ _,ZbM _ _ _,?_⟩;have e:=ZrZ kinj_str (fV X Y) ⟨.func,1,8,[.nilf]⟩ d M5;change lookA _ (.str d) (Zdz X Y M5) false=_ at e;generalize hE:Zdz X Y M5=E5 at e⊢;have t:∀q,Inside n q Y:=fun q=>by rw[hY];exact(Zj (cs:=[.int .i64 b]) ⟨.int _ _,trivial⟩).inside
 have I:∀q,Inside n q X:=fun q=>by rw[hX];exact(Zj (cs:=[.int .i64 a]) ⟨.int _ _,trivial⟩).inside
 have hfi:∀q f,Inside n q (.fn (.func f) [X,Y]):=fun q f=>Inside.fn _ _ fun i Z=>ZW.mem (l:=[X,Y]) (p:=fun c=>Inside n q c) ⟨I q,t q,trivial⟩ _ (Qa Z)
 have j:∀f r,Pure prog f [X,Y] (.int .i64 r)->(∃g c,Fun prog f g c)->(b=0->d≠[47]/\d≠[92])->VU d a b=(if Y6 r then some r else none)->
   AKc ⟨prog,tt,⟨none,B⟩,n,Tryz.f459.ntmps⟩ [.code (Zz Tryz.f459).snd.snd] (PostF prog tt n Tryz.f459.results.toList fun P H'=>P=Zsb (VU d a b)/\H'=H)
    ⟨[(8,.fn (.func f) [X,Y]),(0,.str d),(5,Y)],[],H⟩:=by
  rintro f r U ⟨g,c,W⟩ K C;refine kK ?_;refine Zah ⟨[(32,.bool false),(8,.fn (.func f) [X,Y])],[],H⟩ ?_ ?_
  ·cases o:(b==0)with
   |true=>
    obtain⟨F,J⟩:=K (by simpa using o);have L:(d==[47])=false:=by simp[F]
    have G:(d==[92])=false:=by simp[J]
    refine nq4 o hY L G ?_;refine nN ?_;refine⟨rfl,?_⟩;rw[<-hY];exact KK
   |false=>
    refine nq2 o hY ?_;refine nN ?_;refine⟨rfl,?_⟩;rw[<-hY];exact KK
  refine gv ?_;refine Yp (avs:=[]) (caps:=[X,Y]) rfl W (U _ _) rfl ?_;refine gP ?_;refine cP (e261 r) ?_;rw[C];cases Q:Y6 r with
  |false=>
   refine aS ?_;refine gj ?_;exact ZF (.refl _) (.refl _) (.int _ _) (.bool _) rfl
  |true=>
   refine aS ?_;refine gF ?_;exact ZF (.refl _) (.refl _) (.int _ _) (.bool _) rfl
 have hm:(a*b).natAbs<=2147483647*2147483647:=by rw[Int.natAbs_mul];exact Qba om om
 by_cases y:d=[43]
 ·have hl:lookA ⟨.func,1,8,[.nilf]⟩ (.str d) E5 false= .fn (.func 469) [X,Y]:=by rw[e,y];rfl
  rw[hl];have A:IntKind.i64.wrap (a+b)=a+b:=iw;exact ZJ (s':=⟨[(8,.fn (.func 469) [X,Y]),(0,.str d),(5,Y)],[],H⟩) (by
   apply kZ;repeat' first|apply q0|exact xx|apply aI
   all_goals first|exact hfi _ _|exact t _) (j 469 (a+b) (by have:=Zws a b;rw[A,<-hX,<-hY]at this;exact this) ⟨_,_,Zf func469 rfl rfl⟩ (fun _=>by rw[y];decide) (by rw[y];simp[VU]))
 by_cases v:d=[45]
 ·have hl:lookA ⟨.func,1,8,[.nilf]⟩ (.str d) E5 false= .fn (.func 470) [X,Y]:=by rw[e,v];rfl
  rw[hl];have A:IntKind.i64.wrap (a - b)=a - b:=iw;exact ZJ (s':=⟨[(8,.fn (.func 470) [X,Y]),(0,.str d),(5,Y)],[],H⟩) (by
   apply kZ;repeat' first|apply q0|exact xx|apply aI
   all_goals first|exact hfi _ _|exact t _) (j 470 (a - b) (by have:=Zwt a b;rw[A,<-hX,<-hY]at this;exact this) ⟨_,_,Zf func470 rfl rfl⟩ (fun _=>by rw[v];decide) (by rw[v];simp[VU]))
 by_cases w:d=[42]
 ·have hl:lookA ⟨.func,1,8,[.nilf]⟩ (.str d) E5 false= .fn (.func 471) [X,Y]:=by rw[e,w];rfl
  rw[hl];have A:IntKind.i64.wrap (a*b)=a*b:=iw;exact ZJ (s':=⟨[(8,.fn (.func 471) [X,Y]),(0,.str d),(5,Y)],[],H⟩) (by
   apply kZ;repeat' first|apply q0|exact xx|apply aI
   all_goals first|exact hfi _ _|exact t _) (j 471 (a*b) (by have:=e283 a b;rw[A,<-hX,<-hY]at this;exact this) ⟨_,_,Zf func471 rfl rfl⟩ (fun _=>by rw[w];decide) (by rw[w];simp[VU]))
 by_cases u:d=[47]
 ·have hl:lookA ⟨.func,1,8,[.nilf]⟩ (.str d) E5 false= .fn (.func 472) [X,Y]:=by rw[e,u];rfl
  rw[hl];by_cases o:b=0
  ·have D:(b==0)=true:=by simp[o]
   have F:(d==[47])=true:=by simp[u]
   have C:VU d a b=none:=by rw[u];simp[VU,o]
   rw[C];refine nq3 D hY F ?_;refine gj ?_;exact ZF (.refl _) (.refl _) (.int _ _) (.bool _) rfl
  ·have A:IntKind.i64.wrap (a.tdiv b)=a.tdiv b:=IntWalk.i64_in _ (by
    have h1:(a.tdiv b).natAbs<=a.natAbs:=by rw[Int.natAbs_tdiv];exact Nat.div_le_self _ _
    omega)
   exact ZJ (s':=⟨[(8,.fn (.func 472) [X,Y]),(0,.str d),(5,Y)],[],H⟩) (by
   apply kZ;repeat' first|apply q0|exact xx|apply aI
   all_goals first|exact hfi _ _|exact t _) (j 472 (a.tdiv b) (by have:=e284 a b o;rw[A]at this;rw[<-hX,<-hY]at this;exact this) ⟨_,_,Zf func472 rfl rfl⟩ (fun h=>absurd h o) (by rw[u];simp[VU,o]))
 by_cases s:d=[92]
 ·have hl:lookA ⟨.func,1,8,[.nilf]⟩ (.str d) E5 false= .fn (.func 473) [X,Y]:=by rw[e,s];rfl
  rw[hl];by_cases o:b=0
  ·have D:(b==0)=true:=by simp[o]
   have F:(d==[92])=true:=by simp[s]
   have J:(d==[47])=false:=by simp[s]
   have C:VU d a b=none:=by rw[s];simp[VU,o]
   rw[C];refine nq4 D hY F J ?_;refine gj ?_;exact ZF (.refl _) (.refl _) (.int _ _) (.bool _) rfl
  ·skip
   exact ZJ (s':=⟨[(8,.fn (.func 473) [X,Y]),(0,.str d),(5,Y)],[],H⟩) (by
   apply kZ;repeat' first|apply q0|exact xx|apply aI
   all_goals first|exact hfi _ _|exact t _) (j 473 (a.tmod b) (by have:=e285 a b o;rw[<-hX,<-hY]at this;exact this) ⟨_,_,Zf func473 rfl rfl⟩ (fun h=>absurd h o) (by rw[s];simp[VU,o]))
 have hl:lookA ⟨.func,1,8,[.nilf]⟩ (.str d) E5 false= .nilf:=by
  rw[e];simp only[M5,getM,Ne.symm y,Ne.symm v,Ne.symm w,Ne.symm u,Ne.symm s,if_false];rfl
 have C:VU d a b=none:=by simp[VU,y,v,w,u,s]
 rw[hl,C];refine nR ?_;refine gj ?_;exact ZF (.refl _) (.refl _) (.int _ _) (.bool _) rfl
def Zwo(c:Str)(a:List Int)(o:a.length<=1000000):Pure prog 437 [.str c,.sl 1 (a.map eInt) .any] (Zsb (X3 c a)):=by
 intro n H;have d:∀q,Inside n q (.sl 1 (a.map eInt) .any):=fun q=>(ZbX a).inside
 refine aF func437 fun B=>?_
 refine gc ?_;refine cQ (ZwG a o 456 [] (fun x=>!Y6 x) (n+1) _ ⟨⟨_,_,Zf func456 rfl rfl⟩,fun x _ m G _ _=>e260 x m G,fun _ _=>trivial⟩) ?_;refine aS ?_;have h:(!a.any fun x=>!Y6 x)=a.all Y6:=by rw[U7];simp
 cases b:a.all Y6 with
 |false=>
  have e:X3 c a=none:=by unfold X3;rw[b];rfl
  rw[e];refine aq2 h b ?_;refine gF ?_;exact ZF (.refl _) (.refl _) (.int _ _) (.bool _) rfl
 |true=>
  refine aq2 h b ?_;refine gi ?_
  match a,b,d with
  |[x],b,d=>
   have j:Y6 x=true:=by simpa using b
   have l:-2147483647<=x/\x<=2147483647:=by
    unfold Y6 at j;rw[Qb,decide_eq_true_eq,decide_eq_true_eq]at j;exact j
   have k:IntKind.i64.wrap (0 - x)= -x:=by rw[show(0:Int) - x= -x by omega];exact iw
   have e:X3 c [x]=if c=[45]then some (-x)else none:=by unfold X3;rw[b];rfl
   refine nR ?_;refine nT ?_;refine nD drawO ?_;simp only[go_sem,simprocAttr,eInt];refine cP (e262 c) ?_;rw[e];by_cases g:c=[45]
   ·have f:(c==[45])=true:=by simp[g]
    rw[if_pos g,if_pos g];refine aq2 k f ?_;refine nV ?_;refine ZF ?_ (.refl _) (.int _ _) (.bool _) rfl;refine aS ?_;rw[Int.mul_one,iw];exact .refl _
   ·have f:(c==[45])=false:=by simp[g]
    rw[if_neg g,if_neg g];refine aq2 k f ?_;refine nV ?_;refine ZF ?_ (.refl _) (.int _ _) (.bool _) rfl;refine aS ?_;rw[Int.mul_zero];exact .refl _
  |[x,y],b,d=>
   have i:Y6 x=true/\Y6 y=true:=by simpa using b
   have e:X3 c [x,y]=VU c x y:=by unfold X3;rw[b];rfl
   rw[e];refine nR ?_;refine gv ?_;refine nT ?_;refine nD drawO ?_;simp only[go_sem,simprocAttr,eInt];refine cP (Zwr c x y i.1 i.2) ?_;simp only[go_sem,simprocAttr,Zsb];refine nV ?_;exact ZF (.refl _) (.refl _) (.int _ _) (.bool _) rfl
  |[],b,d=>
   have e:X3 c []=none:=by unfold X3;rw[b];rfl
   rw[e];refine nR ?_;refine gv ?_;refine gF ?_;exact ZF (.refl _) (.refl _) (.int _ _) (.bool _) rfl
  |x::y::z::r,b,d=>
   have e:X3 c (x::y::z::r)=none:=by unfold X3;rw[b];rfl
   have s:(((r.length+1+1+1:Nat):Int)==1)=false:=by simp;omega
   have p:(((r.length+1+1+1:Nat):Int)==2)=false:=by simp;omega
   rw[e];refine nq s ?_;refine nF ?_;refine nq p ?_;refine gF ?_;exact ZF (.refl _) (.refl _) (.int _ _) (.bool _) rfl
section
variable {X:Za->Prop} {Q:AV->Za->Prop} {args:LA} {fn:Func} {f:FuncId} {t n:Nat} {T:TT} {P:Program}
def Zlz{H:Za}(c:TOK P T)(b:Fun P f fn (Zz fn))(a:args.length<=fn.ntmps)
  (h:∀B,AKc ⟨P,T,⟨none,B⟩,n,fn.ntmps⟩ [.code (Zz fn)] (Zeg P T t n fn.results.toList Q X) ⟨numbered 0 args,[],H⟩):ZY P t n f args H Q X:=ZlI c b a h
def xF{H:Za}(h0:P.funcs[f]? =some fn)
  (h : ∀ B, AKc ⟨P, T, ⟨none, B⟩, n, fn.ntmps⟩ [.code (Zz fn)] (Zeg P T t n fn.results.toList Q X) ⟨numbered 0 args, [], H⟩) (hN : args.length ≤ fn.ntmps := by simp) (hb : fn.body.isSome = true := by exact rfl) (hn : (fn.name == "runtime.NumGoroutine") = false := by exact rfl) (hT : TOK P T := by exact tok) : ZY P t n f args H Q X := Zlz hT (Zf h0 hb hn) hN h
attribute [go_sem] ZmS Zls
def Vt{a:List ResultVar}{s:Zc}(h:PostF P T n a Q .ret s):Zeg P T t n a Q X .ret s:=h
def JG{a:Cx}{o:Oper}{args:List Operand}{j:List TypeId}{s:Zc}{F k:Zc->Prop}{c:Code}{d:LA}{i:AV->Za->Prop}{h:Za->Prop}(l:Fun a.P f fn c)(q:ZY a.P t (a.n+1) f d (full a.n s.L s.H) i h)(p:Yo a.T (evT s.tmps) args j=d)
  (m:∀r e,i r e-> ∃g b,e=full a.n g b/\ZL a.n s.H b/\F ⟨Yf s.tmps o.dst r,g,b⟩) (u:∀e,h e-> ∃g b,e=full a.n g b/\ZL a.n s.H b/\k ⟨s.tmps,g,b⟩):ZfZ a t o (.func f) args j s F k:=
 ⟨i,h,.inl ⟨f,fn,c,[],rfl,l,by rw[Qu,p];exact q⟩,m,u⟩
def Zex{f:Int->Int->Int}(hf:∀x y,f x y=x\/f x y=y){P:Int->Prop}:∀(l:List Int) (x:Int),P x->(∀y∈l,P y)->P (l.foldl f x)
 |[],x,h,_=>h
 |y::l,x,h,hl=>by
  refine Zex hf l (f x y) ?_ fun z a=>hl z (by simp[a])
  rcases hf x y with e|e
  ·rw[e];exact h
  ·rw[e];exact hl y sm
def e232(n:Nat)(H:Za)(x:Int):ZY prog 402 n 434 [.int .i64 x] H (fun r a=>x<=1000/\r= .int .i64 x/\a=H) fun a=>1000<x/\a=H:=by
 refine xF func434 fun B=>?_
 refine gc ?_;by_cases h:1000<x
 ·refine nTq h ?_;refine Zl3 402 tok (pre:=[_,_]) (post:=[]) rfl rfl rfl rfl ?_;refine aq (show Wx tt 402=some (.struct []) from rfl) ?_;exact⟨rfl,h,rfl⟩
 ·refine nFq h ?_;refine ge ?_;exact Vt (Zq (v:=.int .i64 x) (.refl _) (.int _ _) ⟨om,rfl,rfl⟩)
def ZsS(a b:Int)(n:Nat)(H:Za)(i:Nat):Zc:=
 ⟨[(7,.int .i64 (a+i)),(6,.int .i64 b),(4,.sl 4 (((List.range i).map fun j:Nat=>Vp (a+(j:Int))).map Tm.enc) (.buf n 200))],[(200,.buf 25 4 i)],H⟩
def Zwl(n:Nat)(H:Za)(a b:List Int)(m:a.length<=1000000)(k:b.length<=1000000)(g:∀x∈a,-2147483648<=x/\x<=2147483648)(f:∀x∈b,-2147483648<=x/\x<=2147483648):
  ZY prog 402 n 408 [.sl 1 (a.map eInt) .any,.sl 1 (b.map eInt) .any] H (fun r A=>∃l,WG a b=some l/\r= .sl 4 (l.map Tm.enc) .any/\A=H) fun A=>WG a b=none/\A=H:=by
 refine xF func408 fun B=>?_
 refine nR ?_
 match a,b,m,k,g,f with
 |[],b,m,k,g,f=>
  have c:WG [] b=some []:=by unfold WG;rw[if_pos (.inl rfl)]
  refine nR ?_;refine gj ?_;exact Vt (Zq (v:=.sl 4 (([]:LT).map Tm.enc) .any) (.any _ _ _) (ZB []) ⟨[],c,rfl,rfl⟩)
 |x::a,[],m,k,g,f=>
  have c:WG (x::a) []=some []:=by unfold WG;rw[if_pos (.inr rfl)]
  have t:(((a.length+1:Nat):Int)==0)=false:=by simp;omega
  refine nq t ?_;refine gj ?_;exact Vt (Zq (v:=.sl 4 (([]:LT).map Tm.enc) .any) (.any _ _ _) (ZB []) ⟨[],c,rfl,rfl⟩)
 |x::a,y::b,m,k,g,f=>
  have t:(((a.length+1:Nat):Int)==0)=false:=by simp;omega
  have K:(((b.length+1:Nat):Int)==0)=false:=by simp;omega
  have d:WG (x::a) (y::b)=if 1000<maxS (y::b) - minS (x::a)+1 then none else some ((List.range (maxS (y::b) - minS (x::a)+1).toNat).map fun i:Nat=>Vp (minS (x::a)+(i:Int))):=by
   unfold WG;rw[if_neg sm]
  have J:-2147483648<=minS (x::a)/\minS (x::a)<=2147483648:=Zex (P:=fun z=>-2147483648<=z/\z<=2147483648) (fun x y=>by omega) a x (g x sm) fun z w=>g z (by simp[w])
  have M:-2147483648<=maxS (y::b)/\maxS (y::b)<=2147483648:=Zex (P:=fun z=>-2147483648<=z/\z<=2147483648) (fun x y=>by omega) b y (f y sm) fun z w=>f z (by simp[w])
  have D:=e230 x a (by simp at m;omega);have E:=e231 y b (by simp at k;omega);generalize minS (x::a)=lo at d J D;generalize maxS (y::b)=c at d M E;refine nq2 t K ?_;refine gv ?_;refine cP (D) ?_;refine cP (E) ?_;refine kK ?_;refine Yz 402 tok (pre:=[_,_,_,_]) (post:=[]) rfl rfl rfl rfl ?_;refine aS ?_;rw[IntWalk.i64_in (c - lo) om,iw];refine JG (Zf func434 rfl rfl) (e232 (n+1) _ (c - lo+1)) sS ?_ ?_;rotate_left
  ·rintro L ⟨p,rfl⟩;exact⟨_,_,rfl,.refl _ _,rfl,by rw[d,if_pos p],rfl⟩
  rintro r L ⟨Q,rfl,rfl⟩;refine⟨_,_,rfl,.refl _ _,?_⟩;rw[if_neg om]at d;refine aS ?_;refine gh ?_;refine XL 4 200 25 4 rfl rfl ?_;obtain⟨N,hN⟩:∃N,N=(c - lo+1).toNat:=⟨_,rfl⟩
  rw[<-hN]at d;have o:∀i,((List.range (i+1)).map fun j:Nat=>Vp (lo+(j:Int))).map Tm.enc=((List.range i).map fun j:Nat=>Vp (lo+(j:Int))).map Tm.enc++[(Vp (lo+(i:Int))).enc]:=fun i=>by rw[List.range_succ,QM,QM];rfl
  have F:∀(q:Nat->Prop) (r:LT),q 200->Inside n q (.sl 4 (r.map Tm.enc) (.buf n 200)):=fun q r h=>Abs.YF (mB fun u=>Tm.blw n u) h
  refine Zx (ZsS lo c n H) N rfl ?_ ?_
  ·apply kZ;repeat' first|apply q0|exact xx|apply aI
   all_goals first|exact F _ [] rfl|(simp only[go_sem,simprocAttr,Int.add_zero];exact .refl _)
  intro i O;refine ZV rfl ?_;rcases Qd i N with h|h
  ·have C:lo+(i:Int)<=c:=om;refine nq C ?_;refine gi ?_;refine XY (Zf func435 rfl rfl) (e233 (lo+i)) (by simp only[go_sem,simprocAttr,GK]) ?_;simp only[go_sem,simprocAttr,GK];generalize I:((List.range i).map fun j:Nat=>Vp (lo+(j:Int))).map Tm.enc=G;refine⟨rfl,⟨Zn om,om⟩,?_⟩;refine gd ?_;refine⟨h,?_⟩;unfold ZsS;rw[o i,I];apply kZ;repeat' first|apply q0|exact xx|apply aI
   ·refine aS ?_;rw[iw];have e:lo+((i+1:Nat):Int)=lo+(i:Int)+1:=om;rw[e];exact .refl _
   all_goals(rw[<-I,<-o i];exact F _ _ rfl)
  ·have s:i=N:=om;subst s;have C:¬lo+(i:Int)<=c:=om;refine nq C ?_;refine gt ?_;refine Vt (Zq (v:=.sl 4 (((List.range i).map fun j:Nat=>Vp (lo+(j:Int))).map Tm.enc) .any) (.any _ _ _) (ZB _) ⟨_,d,rfl,rfl⟩)
end
def low(n:Nat)(A G:Za):Za:=fun a b=>if a<n then A a b else G a b
section
variable {A G:Za} {n:Nat}
def Zdc{a:Nat}(h:a<n)(b:Nat):low n A G a b=A a b:=if_pos h
def JU{a:Nat}(h:¬a<n)(b:Nat):low n A G a b=G a b:=if_neg h
def ZnE(n:Nat)(A B G:Za):low n A (low n B G)=low n A G:=by
 funext a b;unfold low;split<;>rfl
def ZnF(n l k:Nat)(A G:Za)(x:Ze)(h:¬l<n):low n A (G.upd l k x)=(low n A G).upd l k x:=by
 funext a b;unfold low Za.upd;by_cases d:a<n
 ·have:¬(a=l/\b=k):=fun c=>h (c.1▸d)
  simp[d,this]
 ·simp[d]
def ZkC(h:∀a b,a<n->G a b=A a b):low n A G=G:=by
 funext a b;unfold low;split
 ·rename_i c;exact(h a b c).symm
 ·rfl
variable {m:Nat}
def Wp(d:n<=m)(L:List (Nat×Ze))(A G:Za):full m L (low n A G)=low n A (full m L G):=by
 funext a b;unfold full low;by_cases c:a=m
 ·subst c;simp[show¬a<n by omega]
 ·simp[c]
def ZfQ(H:Za)(l k:Nat)(x y:Ze):(H.upd l k x).upd l k y=H.upd l k y:=by
 funext a b;unfold Za.upd;split<;>rfl
def ZN{c:AV}(h:Below n c):Below n (.iptr [c]):=Zj (cs:=[c]) ⟨h,trivial⟩
def ZfD{cx:Cx}{t:Nat}{o:Oper}{g:Operand}{args:List Operand}{d:List TypeId}{s:Zc}{F e:Zc->Prop}{f:FuncId}{fn:Func}{c:Code}{avs caps:LA}{Qc:AV->Za->Prop}{b:Za->Prop}(hg:evT s.tmps g= .fn (.func f) caps)(hf:Fun cx.P f fn c)(hc:ZY cx.P t (cx.n+1) f avs (full cx.n s.L s.H) Qc b)(ha:Yo cx.T (evT s.tmps) args d++caps=avs)
  (h:∀r H1,Qc r H1-> ∃a H',H1=full cx.n a H'/\ZL cx.n s.H H'/\F ⟨Yf s.tmps o.dst r,a,H'⟩) (hx:∀H1,b H1-> ∃a H',H1=full cx.n a H'/\ZL cx.n s.H H'/\e ⟨s.tmps,a,H'⟩):ZfZ cx t o g args d s F e:=
 ⟨Qc,b,.inl ⟨f,fn,c,caps,hg,hf,by rw[ha];exact hc⟩,h,hx⟩
def Zeh(k:Nat)(y:AV):Prop:=y.cells.length=k/\ ∀m,∀c∈y.cells,Below m c
def Zoa(k:Nat)(l:LA)(n:Nat):Prop:=l.length=n/\ ∀y∈l,Zeh k y
variable {l:LA} {k i:Nat}
def Zaj{e:Nat}(h:∀y∈l,Zeh k y):Ze.Below m (.Zg e k (flat l) i):=⟨fun c a=>by
 obtain⟨y,b,a⟩:=QI.1 a;exact(h y b).2 m c a,by simp[Ze.at_]⟩
variable {α:Type}
def ZcA{enc:α->AV}(hk:∀x,Zeh k (enc x)){p:List α}(h:∀y∈l,Zeh k y):∀y∈p.map enc++l,Zeh k y:=fun y hy=>by
 rcases Qr.1 hy with hy|hy
 ·obtain⟨x,_,rfl⟩:=Qg.1 hy;exact hk x
 ·exact h y hy
structure Zoc {St α:Type} (n l N e k:Nat) (enc:α->AV) (A:St->Za) (step:St->List α->Option St) (ok:St->List α->Prop):Prop where
 call:∀m G σ (row:List α),ok σ row->n<m->row.length=N->(∀a b,a<n->G a b=A σ a b)->G n 7=some (.Zg e k (flat (row.map enc)) N)->
  Zdr prog 402 m l [.msl k n 7 N] G (fun r G'=>∃σ',step σ row=some σ'/\r= .bool true/\G'=low n (A σ') G) (fun G'=>step σ row=none/\ ∃σ',G'=low n (A σ') G)
 blw:∀σ σ' a b x,a<n->A σ' a b=some x->A σ a b=some x\/x.Below n
 el:∀x:α,Zeh k (enc x)
def eIs(l:List Int):AV:=.sl 1 (l.map eInt) .any
def Zae(n:Nat)(l:List Int):Below n (eIs l):=ZbX l
theorem Zoq(l:List Int):(eIs l).cells=[eIs l]:=rfl
theorem ZrG(l:List Int):(eIs l).one=true:=rfl
attribute [go_sem] Zoq ZrG
variable {St:Type}
def VK{A:St->Za}(j:∀d c a b x,a<n->A c a b=some x->A d a b=some x\/x.Below n)(f:n<=m){d:St}(k:∀a b,a<n->G a b=A d a b)(c:St):ZL m G (low n (A c) G):=fun a b x l e=>by
 by_cases h:a<n
 ·rw[Zdc h]at e;rcases j d c a b x h e with h1|h1
  ·exact .inl ((k a b h).trans h1)
  ·exact .inr ⟨fun v i=>(h1.1 v i).mono f,fun q g=>Um (h1.2 q g) f⟩
 ·rw[JU h]at e;exact .inl e
def fold_at(f:St->α->Option St){q:List α}{b a:St}(h:i<q.length)(c:(q.take i).foldlM f b=some a):q.foldlM f b=(f a q[i]).bind fun u=>(q.drop (i+1)).foldlM f u:=by
 conv=>lhs;rw[<-Q8 i q,QaC,c,QB h]
 rfl
def Zew(f:St->α->Option St){q:List α}{b a:St}(h:i<q.length)(c:(q.take i).foldlM f b=some a):(q.take (i+1)).foldlM f b=f a q[i]:=by
 rw[Qn h,QaC,c];show(List.foldlM f a [q[i]])=_;rw[MP];cases f a q[i]<;>rfl
def ZnN(h:∀y∈l,Zeh k y):(flat l).length=l.length*k:=flat_length (k:=k) fun y a=>(h y a).1
def ZnO{a:α->AV}(d:∀x,Zeh k (a x))(p:List α)(y:AV)(e:Zeh k y)(x:α)(b:LA):
  (flat (p.map a++y::b)).take (p.length*k)++((a x).cells++(flat (p.map a++y::b)).drop (p.length*k+k))=flat ((p++[x]).map a++b):=by
 have c:(flat (p.map a)).length=p.length*k:=by rw[flat_length (k:=k) (mB fun z=>(d z).1),Qv]
 simp only[QM,Qs,YJ,Yc,UJ,flat_nil,Qu];rw[Gq c,<-List.drop_drop,Qaz c,Qaz e.1,Q5]
def WM{St α:Type}(a:St->List α->Option St)(p:List α)(c:List (List α))(b:St):Option St:=(Z9 c).foldlM (fun b r=>a b (p++r)) b
def Zcp(a:St->List α->Option St)(p:List α)(b:St):WM a p [] b=a b p:=by
 simp[WM,Z9]
theorem JK(a:St->List α->Option St)(p q:List α)(c:List (List α))(b:St):WM a p (q::c) b=q.foldlM (fun b x=>WM a (p++[x]) c b) b:=by
 unfold WM;rw[Z9];induction q generalizing b with
 |nil=>rfl
 |cons x q ih=>
  rw[Uk,QaC,MP,List.foldlM_map];simp only[Q5,List.singleton_append]at ih⊢;cases(Z9 c).foldlM (fun b r=>a b (p++x::r)) b with
  |none=>rfl
  |some τ=>exact ih τ
def ZmF{q:List α}(h:i<q.length){a:List (List α)}{c:List (List α)}{r:List α}{b:List (List α)}(e:Z9 a=c++r::b):Z9 (q::a)=(Z9 (q.take i::a)++c.map (q[i]:: ·))++(q[i]::r)::(b.map (q[i]:: ·)++Z9 (q.drop (i+1)::a)):=by
 have:Z9 (q::a)=Z9 (q.take i::a)++(Z9 a).map (q[i]:: ·)++Z9 (q.drop (i+1)::a):=by
  simp only[Z9]
  conv=>lhs;rw[<-Q8 i q,QB h]
  rw[Uz,Uk];simp
 rw[this,e];simp
def Zqs{a:St->List α->Option St}{f:St->List α->Prop}{p q:List α}{d:List (List α)}{b c:St}(h:i<q.length)(e:∀pr r po σ',Z9 (q::d)=pr++r::po->pr.foldlM (fun b r=>a b (p++r)) b=some σ'->f σ' (p++r))
  (g:(q.take i).foldlM (fun b x=>WM a (p++[x]) d b) b=some c):∀pr r po σ',Z9 d=pr++r::po->pr.foldlM (fun b r=>a b (p++[q[i]]++r)) c=some σ'->f σ' (p++[q[i]]++r):=fun pr r po σ' e1 e2=>by
 have:=e _ (q[i]::r) _ σ' (ZmF h e1) (by
  have j:(Z9 (q.take i::d)).foldlM (fun b r=>a b (p++r)) b=some c:=(JK a p (q.take i) d b).trans g;rw[QaC,j];show(pr.map (q[i]:: ·)).foldlM _ c=_;rw[List.foldlM_map];simpa using e2)
 simpa using this
def Zpi(_:Int):List (Nat×Ze):=[]
def Zpj(x:Tm):List (Nat×Ze):=[(8,.box [.int .u8 x.kind,.int .i64 x.num,.str x.name,.sl 4 (x.args.map Tm.enc) .any])]
theorem ZpA(x:Int)(D:LA):(eInt x).cells++D= .int .i64 x::D:=rfl
def ZpB(x:Tm)(D:LA):x.enc.cells++D= .int .u8 x.kind:: .int .i64 x.num:: .str x.name:: .sl 4 (x.args.map Tm.enc) .any::D:=by rw[Tm.Yu];rfl
def Va(a:List (List Int))(n l N:Nat):LA:=[.iptr [.sl 1 (a.map eIs) .any],.iptr [.fn (.yield l) []],.iptr [.msl 1 n 7 N],.ptr n 4 0]
def ZqS(p:List Int)(q:List Int)(a:List (List Int))(n l N i:Nat)(H:Za):Zc:=⟨[(21,.int .i64 i),(20,.int .i64 q.length),(19,.sl 1 (q.map eInt) .any),(0,.int .i64 p.length),(1,.iptr [.sl 1 (a.map eIs) .any]),(2,.iptr [.fn (.yield l) []]),(3,.iptr [.msl 1 n 7 N]),(4,.ptr n 4 0)],[],H⟩
def e258{St:Type}{n l N:Nat}{A:St->Za}{o:St->List Int->Option St}{ok:St->List Int->Prop}(C:Zoc n l N 3 1 eInt A o ok)(c:List (List Int))(W:c.length=N)(P:N<=1000000)(hl:∀q∈c,q.length<=1000000):
  ∀(D pre:List (List Int)) (p:List Int) (k:LA) (z:St) (m:Nat) (G:Za),c=pre++D->pre.length=p.length->Zoa 1 k D.length->n<m->(∀a b,a<n->G a b=A z a b)->G n 7=some (.Zg 3 1 (flat (p.map eInt++k)) N)->G n 4=some (.box [.fn (.func 454) (Va c n l N)])->(∀pr r po f,Z9 D=pr++r::po->pr.foldlM (fun z r=>o z (p++r)) z=some f->ok f (p++r))->
   ZY prog 402 m 454 (.int .i64 p.length::Va c n l N) G
    (fun r G'=>∃f d,WM o p D z=some f/\Zoa 1 d D.length/\r= .bool true/\G'=(low n (A f) G).upd n 7 (.Zg 3 1 (flat (p.map eInt++d)) N))
    (fun G'=>WM o p D z=none/\ ∃f b,G'=(low n (A f) G).upd n 7 b/\b.Below (n+1))
 |[],pre,p,k,z,m,G,e,hp,hr,hm,hA,h7,h4,hok=>by
  have E:(p.length:Nat)=N:=by rw[<-W,e,Qu,hp]
  have Z:k=[]:=MZ.1 hr.1;subst Z;rw[Qu]at h7;refine Zlz tok (Zf func454 rfl rfl) (by simp[Va]) fun B=>?_
  unfold Va;refine gc ?_;refine ZoM rfl rfl (by simp only[go_sem,simprocAttr,E,W,beq_self_eq_true]) ?_;refine kK ?_;refine Yz 402 tok (pre:=[_,_]) (post:=[_]) rfl rfl rfl rfl ?_;refine aS ?_;refine⟨_,_,.inr ⟨l,rfl,C.call (m+1) _ z (p++[]) (hok [] [] [] z rfl rfl) om (by rw[Qu];exact E) (fun a b F=>by rw[Zi (by exact Qbv F hm)];exact hA a b F) (by rw[Zi (by exact hm),Qu];exact h7)⟩,?_,?_⟩
  ·rintro r H1 ⟨f,J,rfl,rfl⟩;refine⟨[],low n (A f) G,Wp (MI hm) _ _ _|>.symm,VK C.blw (MI hm) hA _,?_⟩;refine gw ?_;refine Vt (Zq (v:=.bool true) (.refl _) (.bool _) ⟨f,[],by rw[Zcp,<-J,Qu],⟨rfl,fun _ h=>by cases h⟩,rfl,?_⟩);rw[Z7];rw[JU (Un n),h7,Qu]
  ·rintro H1 ⟨J,f,rfl⟩;refine⟨[],low n (A f) G,Wp (MI hm) _ _ _|>.symm,VK C.blw (MI hm) hA _,rfl,by rw[Zcp,<-J,Qu],f,_,(Z7 (JU (Un n) _|>.trans h7)).symm,Zaj fun y h=>by obtain⟨x,_,rfl⟩:=Qg.1 h;exact C.el x⟩
 |q::D,pre,p,k,z,m,G,e,hp,hr,hm,hA,h7,h4,hok=>by
  have E:p.length<N:=by rw[<-W,e,Qh,hp];simp
  have hq:q.length<=1000000:=hl q (by rw[e];simp);have ay:((p.length:Int)==(c.length:Int))=false:=by rw[W];simp;omega
  have aq:c[p.length]? =some q:=by rw[e,<-hp];simp
  have au:(c.map eIs).getD p.length .dead= .sl 1 (q.map eInt) .any:=by rw[Qk,Ub,aq];rfl
  have a4:p.length<c.length:=om;refine Zlz tok (Zf func454 rfl rfl) (by simp[Va]) fun B=>?_
  unfold Va;refine nR ?_;refine nq ay ?_;refine nF ?_;refine nq2 au a4 ?_;refine kK ?_;refine Zap (fun μ s=>∃i g d,i<=q.length/\μ=q.length - i/\Zoa 1 d (D.length+1)/\(q.take i).foldlM (fun z x=>WM o (p++[x]) D z) z=some g/\s=ZqS p q c n l N i ((low n (A g) G).upd n 7 (.Zg 3 1 (flat (p.map eInt++d)) N))) (m0:=q.length) (s0:=ZqS p q c n l N 0 G) rfl ?_ ⟨0,z,k,Us _,rfl,hr,rfl,by rw[ZkC hA,Z7 h7]⟩ ?_
  ·apply kZ;repeat' first|apply q0|exact xx|apply aI
   all_goals first|exact(Zae m q).inside|exact(ZN (Zl fun x hx=>by obtain⟨u,_,rfl⟩:=Qg.1 hx;exact Zae m u)).inside|exact(ZN (Below.fn _ _ fun i h=>absurd h (Qj _))).inside|exact(ZN (.msl _ _ _ _ hm)).inside|exact(Below.ptr _ _ _ hm).inside
  rintro μ s ⟨i,g,d,hi,rfl,w,Q,rfl⟩;have a0:((low n (A g) G).upd n 7 (.Zg 3 1 (flat (p.map eInt++d)) N)) n 7=some (.Zg 3 1 (flat (p.map eInt++d)) N):=Za.upd_same _ _ _ _;have az:((low n (A g) G).upd n 7 (.Zg 3 1 (flat (p.map eInt++d)) N)) n 4=some (.box [.fn (.func 454) (Va c n l N)]):=by rw[Za.upd_ne _ _ sm,JU (Un n)];exact h4
  have a2:∀a b,a<n->((low n (A g) G).upd n 7 (.Zg 3 1 (flat (p.map eInt++d)) N)) a b=A g a b:=fun a b F=>by rw[Za.upd_ne _ _ om,Zdc F]
  have a5:low n (A g) G=low n (A g) ((low n (A g) G).upd n 7 (.Zg 3 1 (flat (p.map eInt++d)) N))\/True:=.inr trivial;generalize V:(low n (A g) G).upd n 7 (.Zg 3 1 (flat (p.map eInt++d)) N)=Gi at*;refine ZV rfl ?_;rcases Qd i q.length with h|h
  ·have ax:(q.map eInt).getD i .dead=eInt q[i]:=by simp[Qk,Qe h]
   have Y:(i:Int)<(q.length:Int):=om;refine nq2 Y h ?_;refine nT ?_;refine nq2 ax h ?_;obtain⟨y,t,rfl⟩:∃y t,d=y::t:=by cases d with|nil=>cases w.1|cons y t=>exact⟨y,t,rfl⟩
   have K:¬n=m:=om;have hw:=ZnO C.el p y (w.2 y sm) q[i] t;rw[ZpA]at hw;have aw:=ZnN (ZcA (p:=p) C.el w.2);have U:p.length*1+1<=(flat (p.map eInt++y::t)).length:=by rw[aw,Qh,Qm,Qv];omega
   refine nq4 a0 K E U ?_;refine⟨om,.inr ?_,?_⟩
   ·have:Ze.Below m (.Zg 3 1 (flat ((p++[q[i]]).map eInt++t)) N):=Zaj (ZcA C.el fun y h=>w.2 y (by simp[h]));rw[<-hw]at this;exact this
   refine ZV (H:=Gi.upd n 7 (.Zg 3 1 (flat ((p++[q[i]]).map eInt++t)) N)) (by rw[<-hw]) ?_;have a3:Gi.upd n 7 (.Zg 3 1 (flat ((p++[q[i]]).map eInt++t)) N)=(low n (A g) G).upd n 7 (.Zg 3 1 (flat ((p++[q[i]]).map eInt++t)) N):=by rw[<-V,ZfQ]
   have av:(Gi.upd n 7 (.Zg 3 1 (flat ((p++[q[i]]).map eInt++t)) N)) n 7=some (.Zg 3 1 (flat ((p++[q[i]]).map eInt++t)) N):=Za.upd_same _ _ _ _;have S:(Gi.upd n 7 (.Zg 3 1 (flat ((p++[q[i]]).map eInt++t)) N)) n 4=some (.box [.fn (.func 454) (Va c n l N)]):=by rw[Za.upd_ne _ _ sm];exact az
   have R:∀a b,a<n->(Gi.upd n 7 (.Zg 3 1 (flat ((p++[q[i]]).map eInt++t)) N)) a b=A g a b:=fun a b F=>by rw[Za.upd_ne _ _ om];exact a2 a b F
   generalize Gi.upd n 7 (.Zg 3 1 (flat ((p++[q[i]]).map eInt++t)) N)=G2 at*;refine kK ?_;refine Yz 402 tok (pre:=[_,_,_]) (post:=[_]) rfl rfl rfl rfl ?_;refine aq2 S K ?_;have M:∀f X,(low n (A f) G2).upd n 7 X=(low n (A f) G).upd n 7 X:=fun f X=>by rw[a3,ZnF _ _ _ _ _ _ (Un n),ZnE,ZfQ]
   have hL:∀f X,(low n (A f) (full m (Zpi q[i]) G2)).upd n 7 X=full m (Zpi q[i]) ((low n (A f) G).upd n 7 X):=fun f X=>by rw[<-M,Yj _ _ _ _ _ _ K,Wp (MI hm)]
   have hO:∀f X,Ze.Below m X->ZL m G2 ((low n (A f) G).upd n 7 X):=fun f X hX=>by rw[<-M];exact(VK C.blw (MI hm) R _).trans (.upd hX)
   have L:=e258 C c W P hl D (pre++[q]) (p++[q[i]]) t g (m+1) (full m (Zpi q[i]) G2) (by rw[e];simp) (by simp[hp]) ⟨by simpa using w.1,fun y h=>w.2 y (by simp[h])⟩ om (fun a b F=>by rw[Zi (by exact Qbv F hm)];exact R a b F) (by rw[Zi (by exact hm)];exact av) (by rw[Zi (by exact hm)];exact S) (Zqs h hok Q);refine ZfD (caps:=Va c n l N) rfl (Zf func454 rfl rfl) L ?_ ?_ ?_
   ·have O:IntKind.i64.wrap ((p.length:Int)+1)=((p++[q[i]]).length:Int):=by rw[iw];simp
    simp only[go_sem,simprocAttr,O]
   ·rintro r H1 ⟨f,j,J,I,rfl,rfl⟩;refine⟨_,_,hL _ _,hO _ _ (Zaj (ZcA C.el I.2)),?_⟩;refine gI ?_;refine⟨q.length - (i+1),ZqS p q c n l N (i+1) ((low n (A f) G).upd n 7 (.Zg 3 1 (flat (p.map eInt++eInt q[i]::j)) N)),om,?_,i+1,f,eInt q[i]::j,h,rfl,⟨by simp[I.1],fun y h=>by rcases Ql.1 h with rfl|h;exact C.el _;exact I.2 y h⟩,by rw[Zew _ h Q];exact J,rfl⟩;rw[show p.map eInt++eInt q[i]::j=(p++[q[i]]).map eInt++j by simp];apply kZ;repeat' first|apply q0|exact xx|apply aI
    ·refine aS ?_;rw[iw];exact .refl _
    all_goals first|exact(Zae m q).inside|exact(ZN (Zl fun x hx=>by obtain⟨u,_,rfl⟩:=Qg.1 hx;exact Zae m u)).inside|exact(ZN (Below.fn _ _ fun i h=>absurd h (Qj _))).inside|exact(ZN (.msl _ _ _ _ hm)).inside|exact(Below.ptr _ _ _ hm).inside
   ·rintro H1 ⟨J,f,b,rfl,hb⟩;refine⟨_,_,hL _ _,hO _ _ ⟨fun v hv=>(hb.1 v hv).mono hm,fun q hq=>Um (hb.2 q hq) hm⟩,?_⟩;refine WU ⟨rfl,?_,f,b,rfl,hb⟩ _;rw[JK,fold_at _ h Q,J];rfl
  ·have a1:i=q.length:=om;subst a1;have Y:¬q.length<q.length:=Un _;rw[QV]at Q;refine nq Y ?_;refine gg ?_;refine nq Y ?_;refine nV ?_;subst V;refine Vt (Zq (v:=.bool true) (.refl _) (.bool _) ⟨g,d,by rw[JK,Q],w,rfl,rfl⟩)
def Vb(a:List LT)(n l N:Nat):LA:=[.iptr [.sl 1 (a.map eTs) .any],.iptr [.fn (.yield l) []],.iptr [.msl 4 n 7 N],.ptr n 4 0]
def ZqT(p:LT)(q:LT)(a:List LT)(n l N i:Nat)(H:Za):Zc:=⟨[(21,.int .i64 i),(20,.int .i64 q.length),(19,.sl 4 (q.map Tm.enc) .any),(0,.int .i64 p.length),(1,.iptr [.sl 1 (a.map eTs) .any]),(2,.iptr [.fn (.yield l) []]),(3,.iptr [.msl 4 n 7 N]),(4,.ptr n 4 0)],[],H⟩
def e268{St:Type}{n l N:Nat}{A:St->Za}{o:St->LT->Option St}{ok:St->LT->Prop}(C:Zoc n l N 25 4 Tm.enc A o ok)(c:List LT)(W:c.length=N)(P:N<=1000000)(hl:∀q∈c,q.length<=1000000):
  ∀(D pre:List LT) (p:LT) (k:LA) (z:St) (m:Nat) (G:Za),c=pre++D->pre.length=p.length->Zoa 4 k D.length->n<m->(∀a b,a<n->G a b=A z a b)->G n 7=some (.Zg 25 4 (flat (p.map Tm.enc++k)) N)->G n 4=some (.box [.fn (.func 464) (Vb c n l N)])->(∀pr r po f,Z9 D=pr++r::po->pr.foldlM (fun z r=>o z (p++r)) z=some f->ok f (p++r))->
   ZY prog 402 m 464 (.int .i64 p.length::Vb c n l N) G
    (fun r G'=>∃f d,WM o p D z=some f/\Zoa 4 d D.length/\r= .bool true/\G'=(low n (A f) G).upd n 7 (.Zg 25 4 (flat (p.map Tm.enc++d)) N))
    (fun G'=>WM o p D z=none/\ ∃f b,G'=(low n (A f) G).upd n 7 b/\b.Below (n+1))
 |[],pre,p,k,z,m,G,e,hp,hr,hm,hA,h7,h4,hok=>by
  have E:(p.length:Nat)=N:=by rw[<-W,e,Qu,hp]
  have Z:k=[]:=MZ.1 hr.1;subst Z;rw[Qu]at h7;refine Zlz tok (Zf func464 rfl rfl) (by simp[Vb]) fun B=>?_
  unfold Vb;refine gc ?_;refine ZoM rfl rfl (by simp only[go_sem,simprocAttr,E,W,beq_self_eq_true]) ?_;refine kK ?_;refine Yz 402 tok (pre:=[_,_]) (post:=[_]) rfl rfl rfl rfl ?_;refine aS ?_;refine⟨_,_,.inr ⟨l,rfl,C.call (m+1) _ z (p++[]) (hok [] [] [] z rfl rfl) om (by rw[Qu];exact E) (fun a b F=>by rw[Zi (by exact Qbv F hm)];exact hA a b F) (by rw[Zi (by exact hm),Qu];exact h7)⟩,?_,?_⟩
  ·rintro r H1 ⟨f,J,rfl,rfl⟩;refine⟨[],low n (A f) G,Wp (MI hm) _ _ _|>.symm,VK C.blw (MI hm) hA _,?_⟩;refine gw ?_;refine Vt (Zq (v:=.bool true) (.refl _) (.bool _) ⟨f,[],by rw[Zcp,<-J,Qu],⟨rfl,fun _ h=>by cases h⟩,rfl,?_⟩);rw[Z7];rw[JU (Un n),h7,Qu]
  ·rintro H1 ⟨J,f,rfl⟩;refine⟨[],low n (A f) G,Wp (MI hm) _ _ _|>.symm,VK C.blw (MI hm) hA _,rfl,by rw[Zcp,<-J,Qu],f,_,(Z7 (JU (Un n) _|>.trans h7)).symm,Zaj fun y h=>by obtain⟨x,_,rfl⟩:=Qg.1 h;exact C.el x⟩
 |q::D,pre,p,k,z,m,G,e,hp,hr,hm,hA,h7,h4,hok=>by
  have E:p.length<N:=by rw[<-W,e,Qh,hp];simp
  have hq:q.length<=1000000:=hl q (by rw[e];simp);have ay:((p.length:Int)==(c.length:Int))=false:=by rw[W];simp;omega
  have aq:c[p.length]? =some q:=by rw[e,<-hp];simp
  have au:(c.map eTs).getD p.length .dead= .sl 4 (q.map Tm.enc) .any:=by rw[Qk,Ub,aq];rfl
  have a4:p.length<c.length:=om;refine Zlz tok (Zf func464 rfl rfl) (by simp[Vb]) fun B=>?_
  unfold Vb;refine nR ?_;refine nq ay ?_;refine nF ?_;refine nq2 au a4 ?_;refine kK ?_;refine Zap (fun μ s=>∃i g d,i<=q.length/\μ=q.length - i/\Zoa 4 d (D.length+1)/\(q.take i).foldlM (fun z x=>WM o (p++[x]) D z) z=some g/\s=ZqT p q c n l N i ((low n (A g) G).upd n 7 (.Zg 25 4 (flat (p.map Tm.enc++d)) N))) (m0:=q.length) (s0:=ZqT p q c n l N 0 G) rfl ?_ ⟨0,z,k,Us _,rfl,hr,rfl,by rw[ZkC hA,Z7 h7]⟩ ?_
  ·apply kZ;repeat' first|apply q0|exact xx|apply aI
   all_goals first|exact(Zaf m q).inside|exact(ZN (Zl fun x hx=>by obtain⟨u,_,rfl⟩:=Qg.1 hx;exact Zaf m u)).inside|exact(ZN (Below.fn _ _ fun i h=>absurd h (Qj _))).inside|exact(ZN (.msl _ _ _ _ hm)).inside|exact(Below.ptr _ _ _ hm).inside
  rintro μ s ⟨i,g,d,hi,rfl,w,Q,rfl⟩;have a0:((low n (A g) G).upd n 7 (.Zg 25 4 (flat (p.map Tm.enc++d)) N)) n 7=some (.Zg 25 4 (flat (p.map Tm.enc++d)) N):=Za.upd_same _ _ _ _;have az:((low n (A g) G).upd n 7 (.Zg 25 4 (flat (p.map Tm.enc++d)) N)) n 4=some (.box [.fn (.func 464) (Vb c n l N)]):=by rw[Za.upd_ne _ _ sm,JU (Un n)];exact h4
  have a2:∀a b,a<n->((low n (A g) G).upd n 7 (.Zg 25 4 (flat (p.map Tm.enc++d)) N)) a b=A g a b:=fun a b F=>by rw[Za.upd_ne _ _ om,Zdc F]
  have a5:low n (A g) G=low n (A g) ((low n (A g) G).upd n 7 (.Zg 25 4 (flat (p.map Tm.enc++d)) N))\/True:=.inr trivial;generalize V:(low n (A g) G).upd n 7 (.Zg 25 4 (flat (p.map Tm.enc++d)) N)=Gi at*;refine ZV rfl ?_;rcases Qd i q.length with h|h
  ·have ax:(q.map Tm.enc).getD i .dead=Tm.enc q[i]:=by simp[Qk,Qe h]
   have Y:(i:Int)<(q.length:Int):=om;refine nq2 Y h ?_;refine nT ?_;refine nq2 ax h ?_;obtain⟨y,t,rfl⟩:∃y t,d=y::t:=by cases d with|nil=>cases w.1|cons y t=>exact⟨y,t,rfl⟩
   have K:¬n=m:=om;have hw:=ZnO C.el p y (w.2 y sm) q[i] t;rw[ZpB]at hw;have aw:=ZnN (ZcA (p:=p) C.el w.2);have U:p.length*4+4<=(flat (p.map Tm.enc++y::t)).length:=by rw[aw,Qh,Qm,Qv];omega
   refine nq4 a0 K E U ?_;refine⟨om,.inr ?_,?_⟩
   ·have:Ze.Below m (.Zg 25 4 (flat ((p++[q[i]]).map Tm.enc++t)) N):=Zaj (ZcA C.el fun y h=>w.2 y (by simp[h]));rw[<-hw]at this;exact this
   refine ZV (H:=Gi.upd n 7 (.Zg 25 4 (flat ((p++[q[i]]).map Tm.enc++t)) N)) (by rw[<-hw]) ?_;have a3:Gi.upd n 7 (.Zg 25 4 (flat ((p++[q[i]]).map Tm.enc++t)) N)=(low n (A g) G).upd n 7 (.Zg 25 4 (flat ((p++[q[i]]).map Tm.enc++t)) N):=by rw[<-V,ZfQ]
   have av:(Gi.upd n 7 (.Zg 25 4 (flat ((p++[q[i]]).map Tm.enc++t)) N)) n 7=some (.Zg 25 4 (flat ((p++[q[i]]).map Tm.enc++t)) N):=Za.upd_same _ _ _ _;have S:(Gi.upd n 7 (.Zg 25 4 (flat ((p++[q[i]]).map Tm.enc++t)) N)) n 4=some (.box [.fn (.func 464) (Vb c n l N)]):=by rw[Za.upd_ne _ _ sm];exact az
   have R:∀a b,a<n->(Gi.upd n 7 (.Zg 25 4 (flat ((p++[q[i]]).map Tm.enc++t)) N)) a b=A g a b:=fun a b F=>by rw[Za.upd_ne _ _ om];exact a2 a b F
   generalize Gi.upd n 7 (.Zg 25 4 (flat ((p++[q[i]]).map Tm.enc++t)) N)=G2 at*;refine kK ?_;refine Yz 402 tok (pre:=[_,_,_]) (post:=[_]) rfl rfl rfl rfl ?_;refine aq2 S K ?_;have M:∀f X,(low n (A f) G2).upd n 7 X=(low n (A f) G).upd n 7 X:=fun f X=>by rw[a3,ZnF _ _ _ _ _ _ (Un n),ZnE,ZfQ]
   have hL:∀f X,(low n (A f) (full m (Zpj q[i]) G2)).upd n 7 X=full m (Zpj q[i]) ((low n (A f) G).upd n 7 X):=fun f X=>by rw[<-M,Yj _ _ _ _ _ _ K,Wp (MI hm)]
   have hO:∀f X,Ze.Below m X->ZL m G2 ((low n (A f) G).upd n 7 X):=fun f X hX=>by rw[<-M];exact(VK C.blw (MI hm) R _).trans (.upd hX)
   have L:=e268 C c W P hl D (pre++[q]) (p++[q[i]]) t g (m+1) (full m (Zpj q[i]) G2) (by rw[e];simp) (by simp[hp]) ⟨by simpa using w.1,fun y h=>w.2 y (by simp[h])⟩ om (fun a b F=>by rw[Zi (by exact Qbv F hm)];exact R a b F) (by rw[Zi (by exact hm)];exact av) (by rw[Zi (by exact hm)];exact S) (Zqs h hok Q);refine ZfD (caps:=Vb c n l N) rfl (Zf func464 rfl rfl) L ?_ ?_ ?_
   ·have O:IntKind.i64.wrap ((p.length:Int)+1)=((p++[q[i]]).length:Int):=by rw[iw];simp
    simp only[go_sem,simprocAttr,O]
   ·rintro r H1 ⟨f,j,J,I,rfl,rfl⟩;refine⟨_,_,hL _ _,hO _ _ (Zaj (ZcA C.el I.2)),?_⟩;refine gI ?_;refine⟨q.length - (i+1),ZqT p q c n l N (i+1) ((low n (A f) G).upd n 7 (.Zg 25 4 (flat (p.map Tm.enc++Tm.enc q[i]::j)) N)),om,?_,i+1,f,Tm.enc q[i]::j,h,rfl,⟨by simp[I.1],fun y h=>by rcases Ql.1 h with rfl|h;exact C.el _;exact I.2 y h⟩,by rw[Zew _ h Q];exact J,rfl⟩;rw[show p.map Tm.enc++Tm.enc q[i]::j=(p++[q[i]]).map Tm.enc++j by simp];apply kZ;repeat' first|apply q0|exact xx|apply aI
    ·refine aS ?_;rw[iw];exact .refl _
    all_goals first|exact(Zaf m q).inside|exact(ZN (Zl fun x hx=>by obtain⟨u,_,rfl⟩:=Qg.1 hx;exact Zaf m u)).inside|exact(ZN (Below.fn _ _ fun i h=>absurd h (Qj _))).inside|exact(ZN (.msl _ _ _ _ hm)).inside|exact(Below.ptr _ _ _ hm).inside
   ·rintro H1 ⟨J,f,b,rfl,hb⟩;refine⟨_,_,hL _ _,hO _ _ ⟨fun v hv=>(hb.1 v hv).mono hm,fun q hq=>Um (hb.2 q hq) hm⟩,?_⟩;refine WU ⟨rfl,?_,f,b,rfl,hb⟩ _;rw[JK,fold_at _ h Q,J];rfl
  ·have a1:i=q.length:=om;subst a1;have Y:¬q.length<q.length:=Un _;rw[QV]at Q;refine nq Y ?_;refine gg ?_;refine nq Y ?_;refine nV ?_;subst V;refine Vt (Zq (v:=.bool true) (.refl _) (.bool _) ⟨g,d,by rw[JK,Q],w,rfl,rfl⟩)
abbrev z257:AV:=.int .i64 0
abbrev z267:AV:=.agg [.int .u8 0,.int .i64 0,.str [],.sl 4 [] .full]
def zrow257:Zeh 1 z257:=⟨rfl,fun m c a=>by rw[Qo.1 a];exact .int _ _⟩
def zrow267:Zeh 4 z267:=⟨rfl,fun m=>(ZW.mem (l:=[AV.int .u8 0,.int .i64 0,.str [],.sl 4 [] .full]) (p:=fun c=>Below m c) ⟨.int _ _,.int _ _,.str _,YR (fun _ h=>by cases h) (fun _ _ e=>by cases e),trivial⟩)⟩
def e257{l:Nat}{A:St->Za}{step:St->List Int->Option St}{ok:St->List Int->Prop}(H:Za)(c:List (List Int))(g:c.length<=1000000)(hl:∀q∈c,q.length<=1000000)(e:Zoc n l c.length 3 1 eInt A step ok)(σ:St)(m:∀a b,a<n->H a b=A σ a b)(j:∀pr r po σ',Z9 c=pr++r::po->pr.foldlM step σ=some σ'->ok σ' r):
  ZY prog 402 n 453 [.fn (.yield l) [],.iptr [.sl 1 (c.map eIs) .any]] H (fun _ H'=>∃σ',WM step [] c σ=some σ'/\H'=low n (A σ') H) (fun H'=>WM step [] c σ=none/\ ∃σ',H'=low n (A σ') H):=by
 refine xF func453 fun B=>?_
 refine gc ?_;refine⟨⟨Zn om,om⟩,?_⟩;refine gh ?_;have k:∀q,Inside n q (.fn (.yield l) []):=fun q=>(Below.fn _ _ fun i h=>absurd h (Qj _)).inside
 have f:∀q,Inside n q (.iptr [.sl 1 (c.map eIs) .any]):=fun q=>(ZN (Zl fun x hx=>by obtain⟨u,_,rfl⟩:=Qg.1 hx;exact Zae n u)).inside
 have p:∀y∈List.replicate c.length z257,Zeh 1 y:=fun y e=>by rw[(Ue.1 e).2];exact zrow257
 have d:∀q i,(Ze.Zg 3 1 (flat (List.replicate c.length z257)) i).Inside n q:=fun q i=>(Zaj p).inside
 refine ZT 2 [.fn (.yield l) []] [(4,.ptr n 4 0),(3,.ptr n 3 0),(2,.iptr [.fn (.yield l) []]),(1,.iptr [.sl 1 (c.map eIs) .any])] rfl ⟨k _,trivial⟩ ⟨.inl ⟨.refl _,.ptr _ _ _ (.inr ⟨rfl,dc⟩)⟩,.inl ⟨.refl _,.ptr _ _ _ (.inr ⟨rfl,dc⟩)⟩,.inr ⟨0,rfl,rfl⟩,.inl ⟨.refl _,f _⟩,trivial⟩ ?_ ?_
 ·exact⟨d _ _,Ze.Zv ⟨.msl _ _ _ _ (.inr ⟨rfl,dc⟩),trivial⟩,Ze.Zv ⟨Below.inside .nilf,trivial⟩,trivial⟩
 refine ZT 3 [.msl 1 n 7 c.length] [(4,.ptr n 4 0),(3,.iptr [.msl 1 n 7 c.length]),(2,.iptr [.fn (.yield l) []]),(1,.iptr [.sl 1 (c.map eIs) .any])] rfl ⟨.msl _ _ _ _ (.inr ⟨rfl,dc⟩),trivial⟩ ⟨.inl ⟨.refl _,.ptr _ _ _ (.inr ⟨rfl,dc⟩)⟩,.inr ⟨0,rfl,rfl⟩,.inl ⟨.refl _,(ZN (Below.fn _ _ fun i h=>absurd h (Qj _))).inside⟩,.inl ⟨.refl _,f _⟩,trivial⟩ ?_ ?_
 ·exact⟨d _ _,Ze.Zv ⟨Below.inside .nilf,trivial⟩,trivial⟩
 refine gh ?_;refine Yz 402 tok (pre:=[_]) (post:=[]) rfl rfl rfl rfl ?_;refine aS ?_;refine ZfD (caps:=Va c n l c.length) rfl (Zf func454 rfl rfl) (e258 e c rfl g hl c [] [] (List.replicate c.length z257) σ (n+1) _ rfl rfl ⟨sm,p⟩ (Qq n) (fun a b ha=>by rw[Zi ha];exact m a b ha) (by simp[full,lkb]) (by simp[full,lkb,Va]) j) sS ?_ ?_
 ·rintro r H1 ⟨σ',o,hs,s,rfl,rfl⟩;refine⟨_,_,by rw[<-Wp (Qi n),<-Zm],VK e.blw (Qi n) m _,?_⟩;refine gO ?_;exact⟨fun x h=>by simp[Tryz.f453]at h,[],trivial,fun v h=>absurd h sm,σ',hs,rfl⟩
 ·rintro H1 ⟨hs,σ',b,rfl,hb⟩;refine⟨_,_,by rw[<-Wp (Qi n),<-Zm],VK e.blw (Qi n) m _,?_⟩;exact⟨rfl,hs,σ',rfl⟩
def e267{l:Nat}{A:St->Za}{step:St->LT->Option St}{ok:St->LT->Prop}(H:Za)(c:List LT)(g:c.length<=1000000)(hl:∀q∈c,q.length<=1000000)(e:Zoc n l c.length 25 4 Tm.enc A step ok)(σ:St)(m:∀a b,a<n->H a b=A σ a b)(j:∀pr r po σ',Z9 c=pr++r::po->pr.foldlM step σ=some σ'->ok σ' r):
  ZY prog 402 n 463 [.fn (.yield l) [],.iptr [.sl 1 (c.map eTs) .any]] H (fun _ H'=>∃σ',WM step [] c σ=some σ'/\H'=low n (A σ') H) (fun H'=>WM step [] c σ=none/\ ∃σ',H'=low n (A σ') H):=by
 refine xF func463 fun B=>?_
 refine gc ?_;refine⟨⟨Zn om,om⟩,?_⟩;refine gh ?_;have k:∀q,Inside n q (.fn (.yield l) []):=fun q=>(Below.fn _ _ fun i h=>absurd h (Qj _)).inside
 have f:∀q,Inside n q (.iptr [.sl 1 (c.map eTs) .any]):=fun q=>(ZN (Zl fun x hx=>by obtain⟨u,_,rfl⟩:=Qg.1 hx;exact Zaf n u)).inside
 have p:∀y∈List.replicate c.length z267,Zeh 4 y:=fun y e=>by rw[(Ue.1 e).2];exact zrow267
 have d:∀q i,(Ze.Zg 25 4 (flat (List.replicate c.length z267)) i).Inside n q:=fun q i=>(Zaj p).inside
 refine ZT 2 [.fn (.yield l) []] [(4,.ptr n 4 0),(3,.ptr n 3 0),(2,.iptr [.fn (.yield l) []]),(1,.iptr [.sl 1 (c.map eTs) .any])] rfl ⟨k _,trivial⟩ ⟨.inl ⟨.refl _,.ptr _ _ _ (.inr ⟨rfl,dc⟩)⟩,.inl ⟨.refl _,.ptr _ _ _ (.inr ⟨rfl,dc⟩)⟩,.inr ⟨0,rfl,rfl⟩,.inl ⟨.refl _,f _⟩,trivial⟩ ?_ ?_
 ·exact⟨d _ _,Ze.Zv ⟨.msl _ _ _ _ (.inr ⟨rfl,dc⟩),trivial⟩,Ze.Zv ⟨Below.inside .nilf,trivial⟩,trivial⟩
 refine ZT 3 [.msl 4 n 7 c.length] [(4,.ptr n 4 0),(3,.iptr [.msl 4 n 7 c.length]),(2,.iptr [.fn (.yield l) []]),(1,.iptr [.sl 1 (c.map eTs) .any])] rfl ⟨.msl _ _ _ _ (.inr ⟨rfl,dc⟩),trivial⟩ ⟨.inl ⟨.refl _,.ptr _ _ _ (.inr ⟨rfl,dc⟩)⟩,.inr ⟨0,rfl,rfl⟩,.inl ⟨.refl _,(ZN (Below.fn _ _ fun i h=>absurd h (Qj _))).inside⟩,.inl ⟨.refl _,f _⟩,trivial⟩ ?_ ?_
 ·exact⟨d _ _,Ze.Zv ⟨Below.inside .nilf,trivial⟩,trivial⟩
 refine gh ?_;refine Yz 402 tok (pre:=[_]) (post:=[]) rfl rfl rfl rfl ?_;refine aS ?_;refine ZfD (caps:=Vb c n l c.length) rfl (Zf func464 rfl rfl) (e268 e c rfl g hl c [] [] (List.replicate c.length z267) σ (n+1) _ rfl rfl ⟨sm,p⟩ (Qq n) (fun a b ha=>by rw[Zi ha];exact m a b ha) (by simp[full,lkb]) (by simp[full,lkb,Vb]) j) sS ?_ ?_
 ·rintro r H1 ⟨σ',o,hs,s,rfl,rfl⟩;refine⟨_,_,by rw[<-Wp (Qi n),<-Zm],VK e.blw (Qi n) m _,?_⟩;refine gO ?_;exact⟨fun x h=>by simp[Tryz.f463]at h,[],trivial,fun v h=>absurd h sm,σ',hs,rfl⟩
 ·rintro H1 ⟨hs,σ',b,rfl,hb⟩;refine⟨_,_,by rw[<-Wp (Qi n),<-Zm],VK e.blw (Qi n) m _,?_⟩;exact⟨rfl,hs,σ',rfl⟩
def e234(a:List (List Int)):Pure prog 436 [.sl 1 (a.map eIs) .any] (.fn (.func 453) [.iptr [.sl 1 (a.map eIs) .any]]):=by
 intro n H;refine aF func436 fun B=>?_
 have b:Below n (.sl 1 (a.map eIs) .any):=Zl fun x c=>by obtain⟨u,_,rfl⟩:=Qg.1 c;exact Zae n u
 refine gh ?_;refine ZT 1 [.sl 1 (a.map eIs) .any] [(2,.nilf),(1,.iptr [.sl 1 (a.map eIs) .any])] rfl ⟨b.inside,trivial⟩ ⟨.inl ⟨.refl _,Below.inside .nilf⟩,.inr ⟨0,rfl,rfl⟩,trivial⟩ trivial ?_;refine ge ?_;exact Zb (.refl _) (Below.fn _ _ fun i h=>by
  have:i=0:=by simp at h;omega
  subst this;exact ZN b) rfl
def Zwq(a:List LT):Pure prog 441 [.sl 1 (a.map eTs) .any] (.fn (.func 463) [.iptr [.sl 1 (a.map eTs) .any]]):=by
 intro n H;refine aF func441 fun B=>?_
 have b:Below n (.sl 1 (a.map eTs) .any):=Zl fun x c=>by obtain⟨u,_,rfl⟩:=Qg.1 c;exact Zaf n u
 refine gh ?_;refine ZT 1 [.sl 1 (a.map eTs) .any] [(2,.nilf),(1,.iptr [.sl 1 (a.map eTs) .any])] rfl ⟨b.inside,trivial⟩ ⟨.inl ⟨.refl _,Below.inside .nilf⟩,.inr ⟨0,rfl,rfl⟩,trivial⟩ trivial ?_;refine ge ?_;exact Zb (.refl _) (Below.fn _ _ fun i h=>by
  have:i=0:=by simp at h;omega
  subst this;exact ZN b) rfl
end
def ZmQ(l:LT):∀y∈l.map Tm.enc,y.cells.length=4:=fun y a=>by obtain⟨x,_,rfl⟩:=Qg.1 a;rw[Tm.Yu];rfl
def WL{n m:Nat}(l:LT):Ze.Below n (.Zg 25 4 (flat (l.map Tm.enc)) m):=⟨(XH fun x hx=>by obtain⟨y,_,rfl⟩:=Qg.1 hx;exact Tm.blw n y).mem,by simp[Ze.at_]⟩
def ZnD(l:LT)(j:Nat)(h:j<l.length):((flat (l.map Tm.enc)).drop (j*4)).take 4=(l[j]).cs:=by
 have:=Zi0 (ZmQ l) j (by simpa using h);rw[QZ,Tm.Yu]at this;exact this
def ZgR(l:LT):(flat (l.map Tm.enc)).length=l.length*4:=by rw[flat_length (ZmQ l),Qv]
def zTm:AV:=.agg [.int .u8 0,.int .i64 0,.str [],.sl 4 [] .full]
def ZsC(l k:Nat)(a:LT)(H:Za)(r:AV)(b:Za):Prop:=
 (r= .msl 4 l k a.length/\b=H/\kpt cmpT a a.length=a)\/
 (r= .sub 4 l k a.length 0 (kpt cmpT a a.length).length/\0<a.length/\(kpt cmpT a a.length).length<=a.length/\b=H.upd l k (.Zg 25 4 (flat ((kpt cmpT a a.length).map Tm.enc++List.replicate (a.length - (kpt cmpT a a.length).length) zTm)) a.length))
def u265:Opt:=⟨false,false,fun d=>if d=31\/d=61 then .heap else .auto,[]⟩
def ZtQ(l k:Nat)(a:LT)(H:Za)(j:Nat):Zc:=⟨[(5,.int .i64 j),(0,.msl 4 l k a.length),(1,.fn (.func 44) [])],[],H⟩
def Zjs(l k:Nat)(a:LT)(H:Za)(j m:Nat):Zc:=
 ⟨[(7,.int .i64 m),(6,.sub 4 l k a.length j (a.length - j)),(5,.int .i64 (kpt cmpT a (j+m)).length),(0,.msl 4 l k a.length),(1,.fn (.func 44) [])],[],H.upd l k (.Zg 25 4 (flat ((mix (kpt cmpT a (j+m)) a).map Tm.enc)) a.length)⟩
def Zw3(n:Nat)(H:Za)(l k:Nat)(hl:l<n)(xs:LT)(hx:xs.length<=1000000)(hb:∀t∈xs,t.Good)(Y:H l k=some (.Zg 25 4 (flat (xs.map Tm.enc)) xs.length)):
  Zh prog n 461 [.msl 4 l k xs.length,.fn (.func 44) []] H (ZsC l k xs H):=by
 have d:¬l=n:=om;have hmi:∀q,Inside n q (.msl 4 l k xs.length):=fun q=>.msl _ _ _ _ (.inl hl)
 have hms:∀q a b,Inside n q (.sub 4 l k xs.length a b):=fun q a b=>.sub _ _ _ _ _ _ (.inl hl)
 have J:∀i j (h:i<xs.length) (E:j<xs.length),Pure prog 44 [Tm.enc xs[i],Tm.enc xs[j]] (.bool (cmpT xs[i] xs[j]==0)):=fun i j h E=>
  j16 _ _ (hb _ (Qa h)) (hb _ (Qa E))
 refine aF func461 fun B=>?_
 refine gc ?_;by_cases h2:xs.length<2
 ·have A:((xs.length:Int)<2):=om;refine nTq A ?_;refine ge ?_;refine Zq (.refl _) (.msl _ _ _ _ hl) (.inl ⟨rfl,rfl,?_⟩);rw[Za7 cmpT xs _ (Qi _) fun i h E U=>by omega,QV]
 have A:¬((xs.length:Int)<2):=om;refine nFq A ?_;refine gh ?_;refine ZG (fun i=>ZtQ l k xs H (1+i)) (fun i=>∀j (h:j<xs.length),j<1+i->0<j->cmpT xs[j] xs[j - 1]≠0) (xs.length - 1) rfl ?_ (fun j h h1 U=>by omega) ?_
 ·exact KK
 intro i hi hq;obtain⟨j,hj⟩:∃j,j=1+i:=⟨_,rfl⟩
 rw[show 1+(i+1)=j+1 by omega,<-hj];rw[<-hj]at hq;have az:0<j:=om;refine ZV rfl ?_;rcases Qd j xs.length with h|h
 ·have h1:=ZnD xs j h;have h3:=ZnD xs (j - 1) om;have a0:=ZgR xs;have hw:IntKind.i64.wrap ((j:Int) - 1)=((j - 1:Nat):Int):=by rw[show(j:Int) - 1=((j - 1:Nat):Int) by omega];exact iw
  have I:j - 1<xs.length:=om;refine nq h ?_;refine nT ?_;refine nD drawO ?_;simp only[go_sem,simprocAttr,h,d,Y,h1,h3,hw,I];refine⟨⟨om,om⟩,⟨om,om⟩,?_⟩;refine Yp (avs:=[Tm.enc xs[j],Tm.enc xs[j - 1]]) rfl (Zf func44 rfl rfl) (J j (j - 1) h I _ _) rfl ?_;cases P:(cmpT xs[j] xs[j - 1]==0)with
  |false=>
   have w:cmpT xs[j] xs[j - 1]≠0:=by simpa using P
   refine aq P ?_;refine gm ?_;refine⟨om,fun Q E au aw=>?_,?_⟩
   ·rcases Qd Q j with h5|h5
    ·exact hq Q E h5 aw
    ·have:Q=j:=om;subst this;exact w
   ·apply kZ;repeat' first|apply q0|exact xx|apply aI
    ·refine aS ?_;rw[iw];exact .refl _
    all_goals exact hmi _
  |true=>
   have w:cmpT xs[j] xs[j - 1]=0:=by simpa using P
   have Z:kpt cmpT xs j=xs.take j:=Za7 cmpT xs j om hq;have g:kpt cmpT xs (j+1)=xs.take j:=by rw[ZiY cmpT xs j h az w,Z]
   have u:(xs.take j).length=j:=by rw[QJ];omega
   simp only[go_sem,simprocAttr,P];refine nT ?_;repeat refine kn rfl ?_
   refine Yy tok u265 rfl rfl (by kernel_rfl) ?_;simp only[go_sem,simprocAttr,u265];refine Step.look (v:=.sub 4 l k xs.length j (xs.length - j)) (XW (a:=j) (h:=(xs.length:Int)) tok rfl rfl rfl rfl rfl ((Zi hl _ _ _).trans Y) rfl rfl ?_ ?_ ?_ ?_ ?_) ?_
   ·omega
   ·omega
   ·omega
   ·omega
   ·rw[if_pos om];rfl
   refine aS ?_;refine gh ?_;refine Zx (fun m=>Zjs l k xs H j (1+m)) (xs.length - j - 1) rfl ?_ ?_
   ·unfold Zjs;rw[UC,g,u,show mix (xs.take j) xs=xs by unfold mix;rw[u,Q8],Z7 Y];exact KK
   intro m hm;obtain⟨r,hr⟩:∃r,r=1+m:=⟨_,rfl⟩
   rw[show 1+(m+1)=r+1 by omega,<-hr];refine ZV rfl ?_;have R:(kpt cmpT xs (j+r)).length<=j+r - 1:=by
    have:=ZgN cmpT xs (j+1) m;rw[g,u,show j+1+m=j+r by omega]at this;omega
   generalize V:kpt cmpT xs (j+r)=K at R;have M:H.upd l k (.Zg 25 4 (flat ((mix K xs).map Tm.enc)) xs.length) l k=some (.Zg 25 4 (flat ((mix K xs).map Tm.enc)) xs.length):=Za.upd_same _ _ _ _;rcases Qd (j+r) xs.length with h5|h5
   ·have ax:=ZfJ (kept:=K) (xs:=xs) om;have W:=ZnD (mix K xs) (j+r) om;rw[ZdS (j+r) om om h5]at W;have g2:=ZnD (mix K xs) (j+r - 1) om;rw[ZdS (j+r - 1) om om om]at g2;have g3:=ZgR (mix K xs);rw[ax]at g3;have f:r<xs.length - j:=om;have ay:r - 1<xs.length - j:=om;have av:IntKind.i64.wrap ((r:Int) - 1)=((r - 1:Nat):Int):=by rw[show(r:Int) - 1=((r - 1:Nat):Int) by omega];exact iw
    have er:j+(r - 1)=j+r - 1:=om;refine nq f ?_;refine nT ?_;refine nD drawO ?_;simp only[go_sem,simprocAttr,f,d,M,W,g2,av,ay,er];refine⟨⟨om,om⟩,⟨om,om⟩,?_⟩;refine Yp (avs:=[Tm.enc xs[j+r],Tm.enc xs[j+r - 1]]) rfl (Zf func44 rfl rfl) (J (j+r) (j+r - 1) h5 om _ _) rfl ?_;cases O:(cmpT xs[j+r] xs[j+r - 1]==0)with
    |true=>
     have C:cmpT xs[j+r] xs[j+r - 1]=0:=by simpa using O
     have o:kpt cmpT xs (j+(r+1))=K:=by rw[<-MS,ZiY cmpT xs (j+r) h5 om C,V]
     refine aq O ?_;refine gm ?_;refine⟨om,?_⟩;unfold Zjs;rw[o];apply kZ;repeat' first|apply q0|exact xx|apply aI
     ·refine aS ?_;rw[iw];exact .refl _
     all_goals first|exact hmi _|exact hms _ _ _
    |false=>
     have C:cmpT xs[j+r] xs[j+r - 1]≠0:=by simpa using O
     have o:kpt cmpT xs (j+(r+1))=K++[xs[j+r]]:=by rw[<-MS,Zqa cmpT xs (j+r) h5 C,V]
     have D:K.length<xs.length:=om;have N:=Zdi (k:=4) Tm.enc (fun x=>by rw[Tm.Yu];rfl) (kept:=K) (xs:=xs) xs[j+r] D;simp only[go_sem,simprocAttr]at N;refine aq O ?_;refine gH ?_;simp only[go_sem,simprocAttr,f,d,M,W,D,N];refine⟨⟨om,om⟩,⟨om,om⟩,.inr (WL _),?_⟩;rw[Za.Zaa];refine gc ?_;refine nN ?_;refine⟨om,?_⟩;unfold Zjs;rw[o,Qh,Qai];apply kZ;repeat' first|apply q0|exact xx|apply aI
     ·refine aS ?_;rw[iw];exact .refl _
     ·refine aS ?_;rw[iw];exact .refl _
     all_goals first|exact hmi _|exact hms _ _ _
   ·have S:j+r=xs.length:=om;have s:kpt cmpT xs xs.length=K:=by rw[<-S];exact V
    have f:¬r<xs.length - j:=om;have D:K.length<xs.length:=om;refine nq f ?_;refine gg ?_;repeat refine kn rfl ?_
    refine Yy tok u265 rfl rfl (by kernel_rfl) ?_;simp only[go_sem,simprocAttr,u265];have F:∀L G,(∀j,G l j=(H.upd l k (.Zg 25 4 (flat ((mix K xs).map Tm.enc)) xs.length)) l j)->full n L G l k=some (.Zg 25 4 (flat ((mix K xs).map Tm.enc)) xs.length):=fun L G h=>(Zi hl _ _ _).trans ((h k).trans (by simp[Za.upd]))
    refine Step.look (v:=.sub 4 l k xs.length K.length (xs.length - K.length)) (XW (a:=K.length) (h:=(xs.length:Int)) tok rfl rfl rfl rfl rfl (F _ _ fun _=>rfl) rfl rfl ?_ ?_ ?_ ?_ ?_) ?_
    ·omega
    ·omega
    ·omega
    ·omega
    ·rw[if_pos om];rfl
    refine aS ?_;refine Step.turn (l:=l) (k:=k) (b:=.Zg 25 4 (flat (K.map Tm.enc++List.replicate (xs.length - K.length) zTm)) xs.length) (Ji tok rfl rfl rfl rfl rfl rfl (F _ _ fun _=>rfl) ?_ rfl ?_ ?_) (.inr ?_) ?_
    ·decide
    ·omega
    ·exact Zb9 (k:=4) Tm.enc (fun x=>by rw[Tm.Yu];rfl) (z:=zTm) rfl om
    ·refine⟨(XH fun x hx=>?_).mem,by simp[Ze.at_]⟩;rcases Qr.1 hx with hx|hx
     ·obtain⟨y,_,rfl⟩:=Qg.1 hx;exact Tm.blw n y
     ·rw[(Ue.1 hx).2];exact Yt (ZW.mem (l:=[AV.int .u8 0,.int .i64 0,.str [],.sl 4 [] .full]) (p:=fun c=>Below n c) ⟨.int _ _,.int _ _,.str _,YR (fun _ h=>by cases h) (fun _ _ e=>by cases e),trivial⟩)
    simp only[go_sem,simprocAttr,d,Za.Zaa];refine nr ?_;simp only[go_sem,simprocAttr,d,Za.upd_same];refine⟨⟨om,om⟩,?_⟩;refine nW ?_;exact Zq (v:=.sub 4 l k xs.length 0 K.length) (.refl _) (.sub _ _ _ _ _ _ hl) (.inr ⟨by rw[s],om,by rw[s];omega,by rw[s]⟩)
 ·have X:j=xs.length:=om;subst X;refine nq (QC.2 h) ?_;refine gt ?_;refine Zq (.refl _) (.msl _ _ _ _ hl) (.inl ⟨rfl,rfl,?_⟩);rw[Za7 cmpT xs _ (Qi _) fun i h E U=>hq i h om U,QV]
def Zve(t:Tm)(n:Nat)(H:Za)(i:Nat):Zc:=
 ⟨[(11,.int .i64 i),(10,.int .i64 t.args.length),(9,.sl 4 (t.args.map Tm.enc) .any),(1,.ptr n 1 0),(2,.ptr n 2 0)],
  [(200,.buf 25 4 i),(1,.box [.int .u8 t.kind,.int .i64 t.num,.str t.name,.sl 4 ((t.args.take i).map Tm.enc) (.buf n 200)]),(2,.box [.int .u8 0,.int .i64 0,.str [],.sl 4 [] .full])],H⟩
def o155:Opt:=⟨true,true,fun d=>if d=20 then .own 200 else .auto,[200]⟩
def Ztl(t:Tm)(d:t.Good):Pure prog 379 [t.enc] t.enc:=by
 intro n H;have ih:∀u∈t.args,Pure prog 379 [u.enc] u.enc:=fun u c=>Ztl u (d.arg c)
 have hl:=d.len;have ho:∀(q:Nat->Prop) (r:LT),q 200->Inside n q (.sl 4 (r.map Tm.enc) (.buf n 200)):=fun q r h=>Abs.YF (mB fun u=>Tm.blw n u) h
 refine aF func379 fun B=>?_
 refine gc ?_;refine gk ?_;refine ZgI 1 200 3 25 4 rfl rfl rfl ?_;simp only[go_sem,simprocAttr,ML,U4];refine Zx (Zve t n H) t.args.length rfl ?_ ?_
 ·exact KK
 intro i f;refine ZV rfl ?_;rcases Qd i t.args.length with h|h
 ·have e:(t.args.take i).map Tm.enc++[(t.args[i]).enc]=(t.args.take (i+1)).map Tm.enc:=by rw[Qn h,QM];rfl
  have a:(t.args.take i).length=i:=UG f;refine nr ?_;simp only[go_sem,simprocAttr,h];refine gH ?_;refine aq2 (Tm.Zw _ _ h) h ?_;refine nD o155 ?_;simp only[go_sem,simprocAttr,o155];refine⟨rfl,rfl,?_⟩;refine W9 (Zf func379 rfl rfl) (ih _ (Qa h)) sS ?_;simp only[go_sem,simprocAttr,o155,a];refine⟨rfl,⟨Zn om,om⟩,?_⟩;rw[e];refine gd ?_;exact KK
 ·have b:i=t.args.length:=om;subst b;refine nq (QC.2 h) ?_;refine gg ?_;refine gE ?_;refine YH (.inl rfl) _ n 2 0 [.int .u8 t.kind,.int .i64 t.num,.str t.name,.sl 4 (t.args.map Tm.enc) (.buf n 200)] sS sF rfl (Qi _) sS ?_ (Tm.blw _ t) rfl;refine aS ?_;rw[Tm.ZbN];exact .deep (.ZlK ⟨.refl _,.refl _,.refl _,.any _ _ _,trivial⟩)
termination_by SizeOf.sizeOf t
decreasing_by exact Tm.Xp c
def opM:Opt:=⟨false,false,fun x=>if x=7 then .call else .auto,[]⟩
def ZuZ(n:Nat)(H:Za)(q j N:Nat)(a:q<n)(ys:LT)(d:ys.length=N+1)(e:N+1<=1000000)(c:H q j=some (.Zg 25 4 (flat (ys.map Tm.enc)) (N+1))):PC prog n 442 [.msl 4 q j (N+1)] H (.sl 4 (ys.map Tm.enc) .any):=by
 have b:¬q=n:=om;refine aF func442 fun B=>?_
 refine gc ?_;refine⟨⟨_,rfl⟩,?_⟩;refine nF ?_;repeat refine kn rfl ?_
 refine Yy tok opM rfl rfl (by kernel_rfl) ?_;simp only[go_sem,simprocAttr,opM];refine⟨rfl,?_⟩;refine Step.same (v:=.sl 4 (ys.map Tm.enc) .any) ?_ ?_
 ·refine ZcP (ys:=ys.map Tm.enc) (n:=N+1) (q:=q) (j:=j) tok rfl rfl rfl rfl rfl dc rfl rfl ((Zi a _ _ _).trans c) (ZmQ ys) (by simp[d]) om (Zn om) ?_;show(N+1)*56<=_;omega
 refine gw ?_;exact Zb (.refl _) (ZB _) rfl
/-! The number of combinations. -/
def cntF(n:Nat)(p:LT):Option Nat:=if 1000<n*p.length then none else some (n*p.length)
theorem Znf(a:List LT):Zom a=a.foldlM cntF 1:=rfl
def rows_len:∀ps:List LT,∀a m,ps.foldlM cntF a=some m->a*(Z9 ps).length=m
 |[],a,m,h=>by simp at h;simp[Z9,h]
 |p::r,a,m,h=>by
  rw[MP]at h;unfold cntF at h;split at h
  ·cases h
  ·have:=rows_len r (a*p.length) m h;have e:(Z9 (p::r)).length=p.length*(Z9 r).length:=by
    rw[Z9,List.length_flatMap];simp[List.map_const']
   rw[e,<-Nat.mul_assoc];exact this
def ZhV{c b:Type}(g:c->b):∀(l:List c) (a:List b),l.foldlM (fun o r=>(some (o++[g r]):Option (List b))) a=some (a++l.map g)
 |[],a=>by simp
 |x::l,a=>by
  rw[MP];show l.foldlM _ (a++[g x])=_;rw[ZhV g l];simp
def ZeA{n:Nat}{p:Nat->Prop}(l:LT):ZW (fun c=>Inside n p c) (flat (l.map Tm.enc)):=ZM fun c a=>((WL (n:=n) (m:=0) l).1 c a).inside
def e238(l:LT):Pure prog 440 [eTs l] (.bool l.isEmpty):=by
 intro n H;refine aF func440 fun B=>?_
 have a:((l.length:Int)==0)=l.isEmpty:=by cases l<;>simp;omega
 refine nR ?_;refine nr ?_;simp only[go_sem,simprocAttr,eTs,a];exact pB
def ZrD(ps:List LT):ZeY 440 [] eTs ps (·.isEmpty):=⟨⟨_,_,Zf func440 rfl rfl⟩,fun x _=>Abs.Pure.tabs (e238 x),fun _=>trivial⟩
def Zfm(s:Str)(n:Nat)(a:LT):List (Nat×Ze):=[(200,.Zg 25 4 (flat (a.map Tm.enc)) a.length),(4,.box [.msl 4 n 200 a.length]),(2,.box [.str s])]
def ZaJ(ps:List LT)(n:Nat):LN:=[(24,.fn (.func 463) [.iptr [.sl 1 (ps.map eTs) .any]]),(4,.ptr n 4 0),(2,.ptr n 2 0)]
abbrev c201:Code:=(Zz Tryz.f411).snd.snd.snd.snd.fst.snd
def Zbp(s:Str)(ps:List LT)(n l:Nat)(a:LT):List (Nat×Ze):=setb (Zfm s n a) 100 (.lrec l Tryz.f411.ntmps 412 (ZaJ ps n) #[25] c201.fst.fst c201.fst.snd .ready none)
def Zbv(s:Str)(ps:List LT)(n l:Nat)(H:Za)(a:LT):Za:=full n (Zbp s ps n l a) H
def ZtD(n:Nat):Opt:=⟨true,true,fun d=>if d=29\/d=33 then .heap else if d=34 then .at_ n 200 else if d=4 then .at_ n 4 else .auto,[]⟩
def ZqR(s:Str)(ps:List LT)(n:Nat)(H:Za)(i c:Nat):Zc:=
 ⟨[(13,.int .i64 i),(12,.int .i64 ps.length),(11,.sl 1 (ps.map eTs) .any),(5,.int .i64 c),(1,.sl 1 (ps.map eTs) .any),(2,.ptr n 2 0),(4,.ptr n 4 0)],[(4,.box [.sl 4 [] .full]),(2,.box [.str s])],H⟩
def ZcO(s:Str)(r:LT):Tm:=.mk 4 0 s r
def Zle(s:Str)(o r:LT):Option LT:=some (o++[ZcO s r])
def Znv(s:Str)(l:List LT)(a:LT):l.foldlM (Zle s) a=some (a++l.map (ZcO s)):=ZhV (ZcO s) l a
def Zkd(s:Str)(ps:List LT):WM (Zle s) [] ps []=some ((Z9 ps).map (ZcO s)):=by
 have:=Znv s (Z9 ps) [];unfold WM;simpa using this
section
variable {ps:List LT}
def ZkB{s:Str}{n l:Nat}{H:Za}(o c:LT):low (n+1) (Zbv s ps n l H c) (Zbv s ps n l H o)=Zbv s ps n l H c:=by
 funext a b;by_cases h:a<n+1
 ·rw[Zdc h]
 ·rw[JU h];unfold Zbv full;rw[if_neg om,if_neg om]
def ZqX(a:LT)(z:AV)(d:z.cells.length=4)(t:Tm):(flat (a.map Tm.enc)++flat [z]).take (a.length*4)++(t.cs++(flat (a.map Tm.enc)++flat [z]).drop (a.length*4+4))=flat ((a++[t]).map Tm.enc):=by
 have c:=ZgR a;have b:flat [z]=z.cells:=by simp[flat]
 rw[<-c,Gn,Ux (by rw[Qh,b,d];exact Qi _),Qu,QM,YJ];congr 1
 simp[flat,Tm.Zep]
def Zr3{s:Str}{n l:Nat}{H G:Za}{σ σ':LT}(i:∀a j,a<n+1->G a j=Zbv s ps n l H σ a j):
  ((((G.upd n 100 (.lrec l Tryz.f411.ntmps 412 (ZaJ ps n) #[25] c201.fst.fst c201.fst.snd .busy none)).upd n 200 (.Zg 25 4 (flat (σ'.map Tm.enc)) σ'.length)).upd n 4 (.box [.msl 4 n 200 σ'.length])).upd n 100 (.lrec l Tryz.f411.ntmps 412 (ZaJ ps n) #[25] c201.fst.fst c201.fst.snd .ready none))=low (n+1) (Zbv s ps n l H σ') G:=by
 funext a j;by_cases h:a<n+1
 ·rw[Zdc h];have g:=i a j h;unfold Za.upd;by_cases e:a=n
  ·subst e;by_cases b:j=100
   ·subst b;simp[Zbv,full,Zbp,Zfm,setb,lkb]
   ·by_cases f:j=4
    ·subst f;simp[Zbv,full,Zbp,Zfm,setb,lkb]
    ·by_cases d:j=200
     ·subst d;simp[Zbv,full,Zbp,Zfm,setb,lkb]
     ·simp only[b,f,d,and_false,if_false];rw[g];simp[Zbv,full,Zbp,Zfm,setb,lkb,Ne.symm b,Ne.symm f,Ne.symm d]
  ·simp only[e,false_and,if_false];rw[g];simp[Zbv,full,e]
 ·rw[JU h];unfold Za.upd;simp only[show¬a=n from fun c=>h om,false_and,if_false]
def Zue(s:Str)(ps:List LT)(N:Nat)(F:ps.length=N+1)(O:N+1<=1000)(n l:Nat)(H:Za):Zoc (n+1) l ps.length 25 4 Tm.enc (Zbv s ps n l H) (Zle s) (fun o _=>o.length<1000):=by
 have z:ZW (fun p=>Below (n+1) p.2) (ZaJ ps n):=⟨ZaT ⟨ZN (Zcj _),trivial⟩,.ptr _ _ _ (Qq n),.ptr _ _ _ (Qq n),trivial⟩
 refine⟨fun m G σ row hok hm hrl hA h7=>?_,fun σ σ' a b x ha hx=>?_,fun x=>⟨by rw[Tm.Yu];rfl,fun m=>by rw[Tm.Zep];exact(Tm.bcs x).mem⟩⟩
 ·have f:G n 100=some (.lrec l Tryz.f411.ntmps 412 (ZaJ ps n) #[25] c201.fst.fst c201.fst.snd .ready none):=(hA n 100 (Qq n)).trans (by simp[Zbv,full,Zbp,Zfm,setb,lkb]);have v:G n 200=some (.Zg 25 4 (flat (σ.map Tm.enc)) σ.length):=(hA n 200 (Qq n)).trans (by simp[Zbv,full,Zbp,Zfm,setb,lkb]);have L:G n 4=some (.box [.msl 4 n 200 σ.length]):=(hA n 4 (Qq n)).trans (by simp[Zbv,full,Zbp,Zfm,setb,lkb]);have J:G n 2=some (.box [.str s]):=(hA n 2 (Qq n)).trans (by simp[Zbv,full,Zbp,Zfm,setb,lkb]);refine ZgJ tt (x:=n) (y:=100) (Zf func411 rfl rfl).get f om rfl dc fun M=>?_
  show AKc _ _ _ ⟨(25,.msl 4 (n+1) 7 ps.length)::ZaJ ps n,[],G⟩;unfold ZaJ;refine gd ?_;refine⟨rfl,f,?_⟩;refine aS ?_;obtain⟨i,hG1⟩:∃i,i=G.upd n 100 (.lrec l Tryz.f411.ntmps 412 (ZaJ ps n) #[25] c201.fst.fst c201.fst.snd .busy none):=⟨_,rfl⟩
  have j:i n 200=some (.Zg 25 4 (flat (σ.map Tm.enc)) σ.length):=by rw[hG1,Za.upd_ne _ _ sm];exact v
  have g:i n 4=some (.box [.msl 4 n 200 σ.length]):=by rw[hG1,Za.upd_ne _ _ sm];exact L
  have r:i n 2=some (.box [.str s]):=by rw[hG1,Za.upd_ne _ _ sm];exact J
  have k:i (n+1) 7=some (.Zg 25 4 (flat (row.map Tm.enc)) ps.length):=by rw[hG1,Za.upd_ne _ _ sm];exact h7
  have u:¬n=m:=om;have E:¬n+1=m:=om;change AKc _ _ _ ⟨_,[],G.upd n 100 (.lrec l Tryz.f411.ntmps 412 (ZaJ ps n) #[25] c201.fst.fst c201.fst.snd .busy none)⟩;rw[<-hG1];refine nD (ZtD n) ?_;simp only[go_sem,simprocAttr,ZtD,u,g,r];rw[F];rw[F]at k;refine Zgj (Zf func442 rfl rfl) (fun I A=>ZuZ (m+1) I (n+1) 7 N om row om om (Jl A▸(Zi hm _ _ _).trans k)) sS ?_;have w:∀x,i.upd n 200 x n 4=some (.box [.msl 4 n 200 σ.length]):=fun x=>by rw[Za.upd_ne _ _ sm];exact g
  have D:=ZqX σ (.agg [.int .u8 0,.int .i64 0,.str [],.sl 0 [] .full]) rfl (ZcO s row);have B:(flat (σ.map Tm.enc)++flat [AV.agg [.int .u8 0,.int .i64 0,.str [],.sl 0 [] .full]]).length=σ.length*4+4:=by rw[Qh,ZgR];rfl
  simp only[go_sem,simprocAttr,ZtD,u,g,r,j,Za.upd_same,w,B,Za.Zaa];have t:(flat (σ.map Tm.enc)++flat [AV.agg [.int .u8 0,.int .i64 0,.str [],.sl 0 [] .full]]).take (σ.length*4)++(AV.int .u8 4::AV.int .i64 0::AV.str s::AV.sl 4 (row.map Tm.enc) .any::(flat (σ.map Tm.enc)++flat [AV.agg [.int .u8 0,.int .i64 0,.str [],.sl 0 [] .full]]).drop (σ.length*4+4))=flat ((σ++[ZcO s row]).map Tm.enc):=D;rw[t];have C:Ze.Below m (.Zg 25 4 (flat (σ.map Tm.enc)++flat [.agg [.int .u8 0,.int .i64 0,.str [],.sl 0 [] .full]]) (σ.length+1)):=by
   refine⟨fun c hc=>?_,by simp[Ze.at_]⟩;rcases Qr.1 hc with hc|hc
   ·exact(WL (m:=0) σ).1 c hc
   ·exact ZW.mem (l:=[AV.int .u8 0,.int .i64 0,.str [],.sl 0 [] .full]) (p:=fun c=>Below m c) ⟨.int _ _,.int _ _,.str _,YR (fun _ h=>by cases h) (fun _ _ e=>by cases e),trivial⟩ c (by simpa[flat,AV.cells]using hc)
  refine⟨rfl,⟨Zn om,om⟩,.inr C,om,om,.inr (WL _),.inr (Ze.Zy ⟨.msl _ _ _ _ om,trivial⟩),?_⟩;refine nN ?_;refine⟨by show Za.upd (Za.upd _ _ _ _) _ _ _ _ _=_;rw[Za.upd_ne _ _ sm,Za.upd_ne _ _ sm,hG1,Za.upd_same];rfl,σ++[ZcO s row],rfl,rfl,?_⟩;rw[hG1];have d:=Zr3 (σ':=σ++[ZcO s row]) hA;rw[Qh]at d;exact d
 ·unfold Zbv full at hx⊢;by_cases h:a=n
  ·rw[if_pos h]at hx;have K:ZW (fun q:Nat×Ze=>q.2.Below (n+1)) (Zbp s ps n l σ'):=
    ⟨WL _,Ze.Zy ⟨.msl _ _ _ _ (Qq n),trivial⟩,Ze.Zy ⟨.str _,trivial⟩,Ze.ZaS z,trivial⟩
   exact .inr (K.mem _ (lkb_mem hx))
  ·rw[if_neg h]at hx⊢;exact .inl hx
def Zwn(s:Str)(ps:List LT)(N:Nat)(U:ps.length=N+1)(hl:N+1<=1000)(hq:∀q∈ps,q.length<=1000000)(n:Nat)(H:Za)(hn:0<n)(hT:Tabs H):
  ZY prog 402 n 411 [.str s,.sl 1 (ps.map eTs) .any] H (fun r G=>∃l,Zey s ps=some l/\r= .sl 4 (l.map Tm.enc) .any/\G=H) (fun G=>Zey s ps=none/\G=H):=by
 have I:=ZwV ps om 440 [] (·.isEmpty) (ZrD ps);refine Zf6 (T:=tt) tok (Zf func411 rfl rfl) sm fun B=>?_
 refine Zh6 tt (d:=(Zz Tryz.f411).snd.snd.snd.snd) [(Zz Tryz.f411).fst,(Zz Tryz.f411).snd.fst,(Zz Tryz.f411).snd.snd.fst,(Zz Tryz.f411).snd.snd.snd.fst] rfl ?_;show AKc _ [.code _,.code _,.code _,.code _] _ _;refine gc ?_;refine cT (I) ?_;cases f:ps.any (·.isEmpty)with
 |true=>
  have u:Zey s ps=some []:=by unfold Zey;rw[f];rfl
  refine gj ?_;refine Vt (Zbd _ n 4 0 [.sl 4 [] .full] sS sF rfl (Qi _) sS (.any _ _ _) (ZB []) ⟨[],u,rfl,rfl⟩)
 |false=>
  have u:Zey s ps=(Zom ps).bind fun _=>some ((Z9 ps).map fun r=>.mk 4 0 s r):=by unfold Zey;rw[f];rfl
  refine nF ?_;refine gk ?_;refine Zap (fun M P=>∃i c,i<=ps.length/\M=ps.length - i/\(ps.take i).foldlM cntF 1=some c/\c<=1000/\P=ZqR s ps n H i c) (m0:=ps.length) (s0:=ZqR s ps n H 0 1) rfl ?_ ⟨0,1,Us _,rfl,rfl,om,rfl⟩ ?_
  ·exact KK
  rintro M P ⟨i,c,V,rfl,z,K,rfl⟩;refine ZV rfl ?_;rcases Qd i ps.length with h|h
  ·have J:=hq _ (Qa h);have k:=fold_at cntF h z;have O:c*ps[i].length<=1000*1000000:=Qba K J;have R:IntKind.i64.wrap ((c:Int)*(ps[i].length:Int))=((c*ps[i].length:Nat):Int):=by
    rw[IntWalk.i64_in _ (by rw[<-Int.natCast_mul];omega)];simp
   refine nr ?_;simp only[go_sem,simprocAttr,h];refine gH ?_;refine aq2 (getD_map eTs _ _ h) h ?_;repeat refine kn rfl ?_
   refine Yz 402 tok (pre:=[_,_,_,_]) (post:=[_]) rfl rfl rfl rfl ?_;simp only[go_sem,simprocAttr,eTs,R];refine JG (Zf func434 rfl rfl) (e232 (n+1) _ ((c*ps[i].length:Nat):Int)) sS ?_ ?_
   ·rintro r D ⟨S,rfl,rfl⟩;refine⟨_,_,rfl,.refl _ _,?_⟩;have w:¬1000<c*ps[i].length:=om;have g:cntF c ps[i]=some (c*ps[i].length):=by unfold cntF;rw[if_neg w]
    refine aS ?_;refine gd ?_;refine⟨ps.length - (i+1),ZqR s ps n H (i+1) (c*ps[i].length),om,?_,i+1,_,h,rfl,by rw[Zew _ h z];exact g,om,rfl⟩;exact KK
   ·rintro D ⟨Q,rfl⟩;refine⟨_,_,rfl,.refl _ _,?_⟩;refine WU ⟨rfl,?_,rfl⟩ _;have g:cntF c ps[i]=none:=by unfold cntF;rw[if_pos om]
    rw[u,Znf,k,g];rfl
  ·have C:i=ps.length:=om;subst C;rw[QV]at z;rw[Znf,z]at u;have E:=rows_len ps 1 c z;rw[QaW]at E;refine nr ?_;simp only[go_sem,simprocAttr,Un];refine gg ?_;refine Zix (show Zbw _ _ _ _ _ _ _ _ from ?_);refine Zdo rfl (Zdo rfl (ZrR (T:=tt) ?_));refine nR ?_;refine cP (Zwq ps) ?_;refine Zix (show Zbw _ _ _ _ _ _ _ _ from ?_);refine Zeb (Jv (j0:=4) (j:=200) (i:=0) 25 4 rfl rfl rfl) ?_;refine Zeb (s':=⟨ZaJ ps n,Zfm s n [],H⟩) ?_ ?_
   ·unfold ZaJ Zfm;apply kZ;repeat' first|apply q0|exact xx|apply aI
    all_goals first|exact Below.inside (v:=.fn (.func 463) [.iptr [.sl 1 (ps.map eTs) .any]]) (ZaT ⟨ZN (Zcj _),trivial⟩)|exact .msl _ _ _ _ (.inr ⟨rfl,rfl⟩)
   refine ZfT rfl ?_;refine ZbA (t:=402) (T:=tt) (caps:=[.iptr [.sl 1 (ps.map eTs) .any]]) 100 rfl (by unfold ZaJ;simp only[go_sem,simprocAttr]) (Zf func463 rfl rfl) rfl fun l=>?_
   have F:∀pr r po e,Z9 ps=pr++r::po->pr.foldlM (Zle s) []=some e->e.length<1000:=fun pr r po e e1 e2=>by
    rw[Znv]at e2;cases e2;have:=congrArg List.length e1;simp at this⊢;omega
   refine⟨_,_,e267 (n:=n+1) (l:=l) (A:=Zbv s ps n l H) (step:=Zle s) (ok:=fun o _=>o.length<1000) _ ps om hq (Zue s ps N U hl n l H) [] (fun a b _=>rfl) F,?_,?_⟩
   ·rintro r D ⟨e,x,rfl⟩;rw[Zkd]at x;cases x;refine⟨Zbp s ps n l ((Z9 ps).map (ZcO s)),H,.ready,ZkB _ _,.refl _ _,rfl,sm,?_⟩;generalize y:(Z9 ps).map (ZcO s)=out at*;have L:Zey s ps=some out:=by rw[u,<-y];rfl
    refine ZjC (ZrR (T:=tt) ?_);refine ZJ (s':=⟨[(4,.ptr n 4 0)],[(200,.Zg 25 4 (flat (out.map Tm.enc)) out.length),(4,.box [.msl 4 n 200 out.length])],H⟩) ?_ ?_
    ·unfold ZaJ Zbp Zfm;exact KK
    refine ZJ (YU (tm':=[(4,.ptr n 4 0)]) (av':=.sl 4 (out.map Tm.enc) .any) (j0:=4) (i:=0) (j:=200) 30 (show 30<Tryz.f411.ntmps by decide) (out.map Tm.enc) dc rfl rfl (.inl ⟨4,rfl,rfl⟩) rfl rfl (by rw[Qv]) (ZmQ out) (ZeA out).mem ?_ ?_) ?_
    ·intro p m;simp only[Qo]at m;subst m;exact⟨sm,.refl _,.ptr _ _ _ (.inr ⟨rfl,dc⟩)⟩
    ·intro p m;simp[setb,delb]at m;subst m;exact Ze.Zv ⟨.dead,trivial⟩
    simp only[go_sem,simprocAttr,setb,delb,ML,U4];refine ge ?_;refine Vt (Zbd _ n 4 0 [.sl 4 (out.map Tm.enc) .any] sS sF rfl (Qi _) sS (.refl _) (ZB _) ⟨out,L,rfl,rfl⟩)
   ·rintro D ⟨x,_⟩;rw[Zkd]at x;cases x
end
def serT:Zhk Tm.Good cmpT:=⟨⟨ser,fun x y b a=>ZjY b.nm a.nm⟩,fun x y b a h=>cmpT_zero b.nm a.nm h⟩
theorem Zkc(q:LT):flat (q.map Tm.enc)=q.flatMap Tm.cs:=by
 induction q with
 |nil=>rfl
 |cons x q ih=>rw[Qs,Yc,ih,Tm.Yu];rfl
def Tm.cs1(x:Tm):∀c∈x.cs,c.one=true:=fun c a=>by
 simp only[Tm.cs,Ql,QA,or_false]at a;rcases a with rfl|rfl|rfl|rfl<;>rfl
def e264(n:Nat)(H:Za)(l j:Nat)(o:l<n)(c:LT)(s:∀b∈c,b.Good)(k:c.length<=1000000)(f:H l j=some (.Zg 25 4 (flat (c.map Tm.enc)) c.length)):
  Zh prog n 460 [.msl 4 l j c.length,.fn (.func 132) []] H (fun r g=>r= .tup []/\ ∃a:LT,a.Perm c/\(∀i d (h:i<a.length) (e:d<a.length),i<d-> ¬cmpT a[d] a[i]<0)/\g=H.upd l j (.Zg 25 4 (flat (a.map Tm.enc)) a.length)):=by
 rw[Zkc]at f;have h:=Zqm (P:=prog) (ρ:=Tryz.sort264_ren) Tryz.sort264 4 dc Tryz.isAgg25 Tryz.sizeOf25 Tm.cs (fun _=>rfl) Tm.cs1 (fun x=>x.bcs.mem) cmpT Tm.Good (ZnY serT) 132 _ _ (Zf func132 rfl rfl)
  (fun x y u p=>by rw[<-Tm.Zc3,<-Tm.Zc3];exact a53 x y u p) n H l j 25 4 c o s f om
 refine Zh.mono h ?_;rintro r g ⟨rfl,a,m,q,rfl⟩;refine⟨rfl,a,m,fun i d h e t=>?_,by rw[Zkc]⟩;have:=q i d h e t;rw[ltOf,decide_eq_false_iff_not]at this;exact this
def Zv0(l k m:Nat)(U:LT)(H:Za)(r:AV)(a:Za):Prop:=
 (r= .msl 4 l k m/\U.length=m/\a=H.upd l k (.Zg 25 4 (flat (U.map Tm.enc)) m))\/
 (r= .sub 4 l k m 0 U.length/\0<m/\U.length<=m/\a=H.upd l k (.Zg 25 4 (flat (U.map Tm.enc++List.replicate (m - U.length) zTm)) m))
def Zwp(n:Nat)(H:Za)(l k:Nat)(q:l<n)(d:LT)(u:∀b∈d,b.Good)(i:d.length<=1000000)(K:H l k=some (.Zg 25 4 (flat (d.map Tm.enc)) d.length)):
  ZY prog 402 n 438 [.msl 4 l k d.length] H (fun r E=>(X5 cmpT d).length<=1000/\Zv0 l k d.length (X5 cmpT d) H r E) fun E=>1000<(X5 cmpT d).length/\ ∃J m,E=H.upd l k (.Zg 25 4 J m):=by
 have f:¬l=n:=om;refine xF func438 fun B=>?_
 refine gc ?_;refine YS (caps:=[]) (avs:=[.msl 4 l k d.length,.fn (.func 132) []]) rfl (Zf func460 rfl rfl) (e264 (n+1) _ l k om d u i (by rw[Zi q];exact K)) sS ?_;rintro r j ⟨rfl,a,C,L,rfl⟩;have w:d.length=a.length:=C.length_eq.symm;have F:kpt cmpT a a.length=X5 cmpT d:=ZnB serT u C L;refine⟨[],H.upd l k (.Zg 25 4 (flat (a.map Tm.enc)) a.length),(Yj n _ _ _ _ _ f).symm,.upd (WL a),?_⟩;obtain⟨s,hH2⟩:∃s,s=H.upd l k (.Zg 25 4 (flat (a.map Tm.enc)) a.length):=⟨_,rfl⟩
 rw[<-hH2,w];refine gP ?_;refine YS (caps:=[]) (avs:=[.msl 4 l k a.length,.fn (.func 44) []]) rfl (Zf func461 rfl rfl) (Zw3 (n+1) _ l k om a om (fun t I=>u t (C.mem_iff.1 I)) (by rw[Zi q,hH2];exact Za.upd_same _ _ _ _)) sS ?_;rintro r j A;unfold ZsC at A;rw[F]at A;generalize X5 cmpT d=U at*;rcases A with⟨rfl,rfl,e⟩|⟨rfl,g,o,rfl⟩
 ·have D:U.length=a.length:=by rw[e]
  refine⟨[],s,rfl,.refl _ _,?_⟩;refine gM ?_;refine Yz 402 tok (pre:=[_,_]) (post:=[]) rfl rfl rfl rfl ?_;refine aS ?_;refine JG (Zf func434 rfl rfl) (e232 (n+1) _ a.length) sS ?_ ?_;rotate_left
  ·rintro j ⟨z,rfl⟩;exact⟨_,_,rfl,.refl _ _,rfl,om,_,_,hH2⟩
  rintro r j ⟨o,rfl,rfl⟩;refine⟨_,_,rfl,.refl _ _,?_⟩;refine aS ?_;refine ge ?_;refine Vt (Zq (v:=.msl 4 l k a.length) (.refl _) (.msl _ _ _ _ q) ⟨om,.inl ⟨rfl,D,?_⟩⟩);rw[hH2,e]
 ·refine⟨[],s.upd l k (.Zg 25 4 (flat (U.map Tm.enc++List.replicate (a.length - U.length) zTm)) a.length),(Yj n _ _ _ _ _ f).symm,.upd ?_,?_⟩
  ·refine⟨(XH fun x hx=>?_).mem,by simp[Ze.at_]⟩;rcases Qr.1 hx with hx|hx
   ·obtain⟨y,_,rfl⟩:=Qg.1 hx;exact Tm.blw n y
   ·rw[(Ue.1 hx).2];exact Yt (ZW.mem (l:=[AV.int .u8 0,.int .i64 0,.str [],.sl 4 [] .full]) (p:=fun c=>Below n c) ⟨.int _ _,.int _ _,.str _,YR (fun _ h=>by cases h) (fun _ _ e=>by cases e),trivial⟩)
  refine gM ?_;refine Yz 402 tok (pre:=[_,_]) (post:=[]) rfl rfl rfl rfl ?_;refine aS ?_;refine JG (Zf func434 rfl rfl) (e232 (n+1) _ U.length) sS ?_ ?_;rotate_left
  ·rintro j ⟨z,rfl⟩;exact⟨_,_,rfl,.refl _ _,rfl,om,_,_,by rw[hH2,Za.Zaa]⟩
  rintro r j ⟨G,rfl,rfl⟩;refine⟨_,_,rfl,.refl _ _,?_⟩;refine aS ?_;refine ge ?_;exact Vt (Zq (v:=.sub 4 l k a.length 0 U.length) (.refl _) (.sub _ _ _ _ _ _ q) ⟨om,.inr ⟨rfl,g,o,by rw[hH2,Za.Zaa]⟩⟩)
/-! Sets of integers. -/
def Zdt(S:List Int)(x:Int):List Int:=if x∈S then S else S++[x]
def encI(S:List Int):List (AV×AV):=ZaV eInt eInt (S.map fun x=>(x,x))
theorem ZkX(x:Int):∀S:List Int,Zg4 x x (S.map fun s=>(s,s))=(Zdt S x).map fun s=>(s,s)
 |[]=>rfl
 |y::r=>by
  have ih:=ZkX x r;simp only[Qs,Zg4];by_cases h:y=x
  ·simp[h,Zdt]
  ·rw[if_neg h,ih];have:¬x=y:=fun e=>h e.symm
   unfold Zdt;by_cases a:x∈r<;>simp[a,this]
def Zsh(x:Int)(S:List Int):Zat (.int .i64 x) (.int .i64 x) (encI S)=encI (Zdt S x):=by
 unfold encI;rw[<-ZkX];exact Zmz (ek:=eInt) kinj_int eInt x x _
def Zj1(S:List Int):(encI S).length=S.length:=by simp[encI,ZaV]
def ZaR{n:Nat}(S:List Int):Ze.Below n (.map (encI S)):=ZjK (Zgg (ek:=eInt) (ev:=eInt) (fun _=>.int _ _) (fun _ _=>.int _ _))
def Zkh{n:Nat}{p:Nat->Prop}(S:List Int):ZW (fun c=>Inside n p c) (List.map (fun x=>x.1) (encI S)++List.map (fun x=>x.2) (encI S)):=ZM fun c a=>((ZaR (n:=n) S).1 c a).inside
def ZpG(S:List Int):∀p∈encI S,Yv tt 3 p.1=true:=fun p a=>by
 obtain⟨q,_,rfl⟩:=Qg.1 a;rfl
section
variable {x:Int} {S:List Int}
def Zf7{y:Int}:y∈Zdt S x↔y∈S\/y=x:=by
 unfold Zdt;split
 ·rename_i h;constructor
  ·exact .inl
  ·rintro(a|rfl)
   ·exact a
   ·exact h
 ·simp
def ZcY(h:S.Nodup):(Zdt S x).Nodup:=by
 unfold Zdt;split
 ·exact h
 ·rename_i f;exact G5.2 ⟨h,sm,fun a d b c e=>by simp only[Qo]at c;subst c;subst e;exact f d⟩
def Zpr:(Zdt S x).length<=S.length+1:=by unfold Zdt;split<;>simp
def Zak(b:Str)(S:List Int)(a:List Int):Option (List Int):=match X3 b a with
 |none=>some S
 |some v=>if 1000<(Zdt S v).length then none else some (Zdt S v)
def ZdG{f:Str}:∀{l:List (List Int)} {S T:List Int},S.Nodup->S.length<=1000->l.foldlM (Zak f) S=some T->T.Nodup/\T.length<=1000/\ ∀x,x∈T↔x∈S\/x∈l.filterMap (X3 f)
 |[],S,T,h,h1,e=>by simp at e;subst e;exact⟨h,h1,sm⟩
 |r::l,S,T,h,h1,e=>by
  rw[MP]at e;unfold Zak at e;cases d:X3 f r with
  |none=>
   rw[d]at e;obtain⟨a,b,c⟩:=ZdG h h1 e;exact⟨a,b,fun x=>by rw[c,G8,d]⟩
  |some v=>
   rw[d]at e;simp only at e;split at e
   ·cases e
   ·rename_i g;obtain⟨a,b,c⟩:=ZdG (ZcY h) om e;refine⟨a,b,fun x=>?_⟩;rw[c,G8,d,Zf7,Ql,or_assoc]
def Za2{f:Str}:∀{l:List (List Int)} {S:List Int},S.Nodup->l.foldlM (Zak f) S=none-> ∃T:List Int,T.Nodup/\1000<T.length/\ ∀x∈T,x∈S\/x∈l.filterMap (X3 f)
 |[],S,h,e=>by simp at e
 |r::l,S,h,e=>by
  rw[MP]at e;unfold Zak at e;cases d:X3 f r with
  |none=>
   rw[d]at e;obtain⟨T,a,b,c⟩:=Za2 h e;exact⟨T,a,b,fun x hx=>by rw[G8,d];exact c x hx⟩
  |some v=>
   rw[d]at e;simp only at e;split at e
   ·rename_i g;refine⟨Zdt S v,ZcY h,g,fun x hx=>?_⟩;rw[G8,d,Ql];rcases Zf7.1 hx with hx|hx
    ·exact .inl hx
    ·exact .inr (.inl hx)
   ·obtain⟨T,a,b,c⟩:=Za2 (ZcY h) e;refine⟨T,a,b,fun x hx=>?_⟩;rw[G8,d,Ql];rcases c x hx with hx|hx
    ·rcases Zf7.1 hx with hx|hx
     ·exact .inl hx
     ·exact .inr (.inl hx)
    ·exact .inr (.inr hx)
def ZrC(a b:Int):cmpT (Vp a) (Vp b)=Yh a b:=by
 rw[ZaU];simp only[Vp,Tm.kind,Tm.num,Tm.args,Tm.name,if_true,Qz];have c:∀x:Int,Yh x x=0:=fun x=>by simp[Yh]
 have d:Lib.compareBytes ([]:Bs) []=0:=cmpBytes_self [];rw[c,YD,c,d,cmpT.cmps,YD,YD,YD];unfold thn;split<;>simp_all
def ZkJ(h:Y6 x=true):(Vp x).Good:=X8 (value_of (Zi8 h) (by rw[ZiI];decide))
def ZqP(h:∀x∈S,Y6 x=true):X5 cmpT (S.map Vp)=(X5 Yh S).map Vp:=by
 have c:∀y∈S.map Vp,y.Good:=fun y d=>by obtain⟨x,e,rfl⟩:=Qg.1 d;exact ZkJ (h x e)
 refine serT.unique (fun y d=>c y ((serT.set_mem c y).1 d)) (serT.set_asc c) ?_ fun x=>?_
 ·exact Qbg.2 ((serI.set_asc fun _ _=>trivial).imp fun{a b} h=>by rw[ZrC];exact h)
 ·rw[serT.set_mem c,Qg,Qg];simp only[serI.set_mem (l:=S) fun _ _=>trivial]
variable {ps:List LT}
def ZoS{j:Str}(h:(Z9 (ps.map Yl)).foldlM (Zak j) []=some S){g:LT}(d:g.Perm (S.map Vp)):Zbt j ps=some (X5 cmpT g)/\(X5 cmpT g).length<=1000/\ ∀t∈g,t.Good:=by
 obtain⟨w,p,u⟩:=ZdG Qac sm h;have n:∀x,x∈S↔x∈(Z9 (ps.map Yl)).filterMap (X3 j):=fun x=>by rw[u];simp
 have f:∀x∈S,Y6 x=true:=fun x d=>by
  obtain⟨r,_,q⟩:=QaD.1 ((n x).1 d);exact ZhL q
 have c:∀t∈g,t.Good:=fun t s=>by
  obtain⟨x,d,rfl⟩:=Qg.1 (d.mem_iff.1 s);exact ZkJ (f x d)
 have o:X5 cmpT g=X5 cmpT (S.map Vp):=serT.unique (fun y i=>c y ((serT.set_mem c y).1 i)) (serT.set_asc c) (serT.set_asc fun y i=>c y (d.mem_iff.2 i)) fun x=>by
  rw[serT.set_mem c,serT.set_mem fun y i=>c y (d.mem_iff.2 i),d.mem_iff]
 have v:X5 Yh S=X5 Yh ((Z9 (ps.map Yl)).filterMap (X3 j)):=serI.unique (fun _ _=>trivial) (serI.set_asc fun _ _=>trivial) (serI.set_asc fun _ _=>trivial) fun x=>by
  rw[serI.set_mem fun _ _=>trivial,serI.set_mem fun _ _=>trivial,n]
 have m:(X5 Yh S).Nodup:=(serI.set_asc (l:=S) fun _ _=>trivial).imp fun{a b} h e=>by subst e;rw[serI.self trivial]at h;omega
 have k:(X5 Yh S).length<=1000:=UA (XV m fun x d=>(serI.set_mem (fun _ _=>trivial) x).1 d) p;rw[o,ZqP f];refine⟨?_,by simpa using k,c⟩;unfold Zbt ZoK;rw[<-v,if_neg om]
def ZoR{a:Str}(h:(Z9 (ps.map Yl)).foldlM (Zak a) []=none):Zbt a ps=none:=by
 obtain⟨T,b,e,c⟩:=Za2 Qac h;have:=XV (q:=X5 Yh ((Z9 (ps.map Yl)).filterMap (X3 a))) b fun x d=>(serI.set_mem (fun _ _=>trivial) x).2 (by have:=c x d;simpa using this)
 unfold Zbt ZoK;rw[if_pos om]
end
abbrev c200:Code:=(Zz Tryz.f410).snd.snd.snd.snd.fst.snd
def J4(ls:List (List Int))(n:Nat):LN:=[(28,.fn (.func 453) [.iptr [.sl 1 (ls.map eIs) .any]]),(8,.ptr n 8 0),(2,.ptr n 2 0)]
def Zf2(a:Str)(n:Nat)(S:List Int):List (Nat×Ze):=[(26,.map (encI S)),(8,.box [.map n 26]),(2,.box [.str a])]
def Zbo(b:Str)(ls:List (List Int))(n l:Nat)(a:List Int×Bool):List (Nat×Ze):=setb (Zf2 b n a.1) 100 (.lrec l Tryz.f410.ntmps 411 (J4 ls n) #[29] c200.fst.fst c200.fst.snd (if a.2 then .busy else .ready) none)
def Zby(a:Str)(ls:List (List Int))(n l:Nat)(H:Za)(b:List Int×Bool):Za:=full n (Zbo a ls n l b) H
def JX(b:Str)(c:List Int×Bool)(a:List Int):Option (List Int×Bool):=(Zak b c.1 a).map fun S=>(S,false)
theorem ZdH(a:Str):∀(l:List (List Int)) (S:List Int),l.foldlM (JX a) (S,false)=(l.foldlM (Zak a) S).map fun T=>(T,false)
 |[],S=>rfl
 |r::l,S=>by
  rw[MP,MP];unfold JX;cases h:Zak a S r with
  |none=>rfl
  |some T=>exact ZdH a l T
section
variable {H:Za} {n l:Nat} {ls:List (List Int)}
def Zfc{op:Str}(o c:List Int×Bool):low (n+1) (Zby op ls n l H c) (Zby op ls n l H o)=Zby op ls n l H c:=by
 funext a b;by_cases h:a<n+1
 ·rw[Zdc h]
 ·rw[JU h];unfold Zby full;rw[if_neg om,if_neg om]
def ZhH{k:Nat}(l:List (List Int)):Below n (.sl k (l.map eIs) .any):=Zl fun x a=>by obtain⟨u,_,rfl⟩:=Qg.1 a;exact Zae n u
def Zr2{op:Str}{G:Za}{S T:List Int}{b:Bool}(i:∀a j,a<n+1->G a j=Zby op ls n l H (S,false) a j):
  (((G.upd n 100 (.lrec l Tryz.f410.ntmps 411 (J4 ls n) #[29] c200.fst.fst c200.fst.snd .busy none)).upd n 26 (.map (encI T))).upd n 100 (.lrec l Tryz.f410.ntmps 411 (J4 ls n) #[29] c200.fst.fst c200.fst.snd (if b then .busy else .ready) none))=low (n+1) (Zby op ls n l H (T,b)) G:=by
 funext a j;by_cases h:a<n+1
 ·rw[Zdc h];have g:=i a j h;unfold Za.upd;by_cases e:a=n
  ·subst e;by_cases f:j=100
   ·subst f;simp[Zby,full,Zbo,Zf2,setb,lkb]
   ·by_cases d:j=26
    ·subst d;simp[Zby,full,Zbo,Zf2,setb,lkb]
    ·simp only[f,d,and_false,if_false];rw[g];simp[Zby,full,Zbo,Zf2,setb,lkb,Ne.symm f,Ne.symm d]
  ·simp only[e,false_and,if_false];rw[g];simp[Zby,full,e]
 ·rw[JU h];unfold Za.upd;simp only[show¬a=n from fun c=>h om,false_and,if_false]
def Z7{k:Nat}{b:Ze}(h:H l k=some b):H.upd l k b=H:=by
 funext x y;unfold Za.upd;split
 ·rename_i e;rw[e.1,e.2,h]
 ·rfl
def Ztf{b:Cx}{k:Bool}{o:Oper}{a:List Operand}{e:List TypeId}{s:Zc}{F:Zc->Prop}{f:FuncId}{j:Func}{c:Code}{r:AV}{d:LA}(g:Fun b.P f j c)
  (h:PC b.P (b.n+1) f d (full b.n s.L s.H) r) (i:Yo b.T (evT s.tmps) a e=d) (l:F ⟨Yf s.tmps o.dst r,s.L,s.H⟩):WV b k o (.func f) a e s F:=
 ZjS g rfl (by rw[Qu,i];exact h) l
def o200:Opt:=⟨false,false,fun d=>if d=41 then .heap else .auto,[]⟩
def ZoC(l:List Int):∀c∈flat (l.map eInt),c.sc=true:=fun c a=>by
 obtain⟨x,b,a⟩:=QI.1 a;obtain⟨y,_,rfl⟩:=Qg.1 b;simp only[eInt,AV.cells,Qo]at a;subst a;rfl
def Zud(i:Str)(ls:List (List Int))(N:Nat)(V:ls.length=N+1)(U:N+1<=1000)(n l:Nat)(H:Za):Zoc (n+1) l ls.length 3 1 eInt (Zby i ls n l H) (JX i) (fun σ _=>σ.2=false/\σ.1.length<=1000):=by
 have C:ZW (fun p=>Below (n+1) p.2) (J4 ls n):=⟨ZaT ⟨ZN (ZhH _),trivial⟩,.ptr _ _ _ (Qq n),.ptr _ _ _ (Qq n),trivial⟩
 refine⟨fun m G σ row hok hm hrl hA h7=>?_,fun σ σ' a b x ha s=>?_,fun x=>⟨rfl,fun m c z=>by simp only[eInt,AV.cells,Qo]at z;subst z;exact .int _ _⟩⟩
 ·obtain⟨S,b⟩:=σ;obtain⟨A,P⟩:=hok;simp only at A P;subst A;have k:G n 100=some (.lrec l Tryz.f410.ntmps 411 (J4 ls n) #[29] c200.fst.fst c200.fst.snd .ready none):=(hA n 100 (Qq n)).trans (by simp[Zby,full,Zbo,Zf2,setb,lkb]);have E:G n 26=some (.map (encI S)):=(hA n 26 (Qq n)).trans (by simp[Zby,full,Zbo,Zf2,setb,lkb]);have M:G n 8=some (.box [.map n 26]):=(hA n 8 (Qq n)).trans (by simp[Zby,full,Zbo,Zf2,setb,lkb]);have J:G n 2=some (.box [.str i]):=(hA n 2 (Qq n)).trans (by simp[Zby,full,Zbo,Zf2,setb,lkb]);refine ZgJ tt (x:=n) (y:=100) (Zf func410 rfl rfl).get k om rfl dc fun R=>?_
  show AKc _ _ _ ⟨(29,.msl 1 (n+1) 7 ls.length)::J4 ls n,[],G⟩;unfold J4;refine gd ?_;refine⟨rfl,k,?_⟩;refine aS ?_;obtain⟨j,hG1⟩:∃j,j=G.upd n 100 (.lrec l Tryz.f410.ntmps 411 (J4 ls n) #[29] c200.fst.fst c200.fst.snd .busy none):=⟨_,rfl⟩
  have o:j n 26=some (.map (encI S)):=by rw[hG1,Za.upd_ne _ _ sm];exact E
  have w:j n 8=some (.box [.map n 26]):=by rw[hG1,Za.upd_ne _ _ sm];exact M
  have D:j n 2=some (.box [.str i]):=by rw[hG1,Za.upd_ne _ _ sm];exact J
  have B:j (n+1) 7=some (.Zg 3 1 (flat (row.map eInt)) ls.length):=by rw[hG1,Za.upd_ne _ _ sm];exact h7
  have t:¬n=m:=om;have I:¬n+1=m:=om;change AKc _ _ _ ⟨_,[],G.upd n 100 (.lrec l Tryz.f410.ntmps 411 (J4 ls n) #[29] c200.fst.fst c200.fst.snd .busy none)⟩;rw[<-hG1];refine nq2 D t ?_;refine Ztf (Zf func437 rfl rfl) (Zn9 (pre:=[.str i]) (Zwo i row om) ((Zi hm _ _ _).trans B) om (by simp[hrl]) (Zn om) (fun x s=>by obtain⟨y,_,rfl⟩:=Qg.1 s;rfl) (ZoC row) (by simp[AV.sc]) (by simp[AV.sc])) sS ?_;refine aS ?_;have d:=fun T b=>Zr2 (T:=T) (b:=b) hA
  rw[<-hG1]at d;have g:j n 100=some (.lrec l Tryz.f410.ntmps 411 (J4 ls n) #[29] c200.fst.fst c200.fst.snd .busy none):=by rw[hG1,Za.upd_same]
  cases z:X3 i row with
  |none=>
   have e:JX i (S,false) row=some (S,false):=by unfold JX Zak;rw[z];rfl
   refine nr ?_;simp only[go_sem,simprocAttr,Option.isSome];refine nF ?_;refine nN ?_;refine⟨g,(S,false),e,rfl,?_⟩;have:=d S false;rw[Z7 o]at this;exact this
  |some v=>
   refine nr ?_;simp only[go_sem,simprocAttr,Option.isSome,Option.getD];refine nT ?_;refine nq3 w t o ?_;rw[Zsh];refine⟨⟨rfl,ZpG S⟩,.inr (ZaR _),?_⟩;obtain⟨T,hT⟩:∃T,T=Zdt S v:=⟨_,rfl⟩
   have K:T.length<=S.length+1:=hT▸Zpr;have e:JX i (S,false) row=if 1000<T.length then none else some (T,false):=by
    unfold JX Zak;rw[z,hT];simp only;split<;>rfl
   rw[<-hT];refine Zfa 402 tok o200 rfl (pre:=[_,_]) (post:=[]) rfl rfl rfl rfl ?_;have F:(j.upd n 26 (.map (encI T))) n 8=some (.box [.map n 26]):=by rw[Za.upd_ne _ _ sm];exact w
   have u:full m [] (j.upd n 26 (.map (encI T))) n 26=some (.map (encI T)):=(Zi om _ _ _).trans (Za.upd_same ..);have f:(j.upd n 26 (.map (encI T))) n 100=some (.lrec l Tryz.f410.ntmps 411 (J4 ls n) #[29] c200.fst.fst c200.fst.snd .busy none):=by rw[Za.upd_ne _ _ sm];exact g
   simp only[go_sem,simprocAttr,o200,t,F];refine Step.look (Zmn (re:=_) tok rfl rfl rfl u) ?_;rw[Zj1];simp only[go_sem,simprocAttr,o200];refine JG (Zf func434 rfl rfl) (e232 (m+1) _ (T.length:Int)) sS ?_ ?_
   ·rintro r O ⟨Q,rfl,rfl⟩;refine⟨_,_,rfl,.refl _ _,?_⟩;rw[if_neg om]at e;refine gO ?_;exact⟨f,(T,false),e,rfl,d T false⟩
   ·rintro O ⟨L,rfl⟩;refine⟨_,_,rfl,.refl _ _,?_⟩;rw[if_pos om]at e;refine⟨rfl,e,(T,true),?_⟩;have:=d T true;rw[if_pos rfl,Z7 f]at this;exact this
 ·unfold Zby full at s⊢;by_cases h:a=n
  ·rw[if_pos h]at s;have A:ZW (fun q:Nat×Ze=>q.2.Below (n+1)) (Zbo i ls n l σ'):=
    ⟨ZaR _,Ze.Zy ⟨.map _ _ (Qq n),trivial⟩,Ze.Zy ⟨.str _,trivial⟩,Ze.ZaS C,trivial⟩
   exact .inr (A.mem _ (lkb_mem s))
  ·rw[if_neg h]at s⊢;exact .inl s
def Zvg(b:Str)(a:List LT)(n:Nat)(H:Za)(i:Nat):Zc:=
 ⟨[(16,.int .i64 i),(15,.int .i64 a.length),(14,.sl 1 (a.map eTs) .any),(5,.sl 1 (((a.take i).map Yl).map eIs) (.buf n 200)),(2,.ptr n 2 0)],[(200,.buf 197 1 i),(2,.box [.str b])],H⟩
def ZiW(S:List Int)(i:Nat):Int:=S.getD i 0
def Zl6(S:List Int):(List.range S.length).map (ZiW S)=S:=by
 apply Gv
 ·simp
 ·intro i b a;simp[ZiW,a]
def ZqV(S:List Int)(n:Nat)(H:Za)(a:List Nat):Zc:=
 ⟨[(44,.ptr n 44 0),(12,.msl 4 n 201 a.length)],[(44,.iter n 26 S.length a),(201,.Zg 25 4 (flat (((a.map (ZiW S)).map Vp).map Tm.enc)) a.length),(26,.map (encI S))],H⟩
def Zw2(P:Str)(K:List LT)(n:Nat)(H:Za)(S:List Int)(hS:(Z9 (K.map Yl)).foldlM (Zak P) []=some S)(B:Base):
  AKc ⟨prog,tt,⟨none,B⟩,n,Tryz.f410.ntmps⟩ [.code (Zz Tryz.f410).snd.snd.snd.snd.snd] (Zeg prog tt 402 n Tryz.f410.results.toList (fun r R=>∃l,Zbt P K=some l/\r= .sl 4 (l.map Tm.enc) .any/\R=H) (fun R=>Zbt P K=none/\R=H))
   ⟨[(8,.ptr n 8 0)],[(26,.map (encI S)),(8,.box [.map n 26])],H⟩:=by
 obtain⟨W,ax,_⟩:=ZdG Qac sm hS;have t:=Zj1 S;have F:∀j (h:j<S.length),(encI S).getD j (.dead,.dead)=(.int .i64 S[j],.int .i64 S[j]):=fun j h=>by
  rw[Qk];simp[encI,ZaV,h,eInt]
 refine gk ?_;refine Jp 12 201 25 4 rfl rfl ?_;refine Zap (fun m st=>∃b:List Nat,b.Nodup/\(∀i∈b,i<S.length)/\m=S.length - b.length/\st=ZqV S n H b) (m0:=S.length) (s0:=ZqV S n H []) rfl ?_ ⟨[],sm,sm,sm,rfl⟩ ?_
 ·rw[t];exact KK
 rintro m st ⟨b,v,s,rfl,rfl⟩;refine ZV rfl ?_;have Y:b.length<=S.length:=by
  have:=XV v (q:=List.range S.length) (fun i hi=>by simpa using s i hi);simpa using this
 refine nR ?_;refine⟨44,n,26,encI S,b,rfl,by simp only[go_sem,simprocAttr,t],sS,fun hall=>?_,fun i hi N=>?_⟩
 ·refine aS ?_;refine gg ?_;have d:(b.map (ZiW S)).Perm S:=by
   conv=>rhs;rw[<-Zl6 S]
   refine List.Perm.map _ ((Qa8 v Qbm).2 fun i=>?_);rw[Gm];exact⟨s i,fun h=>hall i om⟩
  obtain⟨w,hxs⟩:∃w,w=(b.map (ZiW S)).map Vp:=⟨_,rfl⟩
  have G:b.length=w.length:=by rw[hxs];simp
  rw[<-hxs,G];obtain⟨D,aw,J⟩:=ZoS hS (hxs▸d.map Vp);refine kK ?_;refine Yz 402 tok (pre:=[_]) (post:=[_]) rfl rfl rfl rfl ?_;refine aS ?_;refine JG (Zf func438 rfl rfl) (Zwp (n+1) _ n 201 (Qq n) w J om (by simp[full,lkb])) sS ?_ ?_
  ·rintro r H1 ⟨_,hq⟩;have C:∀p∈[(44,Ze.iter n 26 S.length b),(26,Ze.map (encI S))],p.2.Inside n (fun k=>k≠201):=fun p d=>by
    simp only[Ql,QA,or_false]at d;rcases d with rfl|rfl
    ·exact⟨by simp[Ze.avs],fun q' hq=>by simp only[Ze.at_,Qo]at hq;subst hq;exact .inr ⟨rfl,show(26:Nat)≠201 by decide⟩⟩
    ·exact⟨fun c u=>((ZaR (n:=n) S).1 c u).inside,by simp[Ze.at_]⟩
   generalize X5 cmpT w=U at*;rcases hq with⟨rfl,e,rfl⟩|⟨rfl,X,az,rfl⟩
   ·refine⟨_,H,(Zm n _ H 201 _).symm,.refl _ _,?_⟩;refine aS ?_;refine ZJ (YV (tm':=[(4,.sl 4 (U.map Tm.enc) .any)]) (j:=201) (U.map Tm.enc) rfl rfl (by simp[e]) (ZmQ U) (ZeA U).mem (fun p d=>?_) C) ?_
    ·simp only[Ql,QA,or_false]at d;subst d;exact .inr ⟨4,rfl,rfl⟩
    refine nV ?_;exact Vt (Zq (.refl _) (ZB _) ⟨U,D,rfl,rfl⟩)
   ·refine⟨_,H,(Zm n _ H 201 _).symm,.refl _ _,?_⟩;refine aS ?_;refine ZJ (Jw (tm':=[(4,.sl 4 (U.map Tm.enc) .any)]) (j:=201) (U.map Tm.enc++List.replicate (w.length - U.length) zTm) rfl rfl (by simp;omega) (fun x hx=>?_) (fun c u=>?_) (fun p d=>?_) C) ?_
    ·rcases Qr.1 hx with hx|hx
     ·exact ZmQ U x hx
     ·rw[(Ue.1 hx).2];rfl
    ·obtain⟨z,hz,u⟩:=QI.1 u;rcases Qr.1 hz with hz|hz
     ·exact(ZeA U).mem c (QI.2 ⟨z,hz,u⟩)
     ·rw[(Ue.1 hz).2]at u;exact ZW.mem (l:=zTm.cells) (p:=fun c=>Inside n (fun k=>k≠201) c) ⟨.int _ _,.int _ _,.str _,inZ,trivial⟩ c u
    ·simp only[Ql,QA,or_false]at d;subst d;exact .inr (.inr ⟨0,U.length,rfl,by rw[Qab,Gq sm]⟩)
    refine nV ?_;exact Vt (Zq (.refl _) (ZB _) ⟨U,D,rfl,rfl⟩)
  ·rintro H1 ⟨ay,_⟩;omega
 ·have f:i<S.length:=om;have A:=F i f;refine aq A ?_;refine nT ?_;obtain⟨I,L,het⟩:∃I L,b++[i]=I::L:=by
   cases b with
   |nil=>exact⟨i,[],rfl⟩
   |cons x y=>exact⟨x,y++[i],rfl⟩
  have V:∀p,(I::L).getLast p=i:=fun p=>by
   have:∀(l:List Nat) (q:l≠[]),l=b++[i]->l.getLast q=i:=fun l q e=>by subst e;simp
   exact this _ p het.symm
  rw[het];refine nq3 t V A ?_;refine⟨f,?_⟩;refine nR ?_;refine XY (Zf func435 rfl rfl) (e233 S[i]) sS ?_;refine aS ?_;refine⟨rfl,⟨Zn om,om⟩,?_⟩;rw[<-het];refine nN ?_;have g:(b++[i]).Nodup:=G5.2 ⟨v,sm,fun x hx y Z e=>by
   simp only[Qo]at Z;subst Z;subst e;exact N hx⟩
  have o:∀x∈b++[i],x<S.length:=fun x hx=>by
   rcases Qr.1 hx with hx|hx
   ·exact s x hx
   ·simp only[Qo]at hx;subst hx;exact f
  have Q:(b++[i]).length=b.length+1:=sm;have E:=XV g (q:=List.range S.length) (fun x hx=>by simpa using o x hx);simp only[Qh,Qm,Qz,GK,Qy]at E;have M:flat (((b.map (ZiW S)).map Vp).map Tm.enc)++flat [(Vp S[i]).enc]=flat ((((b++[i]).map (ZiW S)).map Vp).map Tm.enc):=by
   have O:ZiW S i=S[i]:=by simp[ZiW,f]
   rw[<-YJ,QM,QM,QM,Qs,O];rfl
  rw[M];refine⟨S.length - (b++[i]).length,ZqV S n H (b++[i]),by simp only[Qh,Qm,Qz];omega,?_,b++[i],g,o,rfl,rfl⟩;apply kZ;repeat' first|apply q0|exact xx|apply aI
  all_goals first|exact Zkh S|exact Zez rfl|exact .msl _ _ _ _ (.inr ⟨rfl,rfl⟩)|(intro a ha;simp[Ze.avs]at ha;done)|(intro q hq;simp only[Ze.at_,Qo]at hq;subst hq;exact .inr ⟨rfl,rfl⟩)|exact ZeA _|(simp only[go_sem,simprocAttr,Q];try exact .refl _)
def Zwm(op:Str)(e:List LT)(N:Nat)(F:e.length=N+1)(hl:N+1<=1000)(hq:∀q∈e,q.length<=1000000)(n:Nat)(H:Za)(I:0<n)(m:Tabs H):
  ZY prog 402 n 410 [.str op,.sl 1 (e.map eTs) .any] H (fun r C=>∃l,Zbt op e=some l/\r= .sl 4 (l.map Tm.enc) .any/\C=H) (fun C=>Zbt op e=none/\C=H):=by
 have hso:∀(q:Nat->Prop) (r:List (List Int)),q 200->Inside n q (.sl 1 (r.map eIs) (.buf n 200)):=fun q r h=>Abs.YF (mB fun u=>Zae n u) h
 refine Zf6 (T:=tt) tok (Zf func410 rfl rfl) sm fun B=>?_
 refine Zh6 tt (d:=(Zz Tryz.f410).snd.snd.snd.snd) [(Zz Tryz.f410).fst,(Zz Tryz.f410).snd.fst,(Zz Tryz.f410).snd.snd.fst,(Zz Tryz.f410).snd.snd.snd.fst] rfl ?_;show AKc _ [.code _,.code _,.code _,.code _] _ _;refine gz ?_;refine XL 5 200 197 1 rfl rfl ?_;refine Zx (Zvg op e n H) e.length rfl ?_ ?_
 ·exact KK
 intro i G;refine ZV rfl ?_;rcases Qd i e.length with h|h
 ·refine nr ?_;simp only[go_sem,simprocAttr,h];refine gH ?_;simp only[go_sem,simprocAttr,getD_map eTs _ _ h,h];refine nr ?_;simp only[go_sem,simprocAttr,eTs];refine XY (Zf func409 rfl rfl) (e199 e[i] (hq _ (Qa h))) sS ?_;have w:(e.take i).length=i:=by rw[QJ];omega
  have y:((e.take i).map Yl).map eIs++[AV.sl 1 ((Yl e[i]).map eInt) .any]=((e.take (i+1)).map Yl).map eIs:=by rw[Qn h,QM,QM];rfl
  refine aq2 w y ?_;refine⟨rfl,⟨Zn om,om⟩,?_⟩;refine gd ?_;exact KK
 ·have x:i=e.length:=om;subst x;refine nr ?_;simp only[go_sem,simprocAttr,Un];refine gG ?_;refine Zix (show Zbw _ _ _ _ _ _ _ _ from ?_);have s:(e.take e.length).map Yl=e.map Yl:=by rw[QV]
  rw[s];obtain⟨ls,hls⟩:∃ls,ls=e.map Yl:=⟨_,rfl⟩
  have p:ls.length=N+1:=by rw[hls,Qv,F]
  have o:∀q∈ls,q.length<=1000000:=fun q j=>by
   rw[hls]at j;obtain⟨u,E,rfl⟩:=Qg.1 j;unfold Yl;rw[Qv];exact UA (U0 _ _) (hq u E)
  rw[<-hls];refine Zdo rfl (Zdo rfl (ZrR (T:=tt) ?_));refine nR ?_;refine cQ (Zh.args (e234 ls (n+1) _) (args':=[.sl 1 (ls.map eIs) (.buf n 200)]) ⟨.any _ _ _,trivial⟩) ?_;refine aS ?_;refine Zix (show Zbw _ _ _ _ _ _ _ _ from ?_);refine Zeb (s':=⟨J4 ls n,Zf2 op n [],H⟩) ?_ ?_
  ·unfold J4 Zf2;apply kZ;repeat' first|apply q0|exact xx|apply aI
   all_goals first|exact Below.inside (v:=.fn (.func 453) [.iptr [.sl 1 (ls.map eIs) .any]]) (ZaT ⟨ZN (ZhH _),trivial⟩)|exact Zez rfl
  refine ZfT rfl ?_;refine ZbA (t:=402) (T:=tt) (caps:=[.iptr [.sl 1 (ls.map eIs) .any]]) 100 rfl (by unfold J4;simp only[go_sem,simprocAttr]) (Zf func453 rfl rfl) rfl fun l=>?_
  have z:∀pr r po c,Z9 ls=pr++r::po->pr.foldlM (JX op) ([],false)=some c->c.2=false/\c.1.length<=1000:=fun pr r po c e1 e2=>by
   rw[ZdH]at e2;obtain⟨T,m,rfl⟩:=Ur.1 e2;exact⟨rfl,(ZdG Qac sm m).2.1⟩
  refine⟨_,_,e257 (n:=n+1) (l:=l) (A:=Zby op ls n l H) (step:=JX op) (ok:=fun σ _=>σ.2=false/\σ.1.length<=1000) _ ls om o (Zud op ls N p hl n l H) ([],false) (fun a b _=>rfl) z,?_,?_⟩
  ·rintro r D ⟨c,g,rfl⟩;obtain⟨S,rfl,k⟩:∃S,c=(S,false)/\(Z9 ls).foldlM (Zak op) []=some S:=by
    have f:(Z9 ls).foldlM (JX op) ([],false)=some c:=by unfold WM at g;simpa using g
    rw[ZdH]at f;obtain⟨T,m,rfl⟩:=Ur.1 f;exact⟨T,rfl,m⟩
   refine⟨Zbo op ls n l (S,false),H,.ready,Zfc (op:=op) (ls:=ls) (n:=n) (l:=l) (H:=H) ([],false) (S,false),.refl _ _,rfl,sm,?_⟩;refine ZjC (ZrR (T:=tt) ?_);refine ZJ (s':=⟨[(8,.ptr n 8 0)],[(26,.map (encI S)),(8,.box [.map n 26])],H⟩) ?_ ?_
   ·unfold J4 Zbo Zf2;exact KK
   rw[hls]at k;exact Zw2 op e n H S k B
  ·rintro D ⟨g,c,rfl⟩;have k:(Z9 ls).foldlM (Zak op) []=none:=by
    have f:(Z9 ls).foldlM (JX op) ([],false)=none:=by unfold WM at g;simpa using g
    rw[ZdH]at f;simpa using f
   rw[hls]at k;exact⟨Zbo op ls n l c,H,Zfc (op:=op) (ls:=ls) (n:=n) (l:=l) (H:=H) ([],false) c,.refl _ _,rfl,ZoR k,rfl⟩
end
theorem expSs_append:∀(p:LT) (u:Tm),expandS.expandSs (p++[u])=(expandS.expandSs p).bind fun a=>(expandS u).bind fun q=>some (a++[q])
 |[],u=>by
  simp only[QG,expandS.expandSs];cases expandS u<;>rfl
 |t::r,u=>by
  simp only[QN,expandS.expandSs,expSs_append r u];cases expandS t with
  |none=>rfl
  |some p=>
   simp only[UY];cases expandS.expandSs r with
   |none=>rfl
   |some a=>cases expandS u<;>rfl
theorem ZlT{l:LT}{i:Nat}(h:i<l.length)(e:expandS l[i]=none):expandS.expandSs l=none:=by
 cases b:expandS.expandSs l with
 |none=>rfl
 |some ps=>
  obtain⟨q,_,a⟩:=(expandSs_fa b).left (Qa h);rw[e]at a;cases a
def Zva(t:Tm)(a:List LT):Option LT:=if t.kind=6 then WG (Yl (a.getD 0 [])) (Yl (a.getD 1 []))else if t.kind=5 then Zbt t.name a else Zey t.name a
def ZlU(t:Tm)(h:t.args≠[]):expandS t=(expandS.expandSs t.args).bind (Zva t):=by
 cases t with|mk k n s a=>
 cases a with
 |nil=>exact absurd rfl h
 |cons u r=>rw[expandS];rfl
def ZiL{t:Tm}(h:t.args=[]):expandS t=some [t]:=by
 cases t with|mk k n s a=>
 simp only[Tm.args]at h;subst h;exact ZaW
def ZqU(t:Tm)(a:List LT)(n:Nat)(H:Za)(i:Nat):Zc:=
 ⟨[(16,.int .i64 i),(15,.int .i64 t.args.length),(14,.sl 4 (t.args.map Tm.enc) .any),(3,.sl 1 (a.map eTs) (.buf n 200)),(1,.ptr n 1 0)],[(200,.buf 23 1 a.length),(1,.box t.cs)],H⟩
def Zkl{l:LT}(h:∀v∈l,v.all okv=true):∀x∈Yl l,-2147483648<=x/\x<=2147483648:=fun x a=>by
 have:=Zh2 h x a;unfold Y6 at this;rw[Qb,decide_eq_true_eq,decide_eq_true_eq]at this;omega
def Zkm(l:LT):(Yl l).length<=l.length:=by unfold Yl;rw[Qv];exact U0 _ _
def e154(t:Tm)(M:t.Good)(R:t.all okG=true)(n:Nat)(H:Za)(J:0<n)(G:Tabs H):
  ZY prog 402 n 378 [t.enc] H (fun r f=>∃l,expandS t=some l/\r= .sl 4 (l.map Tm.enc) .any/\f=H) (fun f=>expandS t=none/\f=H):=by
 have hl:=M.len;have ih:∀u∈t.args,∀(n:Nat) (H:Za),0<n->Tabs H->ZY prog 402 n 378 [u.enc] H (fun r f=>∃l,expandS u=some l/\r= .sl 4 (l.map Tm.enc) .any/\f=H) (fun f=>expandS u=none/\f=H):=
  fun u A n H J G=>e154 u (M.arg A) (Xx (by cases t;exact R) A) n H J G
 have ho:∀(q:Nat->Prop) (r:List LT),q 200->Inside n q (.sl 1 (r.map eTs) (.buf n 200)):=fun q r h=>Abs.YF (mB fun u=>Zaf n u) h
 refine xF func378 fun B=>?_
 refine nR ?_;by_cases E:t.args=[]
 ·have s:((t.args.length:Int)==0)=true:=by rw[E];rfl
  refine nq s ?_;refine gi ?_;refine cP (Ztl t M) ?_;refine⟨rfl,?_⟩;refine nV ?_;exact Vt (Zq (v:=.sl 4 ([t].map Tm.enc) .any) (.any _ _ _) (ZB [t]) ⟨[t],ZiL E,rfl,rfl⟩)
 have U:0<t.args.length:=G9.2 E;have s:((t.args.length:Int)==0)=false:=by simp;omega
 have b:=ZlU t E;refine nq s ?_;refine nF ?_;refine gk ?_;refine XL 3 200 23 1 rfl rfl ?_;refine Zap (fun S W=>∃i a,i<=t.args.length/\S=t.args.length - i/\expandS.expandSs (t.args.take i)=some a/\a.length=i/\W=ZqU t a n H i) (m0:=t.args.length) (s0:=ZqU t [] n H 0) rfl ?_ ⟨0,[],Us _,rfl,rfl,rfl,rfl⟩ ?_
 ·exact KK
 rintro S W ⟨i,a,hi,rfl,e,c,rfl⟩;refine ZV rfl ?_;rcases Qd i t.args.length with h|h
 ·refine nq h ?_;refine nT ?_;refine nq2 (Tm.Zw _ _ h) h ?_;refine kK ?_;refine Yz 402 tok (pre:=[_,_]) (post:=[_,_,_]) rfl rfl rfl rfl ?_;refine aS ?_;refine JG (Zf func378 rfl rfl) (ih _ (Qa h) (n+1) _ (UR _) (G.full J)) sS ?_ ?_
  ·rintro r x ⟨q,hq,rfl,rfl⟩;refine⟨_,_,rfl,.refl _ _,?_⟩;have Z:(a.map eTs)++[eTs q]=(a++[q]).map eTs:=by rw[QM];rfl
   refine aS ?_;refine⟨by first|exact⟨rfl,dc⟩|exact rfl,⟨Zn om,om⟩,?_⟩;change AKc _ _ _ ⟨(3,.sl 1 ((a.map eTs)++[eTs q]) (.buf n 200))::_,_,_⟩;rw[Z];refine gd ?_;have C:expandS.expandSs (t.args.take (i+1))=some (a++[q]):=by
    rw[Qn h,expSs_append,e,hq];rfl
   have d:(a++[q]).length=i+1:=by simp[c]
   refine⟨t.args.length - (i+1),ZqU t (a++[q]) n H (i+1),om,?_,i+1,a++[q],h,rfl,C,d,rfl⟩;apply kZ;repeat' first|apply q0|exact xx|apply aI
   all_goals first|exact(ZB _).inside|exact ho _ _ rfl|exact xI|(simp only[go_sem,simprocAttr,d,c];done)|skip
   trace_state
  ·rintro x ⟨hq,rfl⟩;refine⟨_,_,rfl,.refl _ _,?_⟩;refine WU ⟨rfl,?_,rfl⟩ _;rw[b,ZlT h hq];rfl
 ·have P:i=t.args.length:=om;subst P;rw[QV]at e;rw[e]at b;have D:=expandSs_fa e;have d:=c;have g:∀q∈a,q.length<=1000000:=fun q hq=>by
   obtain⟨u,A,y⟩:=D.right hq;have:=Zc5 y;omega
  have j:∀q∈a,∀v∈q,v.all okv=true:=fun q hq v hv=>by
   obtain⟨u,A,y⟩:=D.right hq;exact(expand_val u (Xx (by cases t;exact R) A) q y v hv).1
  refine nr ?_;simp only[go_sem,simprocAttr,Un];refine gg ?_;refine gh ?_;refine nR ?_;have F:=Zig (YZ R);have Q:1<=t.args.length/\t.args.length<=8:=by
   rcases F with⟨_,_,h⟩|⟨_,_,_,_,h⟩|⟨_,h⟩|⟨_,h⟩
   ·exact absurd h E
   ·exact h
   ·omega
   ·omega
  obtain⟨N,hN⟩:∃N,a.length=N+1:=⟨a.length - 1,om⟩
  rw[UY]at b;unfold Zva at b;by_cases L:t.kind=6
  ·have O:(t.kind==6)=true:=by simp[L]
   have z:t.args.length=2:=by
    rcases F with⟨_,h,_⟩|⟨_,h,_⟩|⟨h,_⟩|⟨_,h⟩<;>omega
   obtain⟨p,q,rfl⟩:∃p q,a=[p,q]:=by
    rw[z]at c
    match a,c with
    |[p,q],_=>exact⟨p,q,rfl⟩
   rw[if_pos L]at b;change expandS t=WG (Yl p) (Yl q)at b;have o:=g p sm;have m:=g q sm;have k:=fun n H=>Zwl n H (Yl p) (Yl q) (UA (Zkm p) o) (UA (Zkm q) m) (Zkl (j p sm)) (Zkl (j q sm))
   rw[O];refine nT ?_;refine kK ?_;cases I:WG (Yl p) (Yl q)with
   |none=>
    refine Zp6 402 tok mixed drawO rfl (pre:=[_,_,_,_,_,_,_,_]) (post:=[_]) rfl rfl rfl rfl ?_;simp only[go_sem,simprocAttr,eTs];refine cP (e199 p o) ?_;refine cP (e199 q m) ?_;refine nN ?_;refine JG (Zf func408 rfl rfl) (k (n+1) _) sS ?_ ?_
    ·rintro r x ⟨l,hl,_⟩;rw[I]at hl;cases hl
    ·rintro x ⟨hl,rfl⟩;exact⟨_,_,rfl,.refl _ _,rfl,b.trans I,rfl⟩
   |some l=>
    refine nD drawO ?_;simp only[go_sem,simprocAttr,eTs];refine cP (e199 p o) ?_;refine cP (e199 q m) ?_;refine XY (Zf func408 rfl rfl) (r:=.sl 4 (l.map Tm.enc) .any) (fun n H=>(ZY.ret (k n H) (fun f h=>by rw[I]at h;cases h.1)).mono fun r f h=>by
     obtain⟨l',V,X,Y⟩:=h;rw[I]at V;cases V;exact⟨X,Y⟩) sS ?_
    refine gw ?_;exact Vt (Zq (.refl _) (ZB _) ⟨l,b.trans I,rfl,rfl⟩)
  have O:(t.kind==6)=false:=by simp[L]
  rw[if_neg L]at b;rw[O];refine gv ?_;by_cases K:t.kind=5
  ·have w:(t.kind==5)=true:=by simp[K]
   rw[if_pos K]at b;rw[w];refine nT ?_;refine kK ?_;refine Yz 402 tok (pre:=[_,_,_]) (post:=[_]) rfl rfl rfl rfl ?_;refine aS ?_;refine JG (Zf func410 rfl rfl) (ZY.wk (args:=[.str t.name,.sl 1 (a.map eTs) (.buf n 200)]) (Zwm t.name a N hN om g (n+1) _ (UR _) (G.full J)) ⟨.refl _,.any _ _ _,trivial⟩) sS ?_ ?_
   ·rintro r x ⟨l,hl,rfl,rfl⟩;refine⟨_,_,rfl,.refl _ _,?_⟩;refine gw ?_;exact Vt (Zq (.refl _) (ZB _) ⟨l,b.trans hl,rfl,rfl⟩)
   ·rintro x ⟨hl,rfl⟩;exact⟨_,_,rfl,.refl _ _,rfl,b.trans hl,rfl⟩
  have w:(t.kind==5)=false:=by simp[K]
  rw[if_neg K]at b;rw[w];refine gu ?_;refine Yz 402 tok (pre:=[_,_,_]) (post:=[_]) rfl rfl rfl rfl ?_;refine aS ?_;refine JG (Zf func411 rfl rfl) (ZY.wk (args:=[.str t.name,.sl 1 (a.map eTs) (.buf n 200)]) (Zwn t.name a N hN om g (n+1) _ (UR _) (G.full J)) ⟨.refl _,.any _ _ _,trivial⟩) sS ?_ ?_
  ·rintro r x ⟨l,hl,rfl,rfl⟩;refine⟨_,_,rfl,.refl _ _,?_⟩;refine gw ?_;exact Vt (Zq (.refl _) (ZB _) ⟨l,b.trans hl,rfl,rfl⟩)
  ·rintro x ⟨hl,rfl⟩;exact⟨_,_,rfl,.refl _ _,rfl,b.trans hl,rfl⟩
termination_by SizeOf.sizeOf t
decreasing_by exact Tm.Xp A
def e197(t:Tm):Pure prog 407 [t.enc] (.bool (!(t.kind==3))):=by
 intro n H;refine aF func407 fun B=>?_
 refine gc ?_;exact pB
def e152(t:Tm)(a:t.Good):Yb prog 376 [t.enc] (.bool (grT t)):=by
 intro n H hn hT;refine aF func376 fun B=>?_
 refine gc ?_;refine cT (a71 t a 407 (fun u=>!(u.kind==3)) ⟨⟨_,_,Zf func407 rfl rfl⟩,fun u _=>Abs.Pure.tabs (e197 u)⟩) ?_;refine Zk rfl rfl ?_;refine Zb ?_ (.bool _) rfl;try simp only[go_sem,simprocAttr,grT]
 exact .refl _
def ZuF(n:Nat)(H:Za):Zbz prog (n+1) 377 [.ptr n 2 0,.ptr n 3 0] H .returning (fun a=>a=H):=by
 refine Zf8 (t:=402) (x:=.nili) tok (Zf func377 rfl rfl) sm rfl rfl rfl rfl rfl (.inl ⟨rfl,rfl⟩) fun B=>?_
 refine gP ?_;refine nF ?_;refine nN ?_;exact⟨.inl rfl,rfl⟩
def ZuE(n:Nat)(H:Za)(x:AV)(c:Int)(d:H n 2=some (.box [x]))(g:H n 3=some (.box [.int .i64 c])):Zbz prog (n+1) 377 [.ptr n 2 0,.ptr n 3 0] H (.panicking (ch 402)) (fun f=>f=(H.upd n 2 (.box [.sl 4 [] .full])).upd n 3 (.box [.int .i64 5])):=by
 refine Zf8 (t:=402) (x:=.ifc 402 (.agg [])) tok (Zf func377 rfl rfl) sm rfl rfl rfl rfl rfl (.inr ⟨rfl,rfl⟩) fun B=>?_
 refine gP ?_;refine nT ?_;have b:∀y,H.upd n 2 y n 3=some (.box [.int .i64 c]):=fun y=>by rw[Za.upd_ne _ _ sm];exact g
 have a:¬n=n+1:=om;refine nq3 d b a ?_;refine⟨.inr (Ze.Zy ⟨YR (fun _ h=>by cases h) (fun _ _ e=>by cases e),trivial⟩),.inr (Ze.Zy ⟨.int _ _,trivial⟩),?_⟩;refine nN ?_;exact⟨.inl rfl,rfl⟩
def Zbz.mono{P:Program}{m f:Nat}{a:LA}{H:Za}{u:FrameMode}{Q c:Za->Prop}(h:Zbz P m f a H u Q)(g:∀b,Q b->c b):Zbz P m f a H u c:=fun E w d j i=>
 (h E w d j i).mono fun e u' w' ⟨h1,h2,b,E',h3,h4⟩=>⟨h1,h2,b,E',g _ h3,h4⟩
def mc(t:Tm)(n:Nat)(l:LT)(c:Int)(r:AV):List (Nat×Ze):=[(200,.Zg 25 4 (flat (l.map Tm.enc)) l.length),(3,.box [.int .i64 c]),(2,.box [r]),(1,.box t.cs)]
def Zd8(n:Nat):LN:=[(3,.ptr n 3 0),(2,.ptr n 2 0),(1,.ptr n 1 0)]
def ZfN{n:Nat}{H:Za}{s:Zc}{v:AV}{xs:LT}{c:Int}(e:lkv s.tmps 2= .ptr n 2 0)(b:lkv s.tmps 3= .ptr n 3 0)(h:lkb s.L 2=some (.box [v]))(f:lkb s.L 3=some (.box [.int .i64 c]))(hv:Wk v (.sl 4 (xs.map Tm.enc) .any))(g:s.H=H):
  PostF prog tt n Tryz.f314.results.toList (fun r H'=>r= .tup [.sl 4 (xs.map Tm.enc) .any,eInt c]/\H'=H) .ret s:=by
 have a:full n s.L s.H n 2=some (.box [v]):=by simp[full,h]
 have d:full n s.L s.H n 3=some (.box [.int .i64 c]):=by simp[full,f]
 show PostF prog tt n [.cell 2 23,.cell 3 41] _ .ret s;refine⟨fun x hx=>?_,[.sl 4 (xs.map Tm.enc) .any,.int .i64 c],⟨?_,?_,trivial⟩,?_,rfl,g⟩
 ·simp only[Ql,QA,or_false]at hx;rcases hx with rfl|rfl
  ·exact⟨n,2,0,_,_,e,a,rfl,Qi _,fun _=>Nat.zero_lt_one⟩
  ·exact⟨n,3,0,_,_,b,d,rfl,Qi _,fun _=>Nat.zero_lt_one⟩
 ·have:Zbx s.tmps s.H n s.L tt (.cell 2 23)=v:=by
   simp only[Zbx,e,a];rfl
  rw[this];exact hv
 ·have:Zbx s.tmps s.H n s.L tt (.cell 3 41)= .int .i64 c:=by
   simp only[Zbx,b,d];rfl
  rw[this];exact .refl _
 ·intro x hx;simp only[Ql,QA,or_false]at hx;rcases hx with rfl|rfl
  ·exact ZB _
  ·exact .int _ _
def ZtC(n:Nat):Opt:=⟨true,true,fun d=>if d=27 then .heap else if d=28 then .at_ n 200 else if d=2 then .at_ n 2 else .auto,[]⟩
theorem e100:ExpOK:=by
 intro t s n H hn hT;have X:∀k,Ze.Below k (.box t.cs):=fun k=>Ze.Zy ⟨.int _ _,.int _ _,.str _,Zl (mB fun u=>u.blw k),trivial⟩
 suffices h:Zh prog n 314 [t.enc] H fun r L=>r= .tup [.sl 4 ((ZdC t).1.map Tm.enc) .any,eInt (ZdC t).2]/\L=H from h
 by_cases a:Xr t=true/\grT t=true;rotate_left
 ·have he:ZdC t=([],2):=by
   unfold ZdC;rw[if_neg (by rw[Qb];exact a)]
  rw[he];refine aF func314 fun B=>?_
  refine gc ?_;refine cT (a72 t s) ?_;cases o:Xr t with
  |false=>
   refine aS ?_;refine gj ?_;exact ZfN (xs:=[]) rfl rfl rfl rfl (.any _ _ _) rfl
  |true=>
   have f:grT t=false:=by
    cases f:grT t with
    |false=>rfl
    |true=>exact absurd ⟨o,f⟩ a
   refine aS ?_;refine cT (e152 t s) ?_;rw[f];refine aS ?_;refine gj ?_;exact ZfN (xs:=[]) rfl rfl rfl rfl (.any _ _ _) rfl
 obtain⟨o,f⟩:=a;have A:t.all okG=true:=by
  simp only[Xr,Qb]at o;have:=Zch shape (fun u=>!(u.kind==3)) t;unfold grT at f;rw[o.2,f]at this;exact this
 have O:dep t<=12:=by simp only[Xr,Qb,decide_eq_true_eq]at o;exact o.1
 have he:ZdC t=match expandS t with|some l=>(l,0)|none=>([],5):=by unfold ZdC;rw[o,f];rfl
 refine ZiB (t:=402) (pre:=[_]) (R:=(Zz Tryz.f314).snd.snd.snd) (Q:=fun r=>r= .tup [.sl 4 ((ZdC t).1.map Tm.enc) .any,eInt (ZdC t).2]) (caps:=[.ptr n 2 0,.ptr n 3 0]) tok (Zf func314 rfl rfl) sm (Zf func377 rfl rfl) [(Zz Tryz.f314).fst,(Zz Tryz.f314).snd.fst] (Zd8 n) ⟨Zd8 n,mc t n [] 0 (.msl 4 n 200 0),H⟩ ⟨(14,.fn (.func 377) [.ptr n 2 0,.ptr n 3 0])::Zd8 n,mc t n [] 0 (.msl 4 n 200 0),H⟩ rfl rfl rfl rfl rfl (by kernel_rfl) ?_ ?_ (fun B=>?_) (fun B=>?_) (fun B=>?_)
 ·intro c hc;simp only[Ql,QA,or_false]at hc;rcases hc with rfl|rfl<;>exact .ptr _ _ _ (Qq n)
 ·intro p g;simp only[Zd8,Ql,QA,or_false]at g;rcases g with rfl|rfl|rfl<;>exact .ptr _ _ _ (Qq n)
 ·show AKc _ [.code _,.code _] _ _;refine gc ?_;refine cT (a72 t s) ?_;rw[o];refine aS ?_;refine cT (e152 t s) ?_;rw[f];refine aS ?_;refine nF ?_;refine ZJ (Jv (j0:=2) (j:=200) (i:=0) 25 4 rfl rfl rfl) ?_;refine nN ?_;refine .inl ⟨rfl,?_⟩;unfold Zd8 mc;exact KK
 ·unfold Zd8;exact sT
 ·show AKc _ _ _ ⟨(14,.fn (.func 377) [.ptr n 2 0,.ptr n 3 0])::Zd8 n,[],full n (mc t n [] 0 (.msl 4 n 200 0)) H⟩;obtain⟨G,hG⟩:∃G:LT->Za,G=fun l=>full n (mc t n l 0 (.msl 4 n 200 l.length)) H:=⟨_,rfl⟩
  have S:∀l,G l n 1=some (.box t.cs):=fun l=>by rw[hG];simp[full,mc,lkb]
  have q:∀l,G l n 2=some (.box [.msl 4 n 200 l.length]):=fun l=>by rw[hG];simp[full,mc,lkb]
  have M:∀l,G l n 3=some (.box [.int .i64 0]):=fun l=>by rw[hG];simp[full,mc,lkb]
  have d:∀l,G l n 200=some (.Zg 25 4 (flat (l.map Tm.enc)) l.length):=fun l=>by rw[hG];simp[full,mc,lkb]
  have E:full n (mc t n [] 0 (.msl 4 n 200 0)) H=G []:=by rw[hG];rfl
  have K:∀l,Tabs (G l):=fun l=>by rw[hG];exact hT.full hn
  have b:¬n=n+1:=om;rw[E];unfold Zd8;refine kK ?_;refine Yz 402 tok (pre:=[_]) (post:=[_,_]) rfl rfl rfl rfl ?_;simp only[go_sem,simprocAttr,S,b,Tm.cs];refine JG (Zf func378 rfl rfl) (e154 t s A (n+1+1) _ (UR _) ((K []).full (UR _))) sS ?_ ?_;rotate_left
  ·rintro U ⟨hx,rfl⟩;refine⟨_,_,rfl,.refl _ _,?_⟩;refine⟨.panicking (ch 402),.inr (.inr rfl),⟨rfl,rfl,rfl⟩,Zbz.mono (ZuE n (G []) _ 0 (q []) (M [])) fun L h=>?_⟩;subst h;rw[hx]at he;rw[he];refine⟨mc t n [] 5 (.sl 4 [] .full),⟨Zd8 n,mc t n [] 5 (.sl 4 [] .full),H⟩,?_,.refl _ _ _,ZfN (xs:=[]) rfl rfl rfl rfl (.any _ _ _) rfl⟩;rw[hG];show((full n (mc t n [] 0 (.msl 4 n 200 0)) H).upd n 2 _).upd n 3 _=_;rw[<-Zm,<-Zm];rfl
  rintro r U ⟨l,hx,rfl,rfl⟩;refine⟨_,_,rfl,.refl _ _,?_⟩;rw[hx]at he;have P:=Zc5 hx;have w:=expand_val t A l hx;rw[he];refine gM ?_;refine Zx (fun i=>⟨[(18,.int .i64 i),(17,.int .i64 l.length),(16,.sl 4 (l.map Tm.enc) .any),(3,.ptr n 3 0),(2,.ptr n 2 0),(1,.ptr n 1 0)],[],G (l.take i)⟩) l.length rfl ?_ ?_
  ·exact KK
  intro i Y;refine ZV rfl ?_;rcases Qd i l.length with h|h
  ·refine nq h ?_;refine nT ?_;refine nq2 (Tm.Zw _ _ h) h ?_;obtain⟨σ,hσ⟩:∃σ,σ=l.take i:=⟨_,rfl⟩
   have N:σ.length=i:=by rw[hσ,QJ];omega
   have C:l[i].Good:=X8 (value_of (w _ (Qa h)).1 (by have:=(w _ (Qa h)).2;omega));rw[<-hσ];refine nD (ZtC n) ?_;have v:∀x,(G σ).upd n 200 x n 2=some (.box [.msl 4 n 200 σ.length]):=fun x=>by rw[Za.upd_ne _ _ sm];exact q σ
   have J:=ZqX σ (.agg [.int .u8 0,.int .i64 0,.str [],.sl 0 [] .full]) rfl l[i];have y:(flat (σ.map Tm.enc)++flat [AV.agg [.int .u8 0,.int .i64 0,.str [],.sl 0 [] .full]]).length=σ.length*4+4:=by rw[Qh,ZgR];rfl
   simp only[go_sem,simprocAttr,ZtC,b,q,d,v,y,Za.upd_same,Za.Zaa];refine W9 (Zf func379 rfl rfl) (Ztl l[i] C) sS ?_;simp only[go_sem,simprocAttr,ZtC,b,q,d,v,y,Za.upd_same,Za.Zaa];have z:(flat (σ.map Tm.enc)++flat [AV.agg [.int .u8 0,.int .i64 0,.str [],.sl 0 [] .full]]).take (σ.length*4)++(AV.int .u8 l[i].kind::AV.int .i64 l[i].num::AV.str l[i].name::AV.sl 4 (l[i].args.map Tm.enc) .any::(flat (σ.map Tm.enc)++flat [AV.agg [.int .u8 0,.int .i64 0,.str [],.sl 0 [] .full]]).drop (σ.length*4+4))=flat ((σ++[l[i]]).map Tm.enc):=J;rw[z];have I:Ze.Below (n+1) (.Zg 25 4 (flat (σ.map Tm.enc)++flat [.agg [.int .u8 0,.int .i64 0,.str [],.sl 0 [] .full]]) (σ.length+1)):=by
    refine⟨fun c hc=>?_,by simp[Ze.at_]⟩;rcases Qr.1 hc with hc|hc
    ·exact(WL (m:=0) σ).1 c hc
    ·exact ZW.mem (l:=[AV.int .u8 0,.int .i64 0,.str [],.sl 0 [] .full]) (p:=fun c=>Below (n+1) c) ⟨.int _ _,.int _ _,.str _,YR (fun _ h=>by cases h) (fun _ _ e=>by cases e),trivial⟩ c (by simpa[flat,AV.cells]using hc)
   refine⟨rfl,⟨Zn om,om⟩,.inr I,om,om,.inr (WL _),.inr (Ze.Zy ⟨.msl _ _ _ _ om,trivial⟩),?_⟩;have V:((G σ).upd n 200 (.Zg 25 4 (flat ((σ++[l[i]]).map Tm.enc)) (σ.length+1))).upd n 2 (.box [.msl 4 n 200 (σ.length+1)])=G (l.take (i+1)):=by
    have W:σ.length+1=(σ++[l[i]]).length:=sm;rw[Qn h,<-hσ,W,hG];show((full n (mc t n σ 0 (.msl 4 n 200 σ.length)) H).upd n 200 _).upd n 2 _=_;rw[<-Zm,<-Zm];rfl
   rw[V];refine gd ?_;exact KK
  ·have F:i=l.length:=om;subst F;rw[QV];refine nr ?_;simp only[go_sem,simprocAttr,Un];refine gg ?_;have D:∀x,(G l).upd n 2 x n 3=some (.box [.int .i64 0]):=fun x=>by rw[Za.upd_ne _ _ sm];exact M l
   refine nq3 b q D ?_;refine⟨.inr (Ze.Zy ⟨.msl _ _ _ _ (Qq n),trivial⟩),.inr (Ze.Zy ⟨.int _ _,trivial⟩),?_⟩;rw[Z7 (q l),Z7 (M l)];refine nV ?_;refine⟨.returning,.inr (.inl ⟨rfl,rfl⟩),⟨rfl,rfl,rfl⟩,Zbz.mono (ZuF n _) fun L h=>?_⟩;subst h;refine⟨mc t n l 0 (.msl 4 n 200 l.length),_,by rw[hG],YU (tm':=[(3,.ptr n 3 0),(2,.ptr n 2 0)]) (av':=.sl 4 (l.map Tm.enc) .any) (j0:=2) (i:=0) (j:=200) 30 (show 30<Tryz.f314.ntmps by decide) (l.map Tm.enc) dc rfl rfl (.inl ⟨4,rfl,rfl⟩) rfl rfl (by rw[Qv]) (ZmQ l) (ZeA l).mem ?_ ?_,ZfN rfl rfl rfl rfl (.refl _) rfl⟩
   ·intro p g;simp only[Ql,QA,or_false]at g;rcases g with rfl|rfl
    ·exact⟨sm,.refl _,.ptr _ _ _ (.inr ⟨rfl,show(3:Nat)≠200 by decide⟩)⟩
    ·exact⟨sm,.refl _,.ptr _ _ _ (.inr ⟨rfl,show(2:Nat)≠200 by decide⟩)⟩
   ·intro p g;simp[mc,setb,delb]at g;rcases g with rfl|rfl|rfl
    ·exact Ze.Zv ⟨.int _ _,trivial⟩
    ·exact Ze.Zv ⟨.dead,trivial⟩
    ·exact Ze.Zkj (fun c hc=>ZW.mem (l:=t.cs) (p:=fun c=>Below n c) ⟨.int _ _,.int _ _,.str _,Zl (mB fun u=>u.blw n),trivial⟩ c hc)
def ZdK(n l b:Nat)(s:Sto)(L:List (Nat×Ze))(H:Za)(h:l≠n):put (full n L H) l b s=full n L (put H l b s):=by
 funext c k;simp only[Zbe,full];by_cases a:c=n
 ·subst a;simp[Ne.symm h]
 ·simp only[if_neg a]
section
variable {s:Sto} {n l b:Nat}
def ZhI(a:l<n){k:Nat}{x:Ze}(h:lkb (lst l b s) k=some x):x.Below n:=by
 rw[Y4]at h;split at h
 ·cases h;exact Zgf a _
 split at h
 ·cases h;exact Xk (ZhJ s.N)
 split at h
 ·cases h;exact Xk (JD Sg.enc a (Sg.blw n) _ _)
 split at h
 ·cases h;exact Xk (JD Ak.enc a (Ak.blw n) _ _)
 split at h
 ·split at h
  ·cases h
  ·cases h;exact Wh _ _ _ _
 split at h
 ·simp only[Ur]at h;obtain⟨p,_,rfl⟩:=h;exact Wh _ _ _ _
 split at h
 ·simp only[Ur]at h;obtain⟨p,_,rfl⟩:=h;exact Wh _ _ _ _
 ·cases h
def ZdZ{H:Za}(c:l<n):ZL n H (put H l b s):=fun d k x _ a=>by
 rw[Zbe]at a;split at a
 ·rcases Option.or_eq_some_iff.1 a with h|⟨_,h⟩
  ·exact .inr (ZhI c h)
  ·exact .inl h
 ·exact .inl a
def ZkQ{H:Za}{d:Sto}(f:l<n)(e:YW H l b):ZL n (put H l b s) (put H l b d):=fun g k x _ a=>by
 by_cases c:g=l
 ·subst c;rcases Qd k b with h2|h2
  ·rw[ZqD h2]at a⊢;exact .inl a
  ·rw[Zd3 e h2]at a;exact .inr (ZhI f a)
 ·rw[WQ c]at a⊢;exact .inl a
def YW.full{n l b:Nat}{H:Za}(a:YW H l b)(h:l<n)(L:List (Nat×Ze)):YW (full n L H) l b:=fun k c=>by rw[Zi h];exact a k c
section
variable {cx:Cx} {o:Oper} {args:List Operand} {ts:List TypeId} {F:Zc->Prop} {tm:LN} {L:List (Nat×Ze)} {H:Za}
def Ztc(d:cx.P=prog)(l b:Nat)(a:l<cx.n)(c:YW H l b)(e:Yo cx.T (evT tm) args ts=[])(f:F ⟨Yf tm o.dst (.ptr l b 0),L,put H l b sto0⟩):WV cx false o (.func 37) args ts ⟨tm,L,H⟩ F:=by
 obtain⟨P,T,g,n,N⟩:=cx;subst d;refine ZuD (avs:=[]) L (put H l b sto0) (Zf func37 rfl rfl) ?_ e (ZdZ a) f;have h:=a22 (n+1) (full n L H) l b (Qal a) (c.full a L);rw[ZdK n l b sto0 L H (Qa1 a)]at h;exact h
def Ztd(f:cx.P=prog)(l b:Nat)(s:Sto)(a:Am){g:Operand}(p:evT tm g= .fn (.func 38) [])(c:l<cx.n)(e:YW H l b)(m:Fit s)(d:a.Good)(q:0<cx.n)(i:Tabs H)(j:Yo cx.T (evT tm) args ts=[.ptr l b 0,a.enc])
  (t:F ⟨Yf tm o.dst (.tup [.bool (Jf s a).2.1,eInt (Jf s a).2.2]),L,put H l b (Jf s a).1⟩):WV cx false o g args ts ⟨tm,L,put H l b s⟩ F:=by
 obtain⟨P,T,v,n,N⟩:=cx;subst f;have h:=a23 (n+1) (full n L H) l b s a (Qal c) (e.full c L) m d (UR _) (i.full q);rw[ZdK n l b s L H (Qa1 c),ZdK n l b _ L H (Qa1 c)]at h;refine YS (caps:=[]) (avs:=[.ptr l b 0,a.enc]) (Qc:=fun r k=>r= .tup [.bool (Jf s a).2.1,eInt (Jf s a).2.2]/\k=full n L (put H l b (Jf s a).1)) p (Zf func38 rfl rfl) h j ?_;rintro r u ⟨rfl,rfl⟩;exact⟨L,_,rfl,ZkQ c e,t⟩
end
end
def eLs(l:List Lt):AV:=.sl 13 (l.map Lt.enc) .any
def Znl(n:Nat)(l:List Lt):Below n (eLs l):=Ym l
theorem Zor(l:List Lt):(eLs l).cells=[eLs l]:=rfl
theorem ZrH(l:List Lt):(eLs l).one=true:=rfl
attribute [go_sem] Zor ZrH
def ZlV(l:List Lt):LA:=flat (l.map Lt.enc)
def ZsL{n:Nat}{p:Nat->Prop}(l:List Lt):ZW (fun c=>Inside n p c) (ZlV l):=ZM fun c a=>by
 simp only[ZlV,flat,QI]at a;obtain⟨y,b,a⟩:=a;obtain⟨u,_,rfl⟩:=Qg.1 b;exact(u.bcs.mem _ a).inside
def Zci{n k:Nat}(l:List (List Lt)):Below n (.sl k (l.map eLs) .any):=Zl fun x a=>by obtain⟨u,_,rfl⟩:=Qg.1 a;exact Znl n u
def ZwC(n:Nat)(H:Za)(l q c:Nat)(g:l<n)(b:H l q=none)(w:c<=1000000000):
  Zh prog n 229 [.sl 13 [] .full,.int .i64 c] H fun r v=>r= .msl 13 l q 0/\v=H.upd l q (.Zg 35 13 [] 0):=by
 have t:IntKind.i64.wrap (c:Int)=c:=by rw[iw]
 have f:IntKind.i64.wrap 0=0:=rfl;refine aF func229 fun B=>?_
 refine gc ?_;refine nF ?_;refine nr ?_;simp only[go_sem,simprocAttr,f,Qbs,QaG,t];refine nr ?_;simp only[go_sem,simprocAttr,f,QaG,t];by_cases e:0<c
 ·have o:decide ((0:Int)<(c:Int))=true:=by simp;omega
  refine ZoM rfl rfl (by simp only[go_sem,simprocAttr,o]) ?_;refine kK ?_;refine Yy tok growO rfl rfl (by kernel_rfl) ?_;simp only[go_sem,simprocAttr,growO];refine⟨⟨om,Zn om,om⟩,e,?_⟩;repeat refine kn rfl ?_
  refine ZJ (ZbB (tm':=[(0,.msl 13 n 22 0)]) (j:=22) (m:=0) e (Us _) rfl ?_ ?_ ?_) ?_
  ·intro x i;simp only[flat,QI]at i;obtain⟨y,u,i⟩:=i;rw[(Ue.1 u).2]at i;revert x;exact ZW.mem (p:=fun c=>Inside n (fun k=>k≠22) c) ⟨.int _ _,.bool _,.str _,Xn (fun _ h=>by cases h),.int _ _,.int _ _,.int _ _,.str _,Xn (fun _ h=>by cases h),.int _ _,.int _ _,.str _,Xn (fun _ h=>by cases h),trivial⟩
  ·intro p d;simp only[Qo]at d;subst d;exact .inr ⟨13,13,rfl,rfl⟩
  ·intro p d;cases d
  simp only[go_sem,simprocAttr,Gp,Qam];refine gh ?_;refine Wi 22 l q (.Zg 35 13 [] 0) [(4,.msl 13 l q 0)] g b rfl ?_ ?_ ?_ ?_
  ·exact⟨fun a s=>(by cases s),fun p d=>(by cases d)⟩
  ·exact⟨⟨.inr (.inr (.inr ⟨13,0,rfl⟩)),by simp[lkv,ren,Wk.refl]⟩,trivial⟩
  ·trivial
  refine nV ?_;refine⟨by simp[Y7],[.msl 13 l q 0],⟨.refl _,trivial⟩,by simp only[Qo,forall_eq];exact .msl _ _ _ _ g,rfl,rfl⟩
 ·have o:decide ((0:Int)<(c:Int))=false:=by simp;omega
  refine nFq o ?_;refine gh ?_;refine Jp 4 300 35 13 rfl rfl ?_;refine Wi 300 l q (.Zg 35 13 [] 0) [(4,.msl 13 l q 0)] g b rfl ?_ ?_ ?_ ?_
  ·exact⟨fun a s=>(by cases s),fun p d=>(by cases d)⟩
  ·exact⟨⟨.inr (.inr (.inr ⟨13,0,rfl⟩)),by simp[lkv,ren,Wk.refl]⟩,trivial⟩
  ·trivial
  refine nV ?_;refine⟨by simp[Y7],[.msl 13 l q 0],⟨.refl _,trivial⟩,by simp only[Qo,forall_eq];exact .msl _ _ _ _ g,rfl,rfl⟩
def ZwD(n:Nat)(H:Za)(l q c:Nat)(g:l<n)(b:H l q=none)(w:c<=1000000000):
  Zh prog n 231 [.sl 14 [] .full,.int .i64 c] H fun r v=>r= .msl 14 l q 0/\v=H.upd l q (.Zg 232 14 [] 0):=by
 have t:IntKind.i64.wrap (c:Int)=c:=by rw[iw]
 have f:IntKind.i64.wrap 0=0:=rfl;refine aF func231 fun B=>?_
 refine gc ?_;refine nF ?_;refine nr ?_;simp only[go_sem,simprocAttr,f,Qbs,QaG,t];refine nr ?_;simp only[go_sem,simprocAttr,f,QaG,t];by_cases e:0<c
 ·have o:decide ((0:Int)<(c:Int))=true:=by simp;omega
  refine ZoM rfl rfl (by simp only[go_sem,simprocAttr,o]) ?_;refine kK ?_;refine Yy tok growO rfl rfl (by kernel_rfl) ?_;simp only[go_sem,simprocAttr,growO];refine⟨⟨om,Zn om,om⟩,e,?_⟩;repeat refine kn rfl ?_
  refine ZJ (ZbB (tm':=[(0,.msl 14 n 22 0)]) (j:=22) (m:=0) e (Us _) rfl ?_ ?_ ?_) ?_
  ·intro x i;simp only[flat,QI]at i;obtain⟨y,u,i⟩:=i;rw[(Ue.1 u).2]at i;revert x;exact ZW.mem (p:=fun c=>Inside n (fun k=>k≠22) c) ⟨Xn (fun _ h=>by cases h),.int _ _,.bool _,.str _,Xn (fun _ h=>by cases h),.int _ _,.int _ _,.int _ _,.str _,Xn (fun _ h=>by cases h),.int _ _,.int _ _,.str _,Xn (fun _ h=>by cases h),trivial⟩
  ·intro p d;simp only[Qo]at d;subst d;exact .inr ⟨14,14,rfl,rfl⟩
  ·intro p d;cases d
  simp only[go_sem,simprocAttr,Gp,Qam];refine gh ?_;refine Wi 22 l q (.Zg 232 14 [] 0) [(4,.msl 14 l q 0)] g b rfl ?_ ?_ ?_ ?_
  ·exact⟨fun a s=>(by cases s),fun p d=>(by cases d)⟩
  ·exact⟨⟨.inr (.inr (.inr ⟨14,0,rfl⟩)),by simp[lkv,ren,Wk.refl]⟩,trivial⟩
  ·trivial
  refine nV ?_;refine⟨by simp[Y7],[.msl 14 l q 0],⟨.refl _,trivial⟩,by simp only[Qo,forall_eq];exact .msl _ _ _ _ g,rfl,rfl⟩
 ·have o:decide ((0:Int)<(c:Int))=false:=by simp;omega
  refine nFq o ?_;refine gh ?_;refine Jp 4 300 232 14 rfl rfl ?_;refine Wi 300 l q (.Zg 232 14 [] 0) [(4,.msl 14 l q 0)] g b rfl ?_ ?_ ?_ ?_
  ·exact⟨fun a s=>(by cases s),fun p d=>(by cases d)⟩
  ·exact⟨⟨.inr (.inr (.inr ⟨14,0,rfl⟩)),by simp[lkv,ren,Wk.refl]⟩,trivial⟩
  ·trivial
  refine nV ?_;refine⟨by simp[Y7],[.msl 14 l q 0],⟨.refl _,trivial⟩,by simp only[Qo,forall_eq];exact .msl _ _ _ _ g,rfl,rfl⟩
def ZtN(n:Nat)(a:List (List Lt))(H:Za)(i:Nat):Zc:=
 ⟨[(11,.int .i64 i),(10,.int .i64 a.length),(9,.sl 1 (a.map eLs) .any),(3,.int .i64 (a.take i).flatten.length),(0,.sl 1 (a.map eLs) .any)],[],H⟩
def ZtO(n:Nat)(a:List (List Lt))(H:Za)(i:Nat):Zc:=
 ⟨[(27,.int .i64 i),(26,.int .i64 a.length),(25,.sl 1 (a.map eLs) .any),(6,.msl 13 n 300 (a.take i).flatten.length)],[(300,.Zg 35 13 (ZlV (a.take i).flatten) (a.take i).flatten.length)],H⟩
def Zwj(a:List (List Lt))(v:a.length<=1000000)(w:a.flatten.length<=1000000):Pure prog 147 [.sl 1 (a.map eLs) .any] (eLs a.flatten):=by
 intro n H;refine aF func147 fun B=>?_
 refine gz ?_;refine Zx (ZtN n a H) a.length rfl ?_ ?_
 ·apply kZ;repeat' first|apply q0|exact xx|apply aI
  all_goals first|exact(Zci a).inside
 intro i q;refine ZV rfl ?_;rcases Qd i a.length with h|h
 ·have e:=Jh a i h;have m:=Wy a (i+1);have k:(a.take (i+1)).flatten.length=(a.take i).flatten.length+a[i].length:=by rw[e,Qh]
  have l:IntKind.i64.wrap (((a.take i).flatten.length:Int)+(a[i].length:Int))=(((a.take (i+1)).flatten.length:Nat):Int):=by rw[k,iw];omega
  refine nr ?_;simp only[go_sem,simprocAttr,h];refine gH ?_;simp only[go_sem,simprocAttr,getD_map eLs _ _ h,h];refine nr ?_;simp only[go_sem,simprocAttr,eLs,l];refine nR ?_;have g:decide ((((a.take (i+1)).flatten.length:Nat):Int)<0)=false:=by simp
  refine Zr6 rfl rfl (by simp only[go_sem,simprocAttr,g]) ?_;refine gd ?_;refine Zdp ?_ ?_ ?_ ?_<;>repeat' first|apply q0|exact xx|apply aI
  all_goals first|exact(Zci a).inside|exact xI
 ·have b:i=a.length:=om;subst b;refine nq (QC.2 h) ?_;refine gg ?_;refine nt0 ?_;refine YS (caps:=[]) (avs:=[.sl 13 [] .full,.int .i64 a.flatten.length]) rfl (Zf func229 rfl rfl) (ZwC (n+1) _ n 300 a.flatten.length (Qq n) (by simp only[full,if_true];rfl) om) sS ?_;rintro r t ⟨rfl,rfl⟩;refine⟨[(300,.Zg 35 13 [] 0)],H,(Zm n _ H 300 _).symm,.refl _ _,?_⟩;refine aS ?_;refine gh ?_;refine Zx (ZtO n a H) a.length rfl ?_ ?_
  ·apply kZ;repeat' first|apply q0|exact xx|apply aI
   all_goals first|exact(Zci a).inside|exact Zh1 (.inr ⟨rfl,rfl⟩)
  intro i q;refine ZV rfl ?_;rcases Qd i a.length with h|h
  ·have e:=Jh a i h;have m:=Wy a (i+1);have k:(a.take (i+1)).flatten.length=(a.take i).flatten.length+a[i].length:=by rw[e,Qh]
   have f:ZlV (a.take i).flatten++flat (a[i].map Lt.enc)=ZlV (a.take (i+1)).flatten:=by rw[e,ZlV,ZlV,QM,YJ]
   have c:∀y∈a[i].map Lt.enc,y.cells.all AV.one=true:=fun y o=>by obtain⟨u,_,rfl⟩:=Qg.1 o;rfl
   refine nq h ?_;refine nT ?_;refine nq2 (getD_map eLs _ _ h) h ?_;refine nr ?_;simp only[go_sem,simprocAttr,eLs,f,<-k];refine⟨⟨c,Zn om,om⟩,?_⟩;refine gd ?_;apply kZ;repeat' first|apply q0|exact xx|apply aI
   all_goals first|exact(Zci a).inside|exact Zh1 (.inr ⟨rfl,rfl⟩)|exact ZsL _|exact xI
  ·have b:i=a.length:=om;subst b;refine nq (QC.2 h) ?_;refine gg ?_;refine nt0 ?_;refine kK ?_;refine ZJ (YV (tm':=[(2,.sl 13 (a.flatten.map Lt.enc) .any)]) (j:=300) (a.flatten.map Lt.enc) rfl rfl (by rw[Qv]) (fun x s=>by obtain⟨u,_,rfl⟩:=Qg.1 s;rfl) (ZsL _).mem (fun p d=>?_) (fun p d=>?_)) ?_
   ·simp only[Qo]at d;subst d;exact .inr ⟨13,rfl,rfl⟩
   ·cases d
   refine nV ?_;exact Zb (.refl _) (Znl n _) rfl
def Zwc(n:Nat)(H:Za)(l b:Nat)(hl:l<n)(p:H l b=none)(m:H l (b+2)=none)(s:H l (b+3)=none)(o:H l (b+4)=none):Zh prog n 37 [] H (fun r t=>r= .ptr l b 0/\t=(((H.upd l (b+2) (.map [])).upd l (b+3) (.map [])).upd l (b+4) (.map [])).upd l b (.box [.sl 2 [] .full,.map l (b+2),.map l (b+3),.map l (b+4)])):=by
 refine aF func37 fun B=>?_
 refine gk ?_;refine ZJ (s':=⟨[(0,.ptr n 5 0)],[(1,.map []),(2,.map []),(3,.map []),(5,.box [.sl 2 [] .full,.map n 1,.map n 2,.map n 3])],H⟩) ?_ ?_
 ·exact KK
 have c:¬l=n:=om;have hsl:∀q,Inside n q (.sl 2 [] .full):=fun q=>Xn (fun x hx=>by cases hx)
 have hmb:Ze.Below n (.map []):=⟨by simp[Ze.avs],by simp[Ze.at_]⟩
 have d:∀j,ZcX n j (.sl 2 [] .full):=fun j=>.inl (hsl _)
 have g:∀j k,k≠j->ZcX n j (.map n k):=fun j k h=>.inl (.map _ _ (.inr ⟨rfl,h⟩))
 have a:∀j k,ZcX n j (.map l k):=fun j k=>.inl (.map _ _ (.inl hl))
 have f:∀j k,k≠j->ZcX n j (.ptr n k 0):=fun j k h=>.inl (.ptr _ _ _ (.inr ⟨rfl,h⟩))
 refine Wi 1 l (b+2) _ [(0,.ptr n 5 0)] hl m rfl hmb ⟨⟨f _ _ dc,by simp[lkv,ren];exact .refl _⟩,trivial⟩ ⟨⟨trivial,rfl,rfl⟩,⟨trivial,rfl,rfl⟩,⟨⟨d _,.inr (.inr (.inl rfl)),g _ _ dc,g _ _ dc,trivial⟩,rfl,rfl⟩,trivial⟩ ?_;simp only[go_sem,simprocAttr,Zb5,delb,Ze.J9,ren];refine Wi 2 l (b+3) _ [(0,.ptr n 5 0)] hl (by simp[Za.upd];exact s) rfl hmb ⟨⟨f _ _ dc,by simp[lkv,ren];exact .refl _⟩,trivial⟩ ⟨⟨trivial,rfl,rfl⟩,⟨⟨d _,a _ _,.inr (.inr (.inl rfl)),g _ _ dc,trivial⟩,rfl,rfl⟩,trivial⟩ ?_;simp only[go_sem,simprocAttr,Zb5,delb,Ze.J9,ren,c,false_and,if_false];refine Wi 3 l (b+4) _ [(0,.ptr n 5 0)] hl (by simp[Za.upd];exact o) rfl hmb ⟨⟨f _ _ dc,by simp[lkv,ren];exact .refl _⟩,trivial⟩ ⟨⟨⟨d _,a _ _,a _ _,.inr (.inr (.inl rfl)),trivial⟩,rfl,rfl⟩,trivial⟩ ?_;simp only[go_sem,simprocAttr,Zb5,delb,Ze.J9,ren,c,false_and,if_false];refine Wi 5 l b _ [(0,.ptr l b 0)] hl (by simp[Za.upd];exact p) rfl (Ze.Zy ⟨.sl _ _ _ (fun i h=>absurd h (Qj _)) (fun _ _ e=>by cases e),.map _ _ hl,.map _ _ hl,.map _ _ hl,trivial⟩) ⟨⟨.inr (.inl ⟨0,rfl⟩),by simp[lkv,ren];exact .refl _⟩,trivial⟩ trivial ?_;simp only[go_sem,simprocAttr,Zb5,delb,Ze.J9,ren,c,false_and,if_false];refine nV ?_;exact⟨by simp[Y7],[.ptr l b 0],⟨.refl _,trivial⟩,by simp only[Qo,forall_eq];exact .ptr _ _ _ hl,rfl,rfl⟩
def Ztg(n:Nat)(G:Za)(l k:Nat)(x:AV)(B:G l k=some (.tbox 196 [.nilp,x])):Zh prog n 216 [.ptr l k 0] G (fun r H=>r= .tup []/\H=G.upd l k (.tbox 196 [.ptr l k 0,x])):=fun E w K d F=>by
 obtain⟨v,r,rfl,h,i⟩:=F.Yw;obtain rfl:=i.of_nil;cases h with|ptr _ _ _ b hm=>
 obtain⟨c,g,p⟩:=ZfO d hm B;obtain⟨M,L,t,u,j⟩:=p.Yw;obtain⟨a,I,D,z,m⟩:=j.Yw;obtain rfl:=m.of_nil;cases u;have s:c= #[.pointer none,a]:=by apply Qaa.1;rw[t,D]
 subst s;refine(Any.Builder_copyCheck_fresh (P:=prog) (ρ:=Tryz.lays156_ren) {Tryz.lays156 with} Tryz.Builder_Extra_156.toX72 b w (by simp[World.cell?,g]) (by simp[World.shape?,g];rfl) (by simp[World.frozen?,g])).mono ?_;rintro e w' ⟨rfl,rfl⟩;obtain⟨f,hf,hf2⟩:∃f,(w.setCell ⟨b,0,none⟩ (.pointer (some ⟨b,0,none⟩))).heap=w.heap.modify b f/\f (.cells #[.pointer none,a] 196 (0,0))= .cells #[.pointer (some ⟨b,0,none⟩),a] 196 (0,0):=by
  exact⟨fun| .cells c elem frozen=>.cells (c.setIfInBounds 0 (.pointer (some ⟨b,0,none⟩))) elem frozen|o=>o,rfl,rfl⟩
 obtain⟨A,C⟩:=d.turn (w':=w.setCell ⟨b,0,none⟩ (.pointer (some ⟨b,0,none⟩))) (.inl hm) (.tbox 196 [.ptr l k 0,x]) (fun y=>absurd (d.m_g hm) y) rfl rfl rfl (fun _=>Qi _) (by rw[hf];simp)
  (fun J q=>by rw[hf,U5,if_neg (fun e=>q e.symm)]) (fun o=>d.mF _ _ _ o hm) ⟨b,hm,#[.pointer (some ⟨b,0,none⟩),a],by rw[hf,U5,if_pos rfl,g,Ut,hf2],VRs.cons (.ptr l k 0 b hm) (VRs.cons z (VRs.nil E))⟩
 exact⟨_,_,_,E,rfl,⟨rfl,rfl⟩,XP E,A,C⟩
def Zth(n:Nat)(G:Za)(l k t:Nat)(x:AV)(q:G l k=some (.tbox t [.ptr l k 0,x])):Zh prog n 216 [.ptr l k 0] G (fun r m=>r= .tup []/\m=G):=fun E w s g j=>by
 obtain⟨v,r,rfl,d,a⟩:=j.Yw;obtain rfl:=a.of_nil;cases d with|ptr _ _ _ b hm=>
 obtain⟨c,p,f⟩:=ZfO g hm q;obtain⟨z,y,h,o,i⟩:=f.Yw;cases o with|ptr _ _ _ b2 hm2=>
 rw[hm]at hm2;cases hm2;refine(Any.Builder_copyCheck_used (P:=prog) (ρ:=Tryz.lays156_ren) {Tryz.lays156 with} Tryz.Builder_Extra_156.toX72 b w (by
  have:c[0]? =some (.pointer (some ⟨b,0,none⟩)):=by rw[<-UK,h];rfl
  simp[World.cell?,p,this])).mono ?_
 rintro e u ⟨rfl,rfl⟩;exact⟨_,_,_,E,rfl,⟨rfl,rfl⟩,XP E,g,.refl _ _ _⟩
abbrev Stos:=List (Nat×Nat×List Am)
structure ZlG (l0:Nat) (H0:Za) (ss:Stos):Prop where
 pos:0<l0
 tabs:Tabs H0
 at_:∀e∈ss,e.1<l0/\ ∃s,Ya H0 e.1 e.2.1 s/\Ok s/\s.A=e.2.2
def Zp1(l0:Nat)(S:Hp)(b:Nat):Bool:=match lkb S b,lkb S (b+2),lkb S (b+3),lkb S (b+4)with
 |some (.box [.sl 2 [] .full,.map l1 k1,.map l2 k2,.map l3 k3]),some (.map []),some (.map []),some (.map [])=>l1==l0&&k1==b+2&&l2==l0&&k2==b+3&&l3==l0&&k3==b+4
 |_,_,_,_=>false
def Zlh(l0:Nat)(a:Stos)(S:Hp):AV->Option (Nat×Nat×List Am)
 | .ptr l b 0=>match a.find? (fun e=>e.1==l&&e.2.1==b)with
  |some e=>some e
  |none=>if(l==l0&&Zp1 l0 S b)=true then some (l0,b,[])else none
 |_=>none
section
variable {H0:Za} {l0:Nat}
def Zg8{n:Stos}(h:ZlG l0 H0 n){S:Hp}{a:AV}{e:Nat×Nat×List Am}(d:Zlh l0 n S a=some e){G:Za}(E:Bas l0 H0 G)(m:∀s,lkb S s≠none->G l0 s=lkb S s):
  a= .ptr e.1 e.2.1 0/\e.1<=l0/\ ∃s,Ya G e.1 e.2.1 s/\Ok s/\s.A=e.2.2:=by
 unfold Zlh at d;split at d
 ·rename_i l b;split at d
  ·rename_i H p;cases d;have g:=List.find?_some p;simp only[Qb,beq_iff_eq]at g;obtain⟨q,s,i,j⟩:=h.at_ _ (Qbe p);exact⟨by rw[g.1,g.2],MI q,s,fun k x c=>by rw[E _ _ q];exact i k x c,j⟩
  ·split at d
   ·rename_i f;cases d;simp only[Qb,beq_iff_eq]at f;obtain⟨r,f⟩:=f;refine⟨by rw[r],Qi _,sto0,?_,ok0,rfl⟩;unfold Zp1 at f;split at f
    ·rename_i g i j o;simp only[Qb,beq_iff_eq]at f;obtain⟨⟨⟨⟨⟨B,w⟩,C⟩,D⟩,t⟩,v⟩:=f;rw[B,w,C,D,t,v]at g;have z:=(m b (by rw[g];simp)).trans g;have u:=(m (b+2) (by rw[i];simp)).trans i;have F:=(m (b+3) (by rw[j];simp)).trans j;have y:=(m (b+4) (by rw[o];simp)).trans o;intro k x c;rw[show lst l0 b sto0=[(b,.box [.sl 2 [] .full,.map l0 (b+2),.map l0 (b+3),.map l0 (b+4)]),(b+2,.map []),(b+3,.map []),(b+4,.map [])] from rfl]at c;simp only[lkb]at c;split at c
     ·rename_i e;cases c;rw[<-e];exact z
     ·split at c
      ·rename_i e;cases c;rw[<-e];exact u
      ·split at c
       ·rename_i e;cases c;rw[<-e];exact F
       ·split at c
        ·rename_i e;cases c;rw[<-e];exact y
        ·cases c
    ·cases f
   ·cases d
 ·cases d
def ZsU(q:Bs×Tm):Bool:=tinyT q.2&&decide (q.2.sz<=300)
def pv(S:Hp)(c:Nat)(v:AV):Option (AV×Hp×Nat×List Nat):=some (v,S,c,[])
def Zt8(l0:Nat)(g:Stos):Caller:=fun f _ d S c=>match f,d with
 |33,[a0,a1,a2]=>match Zlh l0 g S a1 with
  |some e=>if(Zdn [a0,a1,a2] [.sl 13 ((dSl dLt a0).map Lt.enc) .any,.ptr e.1 e.2.1 0,Zu (dSl dBd a2)]&&decide ((dSl dLt a0).length<=10)&&(dSl dLt a0).all Zio&&decide ((dSl dBd a2).length<=1000)&&(dSl dBd a2).all ZsU)=true then
    pv S c (.tup [.sl 1 ((JM e.2.2 (dSl dLt a0) (dSl dBd a2)).1.map Zu) .any,eInt (JM e.2.2 (dSl dLt a0) (dSl dBd a2)).2])else none
  |none=>none
 |31,[a0,a1]=>if(Zdn [a0,a1] [.sl 13 ((dSl dLt a0).map Lt.enc) .any,eSs (dSl dSt a1)]&&decide ((dSl dLt a0).length<=10)&&(dSl dLt a0).all Zio&&decide ((dSl dSt a1).length<=10000))=true then
   pv S c (.sl 13 ((Vr (dSl dLt a0) (dSl dSt a1)).map Lt.enc) .any)else none
 |79,[a0]=>if(Zdn [a0] [.sl 13 ((dSl dLt a0).map Lt.enc) .any]&&decide ((dSl dLt a0).length<=1000)&&(dSl dLt a0).all Zio)=true then pv S c (.bool ((dSl dLt a0).all Xt))else none
 |69,[a0]=>if(Zdn [a0] [(dTm 20 a0).enc]&&tinyT (dTm 20 a0)&&decide ((dTm 20 a0).sz<=300))=true then pv S c (.sl 1 (YK (Z8 (dTm 20 a0))) .any)else none
 |109,[a0]=>if(Zdn [a0] [(dTm 20 a0).enc]&&tinyT (dTm 20 a0)&&decide ((dTm 20 a0).sz<=300))=true then pv S c (.bool (Zt (dTm 20 a0)))else none
 |125,[a0]=>if(Zdn [a0] [(dTm 20 a0).enc]&&tinyT (dTm 20 a0)&&decide ((dTm 20 a0).sz<=300)&&Zt (dTm 20 a0))=true then pv S c (.str (txt (dTm 20 a0)))else none
 |115,[a0]=>if(Zdn [a0] [(dAm a0).enc]&&Zin (dAm a0))=true then pv S c (.bool (YO (dAm a0)))else none
 |128,[a0,a1]=>match Zlh l0 g S a0 with
  |some e=>if(Zdn [a0,a1] [.ptr e.1 e.2.1 0,(dAm a1).enc]&&Zin (dAm a1))=true then pv S c (.bool (YO (dAm a1)&&(ZU (JC (dAm a1)) (nums 0 e.2.2) 0).isSome))else none
  |none=>none
 |28,[a0,.int .i64 i]=>match Zlh l0 g S a0 with
  |some e=>if Zdn [a0,.int .i64 i] [.ptr e.1 e.2.1 0,.int .i64 i]=true then pv S c (.tup [(atR e.2.2 i).1.enc,.int .i64 (atR e.2.2 i).2])else none
  |none=>none
 |121,[.int .i64 i]=>if -9223372036854775808<=i/\i<=9223372036854775807 then pv S c (.str (Lib.itoa i))else none
 |123,[a0,.str sep]=>if(Zdn [a0,.str sep] [.sl 1 ((dSl dSt a0).map .str) .any,.str sep]&&decide ((dSl dSt a0).length<=1000)&&decide ((Lib.join (dSl dSt a0) sep).length<=1000000))=true then pv S c (.str (Lib.join (dSl dSt a0) sep))else none
 |213,[.str a,.str b]=>pv S c (.int .i64 (Lib.compareBytes a b))
 |147,[a0]=>if(Zdn [a0] [.sl 1 ((dSl (dSl dLt) a0).map eLs) .any]&&decide ((dSl (dSl dLt) a0).length<=1000)&&decide ((dSl (dSl dLt) a0).flatten.length<=1000))=true then pv S c (eLs (dSl (dSl dLt) a0).flatten)else none
 |37,[]=>match lkb S c,lkb S (c+2),lkb S (c+3),lkb S (c+4)with
  |none,none,none,none=>some (.ptr l0 c 0,(c,.box [.sl 2 [] .full,.map l0 (c+2),.map l0 (c+3),.map l0 (c+4)])::(c+2,.map [])::(c+3,.map [])::(c+4,.map [])::S,c+5,[c,c+2,c+3,c+4])
  |_,_,_,_=>none
 |231,[.sl 14 [] .full,.int .i64 n]=>match lkb S c with
  |none=>if 0<=n/\n<=1000 then some (.msl 14 l0 c 0,(c,.Zg 232 14 [] 0)::S,c+1,[c])else none
  |some _=>none
 |216,[.ptr l k 0]=>match lkb S k with
  |some (.tbox 196 [.nilp,x])=>if l=l0 then some (.tup [],setb S k (.tbox 196 [.ptr l0 k 0,x]),c,[k])else none
  |some (.tbox _ [.ptr l' k' 0,x])=>if l=l0/\l'=l0/\k'=k then some (.tup [],S,c,[])else none
  |_=>none
 |_,_=>none
def Zlm{G:Za}(a:0<l0)(d:Tabs H0)(b:Bas l0 H0 G):Tabs G:=by
 obtain⟨m,t,e,f,c⟩:=d;exact⟨m,t,e,(b 0 0 a).trans f,(b 0 1 a).trans c⟩
def ZmO{l:List Lt}(h:l.all Zio=true):∀x∈l,Sm x/\0<=x.op/\x.op<=255:=fun x a=>Zsr (Qw.1 h x a)
def Zsx{L:Stos}(h:ZlG l0 H0 L):WW prog l0 H0 (Zt8 l0 L):=⟨fun f md K S c v S' c' W b=>by
 have z:=fun{G:Za} (d:Bas l0 H0 G)=>Zlm h.pos h.tabs d
 unfold Zt8 at b;split at b
 ·split at b
  ·rename_i e H;obtain⟨a,i⟩:=ifp b;cases i;simp only[Qb,decide_eq_true_eq]at a;obtain⟨⟨⟨⟨t,w⟩,u⟩,F⟩,U⟩:=a;refine XB (Zf func33 rfl rfl) t fun m o G d j=>?_
   obtain⟨_,I,s,p,y,E⟩:=Zg8 h H d j;have C:=ZmO u;have:=k10 e100 m G (z d) om e.1 e.2.1 om s p y _ w (fun x B=>(C x B).1) (fun x B=>(C x B).2) _ F (fun q X=>by
    have:=Qw.1 U q X;simp only[ZsU,Qb,decide_eq_true_eq]at this;exact ZcB this.1 this.2)
   rw[E]at this;exact this
  ·cases b
 ·obtain⟨a,i⟩:=ifp b;cases i;simp only[Qb,decide_eq_true_eq]at a;obtain⟨⟨⟨t,w⟩,u⟩,F⟩:=a;exact XB (Zf func31 rfl rfl) t fun m o G d j=>j26 _ w (fun x C=>(ZmO u x C).1) _ F m G om (z d)
 ·obtain⟨a,i⟩:=ifp b;cases i;simp only[Qb,decide_eq_true_eq]at a;obtain⟨⟨t,w⟩,u⟩:=a;exact XB (Zf func79 rfl rfl) t fun m o G d j=>j38 _ om (fun x C=>(ZmO u x C).1.good) m G om (z d)
 ·obtain⟨a,i⟩:=ifp b;cases i;simp only[Qb,decide_eq_true_eq]at a;obtain⟨⟨t,w⟩,u⟩:=a;exact XB (Zf func69 rfl rfl) t fun m o G d j=>j56 _ (ZcB w u) (UA (nm_len.1 _) om) m G
 ·obtain⟨a,i⟩:=ifp b;cases i;simp only[Qb,decide_eq_true_eq]at a;obtain⟨⟨t,w⟩,u⟩:=a;exact XB (Zf func109 rfl rfl) t fun m o G d j=>a37 _ (ZcB w u) m G om (z d)
 ·obtain⟨a,i⟩:=ifp b;cases i;simp only[Qb,decide_eq_true_eq]at a;obtain⟨⟨⟨t,w⟩,u⟩,F⟩:=a;exact XB (Zf func125 rfl rfl) t fun m o G d j=>a58 _ (ZcB w u) F m G om (z d)
 ·obtain⟨a,i⟩:=ifp b;cases i;simp only[Qb]at a;exact XB (Zf func115 rfl rfl) a.1 fun m o G d j=>a14 _ (ZfP a.2) m G om (z d)
 ·split at b
  ·rename_i e H;obtain⟨a,i⟩:=ifp b;cases i;simp only[Qb]at a;refine XB (Zf func128 rfl rfl) a.1 fun m o G d j=>?_
   obtain⟨_,I,s,p,y,E⟩:=Zg8 h H d j;rw[<-E,<-y.N];exact a26 m G e.1 e.2.1 s _ om p (ZfP a.2) om (z d)
  ·cases b
 ·split at b
  ·rename_i e H;obtain⟨a,i⟩:=ifp b;cases i;refine XB (Zf func28 rfl rfl) a fun m o G d j=>?_
   obtain⟨_,I,s,p,y,E⟩:=Zg8 h H d j;rw[<-E];exact a27 m G e.1 e.2.1 s _ om p y.g om (z d)
  ·cases b
 ·obtain⟨a,i⟩:=ifp b;cases i;exact XB (Zf func121 rfl rfl) (bs:=[.int .i64 _]) (by simp[Zdn,all2,wkB]) fun m o G d j=>Zrt _ a.1 a.2 m G om (z d)
 ·obtain⟨a,i⟩:=ifp b;cases i;simp only[Qb,decide_eq_true_eq]at a;obtain⟨⟨t,w⟩,u⟩:=a;exact XB (Zf func123 rfl rfl) t fun m o G d j=>a92 _ _ .any om om m G om (z d)
 ·cases b;exact XB (Zf func213 rfl rfl) (bs:=[.str _,.str _]) (by simp[Zdn,all2,wkB]) fun m o G d j=>a50 _ _ m G
 ·obtain⟨a,i⟩:=ifp b;cases i;simp only[Qb,decide_eq_true_eq]at a;obtain⟨⟨t,w⟩,u⟩:=a;exact XB (Zf func147 rfl rfl) t fun m o G d j=>Zwj _ om om m G
 ·split at b
  ·rename_i J V h3 Y;cases b;refine⟨⟨_,_,Zf func37 rfl rfl⟩,fun m o G d j=>?_,fun s p=>?_⟩
   ·have g:=fun s (p:s=c\/s=c+2\/s=c+3\/s=c+4)=>j s (.inr (by simp;omega))
    refine(Zwc m G l0 c o ((g c sm).trans J) ((g (c+2) sm).trans V) ((g (c+3) sm).trans h3) ((g (c+4) sm).trans Y)).mono fun r R A=>⟨A.1,?_⟩
    rw[A.2];funext l s;simp only[Za.upd,ovB,lkb,QS,GZ,Uj,Md,beq_iff_eq];by_cases D:l=l0
    ·by_cases O:s=c
     ·subst O;simp[D]
     ·by_cases M:s=c+2
      ·subst M;simp[D]
      ·by_cases P:s=c+3
       ·subst P;simp[D]
       ·by_cases Q:s=c+4
        ·subst Q;simp[D]
        ·simp[O,M,P,Q]
    ·simp[D]
   ·simp only[QS,GZ,Uj,QaS,beq_eq_false_iff_ne]at p;obtain⟨Z,q2,q3,q4⟩:=p;simp only[lkb];rw[if_neg (Ne.symm Z),if_neg (Ne.symm q2),if_neg (Ne.symm q3),if_neg (Ne.symm q4)]
  ·cases b
 ·split at b
  ·rename_i J;obtain⟨a,i⟩:=ifs b;cases i;rename_i n;obtain⟨k,rfl⟩:=Int.eq_ofNat_of_zero_le a.1;refine⟨⟨_,_,Zf func231 rfl rfl⟩,fun m o G d j=>?_,fun s p=>?_⟩
   ·have hw:Wks [AV.sl 14 [] .full,.int .i64 (k:Int)] [.sl 14 [] .full,.int .i64 (k:Int)]:=⟨.refl _,.refl _,trivial⟩
    refine(Zh.wk (ZwD m G l0 c k o ((j c (.inr sm)).trans J) om) hw).mono fun r R A=>⟨A.1,?_⟩
    rw[A.2,ZfM G l0 c _ (by simp[lkb];rfl)]
   ·simp only[QS,GZ,Uj,beq_eq_false_iff_ne]at p;simp only[lkb];rw[if_neg (Ne.symm p)]
  ·cases b
 ·split at b
  ·rename_i a;obtain⟨rfl,i⟩:=ifp b;cases i;refine⟨⟨_,_,Zf func216 rfl rfl⟩,fun m o G d j=>?_,fun s p=>?_⟩
   ·refine(Ztg m G _ _ _ ((j _ (.inl (by rw[a];simp))).trans a)).mono fun r R A=>⟨A.1,?_⟩
    rw[A.2,ZfM G _ _ _ (by rw[lkb_setb,if_pos rfl])]
   ·simp only[QS,GZ,Uj,beq_eq_false_iff_ne]at p;rw[lkb_setb,if_neg p]
  ·rename_i a;obtain⟨⟨rfl,rfl,rfl⟩,i⟩:=ifp b;cases i;refine⟨⟨_,_,Zf func216 rfl rfl⟩,fun m o G d j=>?_,fun s p=>rfl⟩;rw[VL];exact Zth m G _ _ _ _ ((j _ (.inl (by rw[a];simp))).trans a)
  ·cases b
 ·cases b⟩
end
def htl:List (Nat×Nat×List (Nat×Nat)):=[(36,0,[(3,2)]),(232,0,[(80,1)]),(78,1,[(7,1)]),(98,0,[(53,1)])]
def hts(f a:Nat):List (Nat×Nat):=List.rec (motive:=fun _=>List (Nat×Nat)) [] (fun p _ ih=>Bool.rec ih p.2.2 (WT (Nat.beq f p.1) (Nat.beq a p.2.1))) htl
def tbl:FTbl:=fun f md=>match prog.funcs[f]? with
 | some fn => Bool.rec none (some (fn, hts f md)) (WT fn.body.isSome (WT (!(fn.name == "runtime.NumGoroutine")) (YX fn.ntmps (Zz fn))))
 |none=>none
def tbl_ok:Zpn prog tbl:=fun f md fn hs e=>by
 unfold tbl at e;split at e
 ·rename_i fn' hf
  cases hb : WT fn'.body.isSome (WT (!(fn'.name == "runtime.NumGoroutine")) (YX fn'.ntmps (Zz fn'))) with
  |false=>rw[hb]at e;cases e
  |true=>
   rw[hb]at e;have e:=Uu e;simp only[Qax]at e;obtain⟨rfl,_⟩:=e;obtain⟨h1,h2⟩:=Yq hb;obtain⟨h2,h3⟩:=Yq h2;exact⟨Zf hf h1 (by simpa using h2),h3⟩
 ·cases e
def usOK:Zf3 prog (295,5):=⟨by kernel_rfl,by kernel_rfl⟩
def d93(n:Nat)(H:Za)(c:LA)(i:0<n)(h:c.length=2):Zbz prog n 93 c H .returning (fun d=>d=H):=by
 obtain⟨a,b,rfl⟩:∃a b,c=[a,b]:=by
  match c,h with
  |[a,b],_=>exact⟨a,b,rfl⟩
 refine Zf8 (t:=402) (x:=.nili) tok (Zf func93 rfl rfl) sm rfl rfl rfl rfl rfl (.inl ⟨rfl,rfl⟩) fun B=>?_
 have g:Ziv tt 0 (295,5) (fun _ _ _ _ _=>none) (hof []) 1000 (Zz Tryz.f93).snd [(5,.nili),(0,a),(1,b)] [] 0=some ⟨.normal,[(2,.nili),(7,.bool true),(5,.nili),(0,a),(1,b)],[],0,[]⟩:=by kernel_rfl
 have f:=(ZaL (φ:=⟨none,B⟩) (n:=n) (N:=Tryz.f93.ntmps) (H0:=H) tok mixed usOK ⟨fun _ _ _ _ _ _ _ _ _ h=>by cases h⟩ i 1000 _ _ _ _ _ (by kernel_rfl) g).2 H (fun _ _ _=>rfl) (fun s hs=>by rcases hs with hs|hs<;>simp[lkb]at hs);refine AC.mono f ?_;rintro e j ⟨rfl,rfl⟩;exact⟨.inl rfl,VL _ _ _⟩
def rec35:Zrr:=⟨Tryz.f35,(Zz Tryz.f35).fst,(Zz Tryz.f35).snd.snd,24,93,[.tmp 8,.tmp 9],[]⟩
def def35:ZsD prog 35 rec35:=⟨Zf func35 rfl rfl,⟨_,_,Zf func93 rfl rfl⟩,⟨_,_,_,_,rfl,rfl,rfl,⟨_,rfl,rfl⟩,rfl,rfl,rfl,rfl⟩,by kernel_rfl,fun n H a b h=>d93 n H a b h⟩
def Zrc(T:TT)(d:Nat)(e:TypeId×TypeId)(b:FTbl)(ext ih:Caller):Caller:=fun f g a S c=>match Nat.beq f 35 with
 |true=>Zt7 T d e ih rec35 a S c
 |false=>xFn T d e b ext ih f g a S c
def Zt5(T:TT)(b:Nat)(c:TypeId×TypeId)(a:FTbl)(ext:Caller)(k:Nat):Caller:=Nat.rec (fun _ _ _ _ _=>none) (fun _ ih=>Zrc T b c a ext ih) k
def Zn4{T:TT}(j:TOK prog T){e:Nat}{o:Za}{i:TypeId×TypeId}(l:Zf3 prog i){a:FTbl}(g:Zpn prog a){ext:Caller}(d:WW prog e o ext):∀k,WW prog e o (Zt5 T e i a ext k)
 |0=>⟨fun _ _ _ _ _ _ _ _ _ h=>by cases h⟩
 |k+1=>⟨fun f n b S c v m p W h=>by
  have ih:=Zn4 j l g d k;have h:Zrc T e i a ext (Zt5 T e i a ext k) f n b S c=some (v,m,p,W):=h;unfold Zrc at h;split at h
  ·rename_i q;rw[Uo q];exact Zsw j mixed l ih def35 h
  ·exact(Zt9 j mixed l g d ih).ok f n b S c v m p W h⟩
end Go.Proofs.YthajllbimoodjaaGreatDoor

namespace Go.Abs
def Zg7(m:Nat):Code->Code:=Nat.rec (motive:=fun _=>Code->Code) (fun c=>c) (fun _ ih c=>match c with
 | .seq _ b=>ih b
 |c=>c) m
def xSp(ih:CodeX)(m:Nat):CodeX:=Nat.rec (motive:=fun _=>CodeX) (fun _ tm S c=>some ⟨.normal,tm,S,c,[]⟩) (fun _ r k tm S c=>match k with
 | .seq a b=>Ziw r b (ih a tm S c)
 |_=>none) m
section
variable {P:Program} {l0 n N:Nat} {H0:Za} {φ:Fm} {ih:CodeX}
def Zug{c:Code}{k:List Itm}{Q:Exit->Zc->Prop}{s s':Zc}(h:AC P φ n N c (fun e t=>e= .normal/\t=s') s)(hk:AK P φ n N k Q s'):AK P φ n N (.code c::k) Q s:=
 AC.mono h fun e t ⟨h1,h2⟩=>by subst h1 h2;exact hk
def Zri(f:Jz P l0 H0 φ n N ih):∀(m:Nat) {k:Code} {tm:LN} {S:Hp} {c:Nat} {x:XC},YX N k=true->xSp ih m k tm S c=some x->x.e= .normal->(∀s,x.W.contains s=false->lkb x.S s=lkb S s)/\
  ∀G,Bas l0 H0 G->Agr l0 S x.W G-> ∀l Q,AK P φ n N (.code (Zg7 m k)::l) Q ⟨x.tm,[],ovB G l0 x.W (lkb x.S)⟩->AK P φ n N (.code k::l) Q ⟨tm,[],G⟩
 |0,k,tm,S,c,x,_,h,_=>by
  cases(show some _=some x from h);exact⟨fun _ _=>rfl,fun G _ _ l Q h=>by rw[VL]at h;exact h⟩
 |m+1,k,tm,S,c,x,hd,h,he=>by
  cases k with
  |seq a b=>
   have h:Ziw (xSp ih m) b (ih a tm S c)=some x:=h;simp only[YX,Qb]at hd;unfold Ziw at h;split at h
   ·rename_i y t;obtain⟨g,q⟩:=f a tm S c y hd.1 t;split at h
    ·rename_i d;obtain⟨z,u,rfl⟩:=XC.Xz h;obtain⟨j,r⟩:=Zri f m hd.2 u he;refine⟨Js g j,fun G i o l Q p=>Zpg (Zug (s':=⟨y.tm,[],ovB G l0 y.W (lkb y.S)⟩) ((q G i o.first).mono ?_) (r _ (i.ov _ _) (o.step g) l Q ?_))⟩
     ·rintro e s' ⟨rfl,rfl⟩;exact⟨d,rfl⟩
     ·rw[Zcy j];exact p
    ·rename_i d;cases h;exact absurd he (by intro e;exact d e)
   ·cases h
  |_=>cases(show none=some x from h)
structure At (l0:Nat) (S:Hp) (c:Nat) (G:Za):Prop where
 blk:∀s,lkb S s≠none->G l0 s=lkb S s
 free:∀s,c<=s->G l0 s=none
def pick(tm:LN)(a:List Nat):LN:=a.map fun t=>(t,lkv tm t)
def ZkA(tm:LN)(t:Nat):∀ts:List Nat,lkv (pick tm ts) t=lkv tm t\/lkv (pick tm ts) t= .dead
 |[]=>.inr rfl
 |u::ts=>by
  show(if u=t then lkv tm u else lkv (pick tm ts) t)=lkv tm t\/(if u=t then lkv tm u else lkv (pick tm ts) t)= .dead;by_cases h:u=t
  ·rw[if_pos h,h];exact .inl rfl
  ·rw[if_neg h];exact ZkA tm t ts
def ZjF(tm:LN)(c:List Nat)(H:Za):AWk n N ⟨tm,[],H⟩ ⟨pick tm c,[],H⟩:=fun B E w a b=>
 ⟨E,⟨b.size,b.defs,fun t=>by
  show VR E (lkv (pick tm c) t) _;rcases ZkA tm t c with h|h<;>rw[h]
  ·exact b.tmps t
  ·exact .dead _,b.heap,b.out⟩,.refl _ _ _⟩
def ZsX{tm b:LN}(h:b.all (fun p=>wkB 40 (lkv tm p.1) p.2)=true)(H:Za):AWk n N ⟨tm,[],H⟩ ⟨b,[],H⟩:=fun B E w a c=>
 ⟨E,⟨c.size,c.defs,fun t=>by
  show VR E (lkv b t) _;rcases lkv_mem (tm:=b) (t:=t)with h'|h'
  ·rw[h'];exact .dead _
  ·exact(Wk.deep (wkB_ok 40 _ _ (Qw.1 h _ h'))).vr (c.tmps t),c.heap,c.out⟩,.refl _ _ _⟩
def Zqp(S:Hp)(c a:Nat)(W:List Nat):Bool:=W.all fun s=>WT (Nat.ble (Nat.succ s) a) (orF (Nat.ble c s) (Za9 S s).isSome)
def ZsA(f:Jz P l0 H0 φ n N ih){m:Nat}{k:Code}{tm:LN}{S:Hp}{c:Nat}{x:XC}(r:YX N k=true)(h:xSp ih m k tm S c=some x)(B:x.e= .normal)(u:Zqp S c x.c x.W=true)(D:c<=x.c)
  {G:Za} (p:Bas l0 H0 G) (b:At l0 S c G) {l:List Itm} {Q:Exit->Zc->Prop} (o:List Nat) (v:∀d,Bas l0 H0 d->(∀q s,q≠l0->d q s=G q s)->At l0 x.S x.c d->AK P φ n N (.code (Zg7 m k)::l) Q ⟨pick x.tm o,[],d⟩):
  AK P φ n N (.code k::l) Q ⟨tm,[],G⟩:=by
 obtain⟨z,t⟩:=Zri f m r h B;have j:∀s,x.W.contains s=true->s<x.c/\(c<=s\/lkb S s≠none):=fun s hs=>by
  have:=Qw.1 u s (by simpa using hs);obtain⟨y,C⟩:=Yq this;refine⟨ZjQ y,?_⟩;cases i:Nat.ble c s with
  |true=>exact .inl (MH i)
  |false=>
   have:=Zi9 C i;rw[lkbF_eq]at this;exact .inr (by intro e;rw[e]at this;cases this)
 have A:Agr l0 S x.W G:=fun s hs=>by
  rcases hs with hs|hs
  ·exact b.blk s hs
  ·by_cases g:lkb S s=none
   ·rcases(j s hs).2 with h|h
    ·rw[b.free s h,g]
    ·exact absurd g h
   ·exact b.blk s g
 refine t G p A l Q (Zm3 (ZjF x.tm o _) (v _ (p.ov _ _) (fun q s w=>by simp only[ovB];rw[if_neg (fun e=>w e.1)]) ⟨fun s hs=>?_,fun s hs=>?_⟩))
 ·simp only[ovB,true_and];cases a:x.W.contains s with
  |true=>simp
  |false=>
   simp only[QE,if_false];rw[z s a]at hs⊢;exact b.blk s hs
 ·simp only[ovB,true_and];cases a:x.W.contains s with
  |true=>exact absurd (j s a).1 om
  |false=>simp only[QE,if_false];exact b.free s om
def ZvW(a:Jz P l0 H0 φ n N ih){k:Code}{tm:LN}{S:Hp}{c:Nat}{x:XC}(i:YX N k=true)(h:ih k tm S c=some x)(p:x.e= .ret)(j:Zqp S c x.c x.W=true)
  {G:Za} (t:Bas l0 H0 G) (b:At l0 S c G) {l:List Itm} {Q:Exit->Zc->Prop} (m:∀f,(∀q s,q≠l0->f q s=G q s)->Q .ret ⟨x.tm,[],f⟩):AK P φ n N (.code k::l) Q ⟨tm,[],G⟩:=by
 obtain⟨y,r⟩:=a k tm S c x i h;have u:Agr l0 S x.W G:=fun s hs=>by
  rcases hs with hs|hs
  ·exact b.blk s hs
  ·by_cases d:lkb S s=none
   ·have:=Qw.1 j s (by simpa using hs);obtain⟨_,v⟩:=Yq this;cases g:Nat.ble c s with
    |true=>rw[b.free s (MH g),d]
    |false=>have:=Zi9 v g;rw[lkbF_eq,d]at this;cases this
   ·exact b.blk s d
 refine AC.mono (r G t u) ?_;rintro e w ⟨rfl,rfl⟩;rw[p];exact ZfW (m _ fun q s o=>by simp only[ovB];rw[if_neg (fun e=>o e.1)]) l
end
def Zuc(ih:CodeX)(m:Nat)(k:Code)(a b:List Nat)(tm:LN)(S:Hp)(c:Nat):Option (LN×List (Nat×Option Ze)×Nat):=match xSp ih m k tm S c with
 |some x=>match x.e with
  | .normal=>Bool.rec none (some (a.map (fun t=>(t,Zmc x.tm t)),b.map (fun s=>(s,Za9 x.S s)),x.c)) (WT (Nat.ble c x.c) (Zqp S c x.c x.W))
  |_=>none
 |none=>none
def At.sub{l0:Nat}{S:Hp}{c:Nat}{G:Za}{f:Nat->Option Ze}(h:At l0 S c G)(hf:f=lkb S):∀(ss:List Nat) (S':Hp),ss.map (fun s=>(s,f s))=S'.map (fun p=>(p.1,some p.2))->At l0 S' c G:=fun ss S' e=>by
 refine⟨fun s hs=>?_,h.free⟩
 suffices hl:∀(ss:List Nat) (S':Hp),ss.map (fun s=>(s,f s))=S'.map (fun p=>(p.1,some p.2))->lkb S' s≠none->lkb S s=lkb S' s by
  rw[<-hl ss S' e hs];exact h.blk s (by rw[hl ss S' e hs];exact hs)
 intro ss;induction ss with
 |nil=>intro S' e hs;cases S' with
  |nil=>exact absurd rfl hs
  |cons p r=>cases e
 |cons a r ih=>
  intro S' e hs;cases S' with
  |nil=>cases e
  |cons p q=>
   obtain⟨i,b⟩:=p;simp only[Qs,Ug,Qax]at e;obtain⟨⟨rfl,j⟩,g⟩:=e;simp only[lkb]at hs⊢;by_cases d:a=s
   ·subst d;rw[if_pos rfl,<-hf,j]
   ·rw[if_neg d]at hs⊢;exact ih q g hs
section
variable {Q:Exit->Zc->Prop} {l:List Itm} {tm:LN}
def Zsz{P:Program}{l0 n N:Nat}{H0:Za}{φ:Fm}{ih:CodeX}(e:Jz P l0 H0 φ n N ih){m:Nat}{k:Code}{i j:List Nat}{a:LN}{S g:Hp}{c o:Nat}(r:YX N k=true)
  (h:Zuc ih m k i j tm S c=some (a,g.map (fun p=>(p.1,some p.2)),o)) {G:Za} (H:Bas l0 H0 G) (w:At l0 S c G) 
  (u:∀b,Bas l0 H0 b->(∀q s,q≠l0->b q s=G q s)->At l0 g o b->AK P φ n N (.code (Zg7 m k)::l) Q ⟨a,[],b⟩):AK P φ n N (.code k::l) Q ⟨tm,[],G⟩:=by
 unfold Zuc at h;split at h
 ·rename_i x C;split at h
  ·rename_i F;cases d:WT (Nat.ble c x.c) (Zqp S c x.c x.W)with
   |false=>rw[d]at h;cases h
   |true=>
    rw[d]at h;obtain⟨t,B⟩:=Yq d;have h:=Uu h;simp only[Qax]at h;obtain⟨D,y,E⟩:=h;refine ZsA e r C F B (MH t) H w i fun b A v I=>?_
    have z:pick x.tm i=a:=by rw[<-D,lkvF_eq];rfl
    rw[z];exact u b A v (by rw[<-E];exact I.sub (f:=Za9 x.S) (by rw[lkbF_eq]) j g y)
  ·cases h
 ·cases h
def Zrm(ih:CodeX)(k:Code)(t:Nat)(tm:LN)(S:Hp)(c:Nat):Bool:=match ih k tm S c with
 |some x=>match x.e with
  | .ret=>match Zmc x.tm t with
   | .bool b=>WT b (Zqp S c x.c x.W)
   |_=>false
  |_=>false
 |none=>false
def Zrn{P:Program}{l0 n N:Nat}{H0:Za}{φ:Fm}{ih:CodeX}(e:Jz P l0 H0 φ n N ih){k:Code}{t:Nat}{S:Hp}{c:Nat}(g:YX N k=true)(h:Zrm ih k t tm S c=true)
  {G:Za} (o:Bas l0 H0 G) (u:At l0 S c G) (i:∀a d,lkv a t= .bool true->(∀q s,q≠l0->d q s=G q s)->Q .ret ⟨a,[],d⟩):AK P φ n N (.code k::l) Q ⟨tm,[],G⟩:=by
 unfold Zrm at h;split at h
 ·rename_i x v;split at h
  ·rename_i m;split at h
   ·rename_i b f;obtain⟨j,p⟩:=Yq h;subst j;rw[lkvF_eq]at f;exact ZvW e g v m p o u fun d r=>i _ d f r
   ·cases h
  ·cases h
 ·cases h
end
end Go.Abs

namespace Go.Proofs.YthajllbimoodjaaGreatDoor
open Go.Abs
def sw9(b a:Nat)(A:List Am)(H:Za)(i:Nat):Zc:=
 ⟨[(4,.int .i64 i),(3,.ptr b a 0),(0,.sl 2 (A.map Am.enc) .any)],[],put H b a (Jb sto0 (A.take i))⟩
def w9(n:Nat)(H:Za)(b c:Nat)(A:List Am)(a:b<n)(j:YW H b c)(k:Zbn A)(l:A.length<=1000000)(p:0<n)(m:Tabs H):
  Zh prog n 9 [.sl 2 (A.map Am.enc) .any] H (fun r o=>r= .ptr b c 0/\o=put H b c (Jb sto0 A)):=by
 refine aF func9 fun B=>?_
 refine gc ?_;refine Ztc rfl b c a j sS ?_;refine aS ?_;refine gh ?_;have hpi:∀q,Inside n q (.ptr b c 0):=fun q=>.ptr _ _ _ (.inl a)
 refine Zx (sw9 b c A H) A.length rfl ?_ ?_
 ·exact KK
 intro i s;refine ZV rfl ?_;have e:Ok (Jb sto0 (A.take i)):=ok0.Jb fun x hx=>k x (UW hx)
 rcases Qd i A.length with h|h
 ·have f:=k _ (Qa h);have d:=Zof sto0 A i h;refine nq h ?_;refine nT ?_;refine nq2 (Am.Zw _ _ h) h ?_;refine Ztd rfl b c _ A[i] rfl a j e.fit f p m sS ?_;rw[<-d];refine aS ?_;refine gd ?_;exact KK
 ·refine nq (QC.2 h) ?_;refine gg ?_;have g:i=A.length:=om;subst g;rw[QV];refine ge ?_;exact Zq (.refl _) (.ptr _ _ _ a) ⟨rfl,rfl⟩
def call9{e:Cx}{i:Oper}{b:List Operand}{j:List TypeId}{F:Zc->Prop}{g:LN}{L:List (Nat×Ze)}{H:Za}(s:e.P=prog)(c d:Nat)(A:List Am)(o:Own)(a:c<e.n)(p:YW H c d)(k:Zbn A)(f:A.length<=1000000)
  (q:0<e.n) (l:Tabs H) (t:Yo e.T (evT g) b j=[.sl 2 (A.map Am.enc) o]) (m:F ⟨Yf g i.dst (.ptr c d 0),L,put H c d (Jb sto0 A)⟩):WV e false i (.func 9) b j ⟨g,L,H⟩ F:=by
 obtain⟨P,T,v,n,N⟩:=e;subst s;have h:=w9 (n+1) (full n L H) c d A (Qal a) (p.full a L) k f (UR _) (l.full q);rw[ZdK n c d _ L H (Qa1 a)]at h;refine YS (caps:=[]) (avs:=[.sl 2 (A.map Am.enc) o]) (Qc:=fun r u=>r= .ptr c d 0/\u=full n L (put H c d (Jb sto0 A))) rfl (Zf func9 rfl rfl) (Zh.wk h ⟨.any _ _ _,trivial⟩) t ?_;rintro r w ⟨rfl,rfl⟩;exact⟨L,_,rfl,ZdZ a,m⟩
end Go.Proofs.YthajllbimoodjaaGreatDoor
