/- Sets of names. -/
import Derived.Test.YtmdeagmbfhbbnaaGreatDoorRQ07
import Derived.Test.YtmdeagmbfhbbnaaGreatDoorRQ06
set_option linter.all false
namespace Go.Proofs.YtmdeagmbfhbbnaaGreatDoorR
open Go.Abs
set_option maxRecDepth 100000
def addN(S:List Str)(x:Str):List Str:=if x∈S then S else S++[x]
def ZO(S l:List Str):List Str:=l.foldl addN S
def encS(S:List Str):List (AV×AV):=Zbb AV.str (fun _:Unit=>AV.agg []) (S.map fun s=>(s,()))
theorem ZjF(x:Str):∀S:List Str,(getM x (S.map fun s=>(s,()))).isSome=decide (x∈S)
 |[]=>rfl
 |y::r=>by
  have ih:=ZjF x r;simp only[Qs,getM];by_cases h:y=x
  ·simp[h]
  ·rw[if_neg h,ih];have:¬x=y:=fun e=>h e.symm
   simp[this]
theorem ZjP(x:Str):∀S:List Str,ZfM x () (S.map fun s=>(s,()))=(addN S x).map fun s=>(s,())
 |[]=>rfl
 |y::r=>by
  have ih:=ZjP x r;simp only[Qs,ZfM];by_cases h:y=x
  ·simp[h,addN]
  ·rw[if_neg h,ih];have:¬x=y:=fun e=>h e.symm
   unfold addN;by_cases h2:x∈r<;>simp[h2,this]
theorem ZqN(x:Str)(S:List Str):ZaH (.str x) (.agg []) (encS S)=encS (addN S x):=by
 unfold encS;rw[←ZjP];exact Zlf kinj_str (fun _:Unit=>AV.agg []) x () _
theorem WE{n:Nat}(S:List Str):Ze.Below n (.map (encS S)):=ZjU (ZfY (ek:=AV.str) (ev:=fun _:Unit=>AV.agg []) (fun _=>.str _) (fun _ _=>Xb fun _ h=>absurd h (Qy)))
theorem Zo5(x:Str)(S:List Str):lookA ⟨.struct [],0,0,[]⟩ (.str x) (encS S) true= .tup [.agg [],.bool (decide (x∈S))]:=by
 have h:=ZjF x S;unfold encS lookA;rw[ZiI kinj_str];cases e:getM x (S.map fun s=>(s,()))with
 |none=>rw[e]at h;simp at h;simp[h];rfl
 |some v=>
  rw[e]at h;simp at h;have h1:=Zi1 e;have h2:(Zbb AV.str (fun _:Unit=>AV.agg []) (S.map fun s=>(s,()))).getD (ixM x (S.map fun s=>(s,()))) (.dead,.dead)=(.str x,.agg []):=by
   rw[Qp,Zbb,QZ,h1];rfl
  simp only[G5,if_true,h2,h,decide_true]
theorem _root_.Go.Abs.Za.Zas(H:Za)(l k:Nat)(b b':Ze):(H.upd l k b).upd l k b'=H.upd l k b':=by
 funext x y;simp only[Za.upd];split<;>rfl
theorem Zpc{S:List Str}{x y:Str}:y∈addN S x↔y∈S∨y=x:=by
 unfold addN;split
 ·rename_i h;constructor
  ·exact .inl
  ·rintro(h'|rfl)
   ·exact h'
   ·exact h
 ·simp
theorem Vz{y:Str}:∀{l S:List Str},y∈ZO S l↔y∈S∨y∈l
 |[],S=>by simp[ZO]
 |x::l,S=>by
  have:=Vz (y:=y) (l:=l) (S:=addN S x);unfold ZO at*;rw[Uu,this,Zpc,Qk,or_assoc]
theorem addsN_nodup:∀{l S:List Str},S.Nodup→(ZO S l).Nodup
 |[],S,h=>h
 |x::l,S,h=>by
  refine addsN_nodup (l:=l) (S:=addN S x) ?_;unfold addN;split
  ·exact h
  ·rename_i hn;exact GH.2 ⟨h,sm,fun a ha b hb e=>by simp only[Ql]at hb;subst hb;subst e;exact hn ha⟩
theorem addsN_len:∀{l S:List Str},(ZO S l).length≤S.length+l.length
 |[],S=>by simp[ZO]
 |x::l,S=>by
  have h1:=addsN_len (l:=l) (S:=addN S x);have h2:(addN S x).length≤S.length+1:=by unfold addN;split<;>simp
  unfold ZO at*;rw[Uu,Qo];omega
theorem ZlV(S l:List Str)(i:Nat)(h:i<l.length):ZO S (l.take (i+1))=addN (ZO S (l.take i)) l[i]:=by
 unfold ZO;rw[Qn h,U6];rfl
def Zs7(l k:Nat)(S xs:List Str)(H:Za)(i:Nat):Zb:=
 ⟨[(8,.int .i64 i),(7,.int .i64 xs.length),(6,.sl 1 (YP xs) .any),(0,.map l k)],[],H.upd l k (.map (encS (ZO S (xs.take i))))⟩
theorem j40(n:Nat)(H:Za)(l k:Nat)(hl:l<n)(S xs:List Str)(hlen:xs.length≤1000000)(hH:H l k=some (.map (encS S))):
  Zi Tryz.prog n 40 [.map l k,.sl 1 (YP xs) .any] H fun r H'=>r= .tup []∧H'=H.upd l k (.map (encS (ZO S xs))):=by
 have hne:¬l=n:=by omega
 have h0:H=H.upd l k (.map (encS (ZO S (xs.take 0)))):=(Yd hH).symm;refine aF Tryz.func40 fun B=>?_
 refine nR ?_;refine kK ?_;refine Zr (Zs7 l k S xs H) xs.length rfl ?_ ?_
 ·unfold Zs7;rw[←h0];exact KK
 intro i hi;refine Ya rfl ?_;rcases Qg i xs.length with h|h
 ·refine nq h ?_;refine nT ?_;refine nr ?_;simp only[go_sem,simprocAttr,getD_map AV.str _ _ h,h];have hput:=ZqN xs[i] (ZO S (xs.take i));have hkk:∀p∈encS (ZO S (xs.take i)),YE tt 9 p.1=true:=fun p hp=>by
   obtain⟨q,_,rfl⟩:=Qb.1 hp;exact Zex _
  have hup:H.upd l k (.map (encS (ZO S (xs.take i)))) l k=some (.map (encS (ZO S (xs.take i)))):=Za.upd_same _ _ _ _;have huu:∀b,(H.upd l k (.map (encS (ZO S (xs.take i))))).upd l k b=H.upd l k b:=fun b=>Za.Zas _ _ _ _ _
  refine nr ?_;simp only[go_sem,simprocAttr,hne,hup,hput,huu,←ZlV S xs i h];refine⟨hkk,.inr (WE _),?_⟩;refine kK ?_;refine nR ?_;refine nN ?_;refine Zh ?_ ?_ ?_ ?_<;>repeat' first|apply q0|exact xx|apply aI
  ·refine aS ?_;rw[iw];exact .refl _
  all_goals first|exact Inside.map _ _ (.inl hl)|exact(XG _).inside
 ·refine nq (QE.2 h) ?_;refine nF ?_;refine nX ?_;have hi':i=xs.length:=by omega
  subst hi';refine nN ?_;exact⟨by simp[XW],[],trivial,sm,rfl,by rw[QM]⟩
def Zvu(l k:Nat)(xs:List Str)(H:Za)(i:Nat):Zb:=
 ⟨[(11,.int .i64 i),(10,.int .i64 xs.length),(9,.sl 1 (YP xs) .any),(0,.map l k)],[],H⟩
theorem j48(n:Nat)(H:Za)(l k:Nat)(hl:l<n)(S xs:List Str)(hlen:xs.length≤1000000)(hH:H l k=some (.map (encS S))):
  PC Tryz.prog n 48 [.map l k,.sl 1 (YP xs) .any] H (.bool (Va S xs)):=by
 have hne:¬l=n:=by omega
 refine aF Tryz.func48 fun B=>?_
 refine nR ?_;refine nR ?_;refine kK ?_;refine Yc (Zvu l k xs H) (fun i=>∀j (h:j<xs.length),j<i→xs[j]∈S) xs.length rfl ?_ (fun j _ h=>absurd h (Qm _)) ?_
 ·exact KK
 intro i hi hq;refine Ya rfl ?_;rcases Qg i xs.length with h|h
 ·refine nq h ?_;refine nT ?_;refine nr ?_;simp only[go_sem,simprocAttr,getD_map AV.str _ _ h,h];have hkk:∀p∈encS S,YE tt 9 p.1=true:=fun p hp=>by
   obtain⟨q,_,rfl⟩:=Qb.1 hp;exact Zex _
  have hlook:=Zo5 xs[i] S;refine nq3 hne hH hlook ?_;refine⟨hkk,?_⟩;refine kK ?_;refine nR ?_;by_cases hx:xs[i]∈S
  ·have e:(!decide (xs[i]∈S))=false:=by simp[hx]
   refine VB rfl rfl (by simp only[go_sem,simprocAttr,e]) ?_;refine nR ?_;refine nN ?_;refine⟨fun j hj hji=>?_,?_⟩
   ·rcases Qg j i with h'|h'
    ·exact hq j hj h'
    ·have:j=i:=by omega
     subst this;exact hx
   ·refine Zh ?_ ?_ ?_ ?_<;>repeat' first|apply q0|exact xx|apply aI
    ·refine aS ?_;rw[iw];exact .refl _
    all_goals first|exact Inside.map _ _ (.inl hl)|exact(XG _).inside|skip
  ·have e:(!decide (xs[i]∈S))=true:=by simp[hx]
   have e2:Va S xs=false:=by
    rw[←MN,ZbO];exact fun hh=>hx (hh _ (Qa h))
   refine VK rfl rfl (by simp only[go_sem,simprocAttr,e]) ?_;refine nR ?_;refine nW ?_;rw[e2];refine Zc ?_ (.bool _) rfl;exact xS
 ·refine nq (QE.2 h) ?_;refine nF ?_;refine nX ?_;have e2:Va S xs=true:=by
   rw[ZbO];intro x hx;obtain⟨j,hj,rfl⟩:=QJ hx;exact hq j hj om
  refine nR ?_;refine nV ?_;rw[e2];refine Zc ?_ (.bool _) rfl;exact xS
end Go.Proofs.YtmdeagmbfhbbnaaGreatDoorR

namespace Go.Abs
def eBd(p:List UInt8×Tm):AV:=.agg (.str p.1::p.2.cs)
def Zk(b:Bnd):AV:=.sl 5 (b.map eBd) .any
theorem Zfu(n:Nat)(p:List UInt8×Tm):Below n (eBd p):=Xb (List.forall_mem_cons.2 ⟨.str _,p.2.bcs.mem⟩)
theorem Zx(n:Nat)(b:Bnd):Below n (Zk b):=ZC fun x hx=>by obtain⟨u,_,rfl⟩:=Qb.1 hx;exact Zfu n u
def eSs(l:List (List UInt8)):AV:=.sl 1 (l.map .str) .any
theorem Zfs(n:Nat)(l:List (List UInt8)):Below n (eSs l):=ZC fun x hx=>by obtain⟨u,_,rfl⟩:=Qb.1 hx;exact .str _
theorem Zls(b:Bnd):(Zk b).cells=[Zk b]:=rfl
theorem ZnD(l:List (List UInt8)):(eSs l).cells=[eSs l]:=rfl
theorem ZoD(b:Bnd):(Zk b).one=true:=rfl
theorem Zqw(l:List (List UInt8)):(eSs l).one=true:=rfl
attribute [go_sem] Zls ZnD ZoD Zqw
namespace Lt
def cs(x:Lt):List AV:=[.int .u8 x.kind,.bool x.neg,.str x.at_.pred,.sl 4 (x.at_.args.map Tm.enc) .any,.int .u8 x.op,
 .int .u8 x.L.kind,.int .i64 x.L.num,.str x.L.name,.sl 4 (x.L.args.map Tm.enc) .any,.int .u8 x.R.kind,.int .i64 x.R.num,.str x.R.name,.sl 4 (x.R.args.map Tm.enc) .any]
def enc(x:Lt):AV:=.agg x.cs
theorem bcs{n:Nat}(x:Lt):Yi (fun c=>Below n c) x.cs:=⟨.int _ _,.bool _,.str _,ZE _,.int _ _,.int _ _,.int _ _,.str _,ZE _,.int _ _,.int _ _,.str _,ZE _,trivial⟩
theorem blw(n:Nat)(x:Lt):Below n x.enc:=Xb x.bcs.mem
theorem fold(x:Lt):AV.agg [.int .u8 x.kind,.bool x.neg,.str x.at_.pred,.sl 4 (x.at_.args.map Tm.enc) .any,.int .u8 x.op,
 .int .u8 x.L.kind,.int .i64 x.L.num,.str x.L.name,.sl 4 (x.L.args.map Tm.enc) .any,.int .u8 x.R.kind,.int .i64 x.R.num,.str x.R.name,.sl 4 (x.R.args.map Tm.enc) .any]=x.enc:=rfl
theorem Xl(x:Lt):x.enc.cells=x.cs:=rfl
theorem Zp(l:List Lt)(i:Nat)(h:i<l.length)(d:AV):(l.map enc).getD i d=(l[i]).enc:=by
 rw[Qp,QZ,Qd h];rfl
structure Good (x:Lt):Prop where
 at_:x.at_.Good
 L:x.L.Good
 R:x.R.Good
end Lt
theorem Yb{n k:Nat}(l:List Lt):Below n (.sl k (l.map Lt.enc) .any):=ZC fun x hx=>by obtain⟨u,_,rfl⟩:=Qb.1 hx;exact u.blw n
theorem Zw{n k:Nat}(l:List Bnd):Below n (.sl k (l.map Zk) .any):=ZC fun x hx=>by obtain⟨u,_,rfl⟩:=Qb.1 hx;exact Zx n u
theorem Zau{n k:Nat}(l:List (List (List UInt8))):Below n (.sl k (l.map eSs) .any):=ZC fun x hx=>by obtain⟨u,_,rfl⟩:=Qb.1 hx;exact Zfs n u
end Go.Abs
namespace Go.Proofs.YtmdeagmbfhbbnaaGreatDoorR
open Go.Abs
set_option maxRecDepth 100000
abbrev SS:=List Str
def ZtS(l:List (Tm))(f:Nat)(caps:List AV)(g:Tm→Tm)(n:Nat)(H:Za)(i:Nat):Zb:=
 ⟨[(10,.int .i64 i),(9,.int .i64 l.length),(8,.sl 4 (l.map Tm.enc) .any),(5,.sl 4 (((l.take i).map g).map Tm.enc) (.buf n 200)),(1,.fn (.func f) caps)],[(200,.buf 40 4 i)],H⟩
theorem j70(l:List (Tm))(hl:l.length≤1000000)(f:Nat)(caps:List AV)(g:Tm→Tm)(hp:Zfb f caps Tm.enc Tm.enc l g):Z4 Tryz.prog 70 [.sl 4 (l.map Tm.enc) .any,.fn (.func f) caps] (.sl 4 ((l.map g).map Tm.enc) .any):=by
 intro n H hn hT;obtain⟨⟨fn,c,hf⟩,hp,hbl⟩:=hp;have hfi:∀q,Inside n q (.fn (.func f) caps):=fun q=>(Below.fn _ _ fun i hi=>(hbl n).mem _ (Qa hi)).inside
 have hbi:∀q,Inside n q (.sl 4 (l.map Tm.enc) .any):=fun q=>(ZE _).inside
 have ho:∀(q:Nat→Prop) (r:List (Tm)),q 200→Inside n q (.sl 4 (r.map Tm.enc) (.buf n 200)):=fun q r h=>Abs.ZW (fun x hx=>by obtain⟨u,_,rfl⟩:=Qb.1 hx;exact Tm.blw n u) h
 refine aF Tryz.func70 fun B=>?_
 refine nR ?_;refine nR ?_;refine nR ?_;refine kK ?_;refine XB 5 200 40 4 rfl rfl ?_;refine Zr (ZtS l f caps g n H) l.length rfl ?_ ?_
 ·exact KK
 intro i hi;refine Ya rfl ?_;rcases Qg i l.length with h|h
 ·have hmin:(l.take i).length=i:=Uo om;refine nq h ?_;refine nT ?_;refine nr ?_;simp only[go_sem,simprocAttr,getD_map Tm.enc _ _ h,h];refine nR ?_;refine YD (avs:=[Tm.enc l[i]]) rfl hf (hp l[i] (Qa h) _ _ (QW _) (hT.full hn)) rfl ?_;refine aq hmin ?_;refine⟨by first|exact⟨rfl,dc⟩|exact⟨rfl,rfl,rfl⟩|exact rfl,⟨Zn om,om⟩,?_⟩;refine nR ?_;refine nN ?_;refine Zh ?_ ?_ ?_ ?_<;>repeat' first|apply q0|exact xx|apply aI
  ·refine aS ?_;rw[iw];exact .refl _
  ·simp only[go_sem,simprocAttr,Qn h,QG];exact .refl _
  all_goals first|exact hfi _|exact hbi _|exact ho _ _ rfl
 ·refine nq (QE.2 h) ?_;refine nF ?_;refine nX ?_;have hi':i=l.length:=by omega
  subst hi';refine nt0 ?_;refine nV ?_;refine Zc ?_ (ZE _) rfl;refine aS ?_;exact .any _ _ _
def Zt1(l:List (Tm))(f:Nat)(caps:List AV)(g:Tm→SS)(n:Nat)(H:Za)(i:Nat):Zb:=
 ⟨[(10,.int .i64 i),(9,.int .i64 l.length),(8,.sl 4 (l.map Tm.enc) .any),(5,.sl 1 (((l.take i).map g).map eSs) (.buf n 200)),(1,.fn (.func f) caps)],[(200,.buf 35 1 i)],H⟩
theorem j83(l:List (Tm))(hl:l.length≤1000000)(f:Nat)(caps:List AV)(g:Tm→SS)(hp:Zfb f caps Tm.enc eSs l g):Z4 Tryz.prog 83 [.sl 4 (l.map Tm.enc) .any,.fn (.func f) caps] (.sl 1 ((l.map g).map eSs) .any):=by
 intro n H hn hT;obtain⟨⟨fn,c,hf⟩,hp,hbl⟩:=hp;have hfi:∀q,Inside n q (.fn (.func f) caps):=fun q=>(Below.fn _ _ fun i hi=>(hbl n).mem _ (Qa hi)).inside
 have hbi:∀q,Inside n q (.sl 4 (l.map Tm.enc) .any):=fun q=>(ZE _).inside
 have ho:∀(q:Nat→Prop) (r:List (SS)),q 200→Inside n q (.sl 1 (r.map eSs) (.buf n 200)):=fun q r h=>Abs.ZW (fun x hx=>by obtain⟨u,_,rfl⟩:=Qb.1 hx;exact Zfs n u) h
 refine aF Tryz.func83 fun B=>?_
 refine nR ?_;refine nR ?_;refine nR ?_;refine kK ?_;refine XB 5 200 35 1 rfl rfl ?_;refine Zr (Zt1 l f caps g n H) l.length rfl ?_ ?_
 ·exact KK
 intro i hi;refine Ya rfl ?_;rcases Qg i l.length with h|h
 ·have hmin:(l.take i).length=i:=Uo om;refine nq h ?_;refine nT ?_;refine nr ?_;simp only[go_sem,simprocAttr,getD_map Tm.enc _ _ h,h];refine nR ?_;refine YD (avs:=[Tm.enc l[i]]) rfl hf (hp l[i] (Qa h) _ _ (QW _) (hT.full hn)) rfl ?_;refine aq hmin ?_;refine⟨by first|exact⟨rfl,dc⟩|exact⟨rfl,rfl,rfl⟩|exact rfl,⟨Zn om,om⟩,?_⟩;refine nR ?_;refine nN ?_;refine Zh ?_ ?_ ?_ ?_<;>repeat' first|apply q0|exact xx|apply aI
  ·refine aS ?_;rw[iw];exact .refl _
  ·simp only[go_sem,simprocAttr,Qn h,QG];exact .refl _
  all_goals first|exact hfi _|exact hbi _|exact ho _ _ rfl
 ·refine nq (QE.2 h) ?_;refine nF ?_;refine nX ?_;have hi':i=l.length:=by omega
  subst hi';refine nt0 ?_;refine nV ?_;refine Zc ?_ (Zau _) rfl;refine aS ?_;exact .any _ _ _
def Zsx(l:List (Tm))(f:Nat)(caps:List AV)(g:Tm→Bnd)(n:Nat)(H:Za)(i:Nat):Zb:=
 ⟨[(10,.int .i64 i),(9,.int .i64 l.length),(8,.sl 4 (l.map Tm.enc) .any),(5,.sl 1 (((l.take i).map g).map Zk) (.buf n 200)),(1,.fn (.func f) caps)],[(200,.buf 34 1 i)],H⟩
theorem j136(l:List (Tm))(hl:l.length≤1000000)(f:Nat)(caps:List AV)(g:Tm→Bnd)(hp:Zfb f caps Tm.enc Zk l g):Z4 Tryz.prog 136 [.sl 4 (l.map Tm.enc) .any,.fn (.func f) caps] (.sl 1 ((l.map g).map Zk) .any):=by
 intro n H hn hT;obtain⟨⟨fn,c,hf⟩,hp,hbl⟩:=hp;have hfi:∀q,Inside n q (.fn (.func f) caps):=fun q=>(Below.fn _ _ fun i hi=>(hbl n).mem _ (Qa hi)).inside
 have hbi:∀q,Inside n q (.sl 4 (l.map Tm.enc) .any):=fun q=>(ZE _).inside
 have ho:∀(q:Nat→Prop) (r:List (Bnd)),q 200→Inside n q (.sl 1 (r.map Zk) (.buf n 200)):=fun q r h=>Abs.ZW (fun x hx=>by obtain⟨u,_,rfl⟩:=Qb.1 hx;exact Zx n u) h
 refine aF Tryz.func136 fun B=>?_
 refine nR ?_;refine nR ?_;refine nR ?_;refine kK ?_;refine XB 5 200 34 1 rfl rfl ?_;refine Zr (Zsx l f caps g n H) l.length rfl ?_ ?_
 ·exact KK
 intro i hi;refine Ya rfl ?_;rcases Qg i l.length with h|h
 ·have hmin:(l.take i).length=i:=Uo om;refine nq h ?_;refine nT ?_;refine nr ?_;simp only[go_sem,simprocAttr,getD_map Tm.enc _ _ h,h];refine nR ?_;refine YD (avs:=[Tm.enc l[i]]) rfl hf (hp l[i] (Qa h) _ _ (QW _) (hT.full hn)) rfl ?_;refine aq hmin ?_;refine⟨by first|exact⟨rfl,dc⟩|exact⟨rfl,rfl,rfl⟩|exact rfl,⟨Zn om,om⟩,?_⟩;refine nR ?_;refine nN ?_;refine Zh ?_ ?_ ?_ ?_<;>repeat' first|apply q0|exact xx|apply aI
  ·refine aS ?_;rw[iw];exact .refl _
  ·simp only[go_sem,simprocAttr,Qn h,QG];exact .refl _
  all_goals first|exact hfi _|exact hbi _|exact ho _ _ rfl
 ·refine nq (QE.2 h) ?_;refine nF ?_;refine nX ?_;have hi':i=l.length:=by omega
  subst hi';refine nt0 ?_;refine nV ?_;refine Zc ?_ (Zw _) rfl;refine aS ?_;exact .any _ _ _
end Go.Proofs.YtmdeagmbfhbbnaaGreatDoorR

namespace Go.Proofs.YtmdeagmbfhbbnaaGreatDoorR
open Go.Abs
set_option maxRecDepth 100000
theorem inZ{n k:Nat}{p:Nat→Prop}:Inside n p (.sl k [] .full):=(YT (n:=n) (fun _ h=>by cases h) (fun _ _ e=>by cases e)).inside
theorem Zve(t:Tm)(ht:t.Good)(hm:Zfb 49 [] Tm.enc Tm.enc t.args id):Z4 Tryz.prog 49 [t.enc] t.enc:=by
 intro n H hn hT;have ha:=j70 t.args ht.len _ [] id hm;rw[Qbn]at ha;refine aF Tryz.func49 fun B=>?_
 refine nR ?_;refine nR ?_;refine cT (ha) ?_;refine nR ?_;refine nV ?_;refine ZX (.inl rfl) _ n 2 0 t.cs sS sF rfl (Qe _) sS ?_ (Tm.blw _ t) rfl;exact xS
theorem j49(t:Tm)(ht:t.Good):Z4 Tryz.prog 49 [t.enc] t.enc:=
 Zve t ht ⟨⟨_,_,Zf Tryz.func49 rfl rfl⟩,fun u hu=>j49 u (ht.arg hu),fun _=>trivial⟩
termination_by SizeOf.sizeOf t
decreasing_by exact Tm.Xm hu
theorem Zvf(s p:List UInt8):Pure Tryz.prog 183 [.str s,.str p] (.bool (hpre s p)):=by
 intro n H;refine aF Tryz.func183 fun B=>?_
 refine nR ?_;refine nR ?_;refine cP (a198 s p) ?_;exact pB
theorem Zo2(s:List UInt8):hpre s [35]=decide (s.head? =some 35):=by
 cases s with
 |nil=>rfl
 |cons b r=>rw[UQ];simp[hpre]
theorem Zng(t:Tm):plainT t= .mk t.kind t.num (if t.kind=3∧t.name.head? =some 35 then [88]else t.name) (t.args.map plainT):=by
 cases t;rw[plainT,plains_eq];rfl
theorem ZtA(t:Tm)(ht:t.Good)(hm:Zfb 124 [] Tm.enc Tm.enc t.args plainT):Z4 Tryz.prog 124 [t.enc] (plainT t).enc:=by
 intro n H hn hT;have ha:=j70 t.args ht.len _ [] plainT hm;have he:(plainT t).enc= .agg [.int .u8 t.kind,.int .i64 t.num,.str (if t.kind=3∧t.name.head? =some 35 then [88]else t.name),.sl 4 ((t.args.map plainT).map Tm.enc) .any]:=by
  rw[Zng,Tm.Vx];rfl
 refine aF Tryz.func124 fun B=>?_
 obtain⟨nw,hnw⟩:∃nw:Bool,nw=decide (t.kind=3∧t.name.head? =some 35):=⟨_,rfl⟩
 obtain⟨nm,hnm⟩:∃nm:Str,nm=if t.kind=3∧t.name.head? =some 35 then [88]else t.name:=⟨_,rfl⟩
 rw[←hnm]at he;rw[he];refine nR ?_;refine kK ?_;refine VU ⟨[(10,.bool nw),(2,.ptr n 2 0),(1,.ptr n 1 0)],[(1,.box [.int .u8 t.kind,.int .i64 t.num,.str t.name,.sl 4 (t.args.map Tm.enc) .any]),(2,.box [.int .u8 0,.int .i64 0,.str [],.sl 4 [] .full])],H⟩ ?_ ?_
 ·refine nR ?_;cases h1:t.kind==3 with
  |false=>
   have e:nw=false:=by rw[hnw];simp only[beq_eq_false_iff_ne]at h1;simp[h1]
   refine aq h1 ?_;refine nN ?_;refine⟨rfl,?_⟩;rw[e];exact KK
  |true=>
   have e:nw=hpre t.name [35]:=by rw[hnw,Zo2];simp only[beq_iff_eq]at h1;simp[h1]
   refine aq h1 ?_;refine cP (Zvf t.name [35]) ?_;refine nN ?_;refine⟨rfl,?_⟩;rw[e];exact KK
 refine kK ?_;refine VU ⟨[(2,.ptr n 2 0),(1,.ptr n 1 0)],[(1,.box [.int .u8 t.kind,.int .i64 t.num,.str nm,.sl 4 (t.args.map Tm.enc) .any]),(2,.box [.int .u8 0,.int .i64 0,.str [],.sl 4 [] .full])],H⟩ ?_ ?_
 ·cases nw with
  |false=>
   have e:nm=t.name:=by rw[hnm,if_neg (of_decide_eq_false hnw.symm)]
   refine nF ?_;refine nN ?_;refine⟨rfl,?_⟩;rw[e];exact KK
  |true=>
   have e:nm=[88]:=by rw[hnm,if_pos (of_decide_eq_true hnw.symm)]
   refine nT ?_;refine nR ?_;refine nN ?_;refine⟨rfl,?_⟩;rw[e];exact KK
 refine nR ?_;refine cT (ha) ?_;refine nR ?_;refine nV ?_;refine ZX (.inl rfl) _ n 2 0 [.int .u8 t.kind,.int .i64 t.num,.str nm,.sl 4 ((t.args.map plainT).map Tm.enc) .any] sS sF rfl (Qe _) sS ?_ (by rw[←he];exact Tm.blw _ _) rfl;exact xS
theorem j124(t:Tm)(ht:t.Good):Z4 Tryz.prog 124 [t.enc] (plainT t).enc:=
 ZtA t ht ⟨⟨_,_,Zf Tryz.func124 rfl rfl⟩,fun u hu=>j124 u (ht.arg hu),fun _=>trivial⟩
termination_by SizeOf.sizeOf t
decreasing_by exact Tm.Xm hu
theorem plain_good:∀(t:Tm),(t.Nm→(plainT t).Nm)∧(plainT t).sz=t.sz
 | .mk k n s l=>by
  have ih:∀u∈l,(u.Nm→(plainT u).Nm)∧(plainT u).sz=u.sz:=fun u hu=>plain_good u
  refine⟨fun h=>?_,?_⟩
  ·cases h with|mk _ _ _ _ h1 h2 h3 h4 h5=>
   rw[plainT,plains_eq];refine .mk _ _ _ _ ?_ h2 h3 (by simpa using h4) fun u hu=>?_
   ·split
    ·simp
    ·exact h1
   ·obtain⟨v,hv,rfl⟩:=Qb.1 hu;exact(ih v hv).1 (h5 v hv)
  ·rw[plainT,plains_eq,Tm.sz,Tm.sz];have:∀q:List Tm,(∀u∈q,u∈l)→Tm.sz.szs (q.map plainT)=Tm.sz.szs q:=by
    intro q;induction q with
    |nil=>intro _;rfl
    |cons u q ihq=>intro hq;simp only[Qs,Tm.sz.szs,(ih u (hq u sm)).2,ihq fun v hv=>hq v (by simp[hv])]
   rw[this l fun _ h=>h]
termination_by t=>SizeOf.sizeOf t
decreasing_by
 have:=QU hu;simp only[Tm.mk.sizeOf_spec];omega
theorem _root_.Go.Abs.Tm.Good.plain{t:Tm}(h:t.Good):(plainT t).Good:=⟨by rw[(plain_good t).2];exact h.sz,(plain_good t).1 h.nm⟩
theorem j77(t:Tm)(ht:t.Good):Z4 Tryz.prog 77 [t.enc] (.bool (Zah t)):=by
 intro n H hn hT;refine aF Tryz.func77 fun B=>?_
 refine nR ?_;refine nR ?_;refine cT (j124 t ht) ?_;refine cT (a72 (plainT t) ht.plain) ?_;refine YO rfl rfl ?_;refine Zc ?_ (.bool _) rfl;try simp only[go_sem,simprocAttr,Zah]
 exact .refl _
theorem j76(t:Tm)(ht:t.Good):Z4 Tryz.prog 76 [t.enc] (.bool (!Zah t)):=by
 intro n H hn hT;refine aF Tryz.func76 fun B=>?_
 refine nR ?_;refine nR ?_;refine cT (j77 t ht) ?_;exact pB
def eqL{α:Type}(e:α→α→Bool):List α→List α→Bool
 |[],[]=>true
 |a::x,b::y=>e a b&&eqL e x y
 |_,_=>false
theorem ZmM{α:Type}{e:α→α→Bool}:∀{p q:List α},p.length≠q.length→eqL e p q=false
 |[],[],h=>absurd rfl h
 |[],_::_,_=>rfl
 |_::_,[],_=>rfl
 |a::p,b::q,h=>by rw[eqL,ZmM (p:=p) (q:=q) (by simpa using h),Qbm]
theorem Zka{α:Type}{e:α→α→Bool}:∀{p q:List α},p.length=q.length→(∀j (h:j<p.length) (h':j<q.length),e p[j] q[j]=true)→eqL e p q=true
 |[],[],_,_=>rfl
 |[],_::_,h,_=>by cases h
 |_::_,[],h,_=>by cases h
 |a::p,b::q,h,hj=>by
  have h0:=hj 0 sm sm;simp only[Ud]at h0;rw[eqL,h0,MP];exact Zka (by simpa using h) (fun j h1 h2=>by have:=hj (j+1) (by simpa using h1) (by simpa using h2);simpa using this)
theorem Zhr{α:Type}{e:α→α→Bool}:∀{p q:List α} {j:Nat} (h:j<p.length) (h':j<q.length),e p[j] q[j]=false→eqL e p q=false
 |a::p,b::q,0,_,_,hj=>by simp only[Ud]at hj;rw[eqL,hj,Qau]
 |a::p,b::q,j+1,h,h',hj=>by
  simp only[UW]at hj;rw[eqL,Zhr (by simpa using h) (by simpa using h') hj,Qbm]
theorem eqs_eqL:∀p q:List Tm,eqT.eqs p q=eqL eqT p q
 |[],[]=>rfl
 |[],_::_=>rfl
 |_::_,[]=>rfl
 |a::p,b::q=>by rw[eqT.eqs,eqL,eqs_eqL p q]
def ZuH(p q:List Tm)(H:Za)(i:Nat):Zb:=
 ⟨[(5,.int .i64 i),(0,.sl 4 (p.map Tm.enc) .any),(1,.sl 4 (q.map Tm.enc) .any)],[],H⟩
theorem ZtE(p q:List Tm)(hl:p.length≤1000000)(hc:∀x∈p,∀y∈q,Pure Tryz.prog 73 [x.enc,y.enc] (.bool (eqT x y))):Pure Tryz.prog 123 [.sl 4 (p.map Tm.enc) .any,.sl 4 (q.map Tm.enc) .any] (.bool (eqL eqT p q)):=by
 intro n H;refine aF Tryz.func123 fun B=>?_
 refine nR ?_;cases h4:((p.length:Int)==q.length)with
 |false=>
  refine nr ?_;simp only[go_sem,simprocAttr,bne,h4];refine nT ?_;refine nR ?_;refine YO rfl rfl ?_;refine Zc ?_ (.bool _) rfl;try simp only[go_sem,simprocAttr,ZmM (nat_ne h4)]
  exact .refl _
 |true=>
 have hlen:p.length=q.length:=nat_eq h4;refine nr ?_;simp only[go_sem,simprocAttr,bne,h4];refine nF ?_;refine nR ?_;repeat refine kn rfl ?_
 refine Yc (ZuH p q H) (fun i=>∀j (h:j<p.length),j<i→eqT p[j] (q[j]'om)=true) p.length rfl ?_ (fun j _ h=>absurd h (Qm _)) ?_
 ·exact KK
 intro i hi hq;refine Ya rfl ?_;rcases Qg i p.length with h|h
 ·have h':i<q.length:=by omega
  refine nq h ?_;refine nT ?_;refine nD drawO ?_;simp only[go_sem,simprocAttr,Tm.Zp _ _ h,h,Tm.Zp _ _ h',h'];refine cP (hc _ (Qa h) _ (Qa h')) ?_;cases h5:eqT p[i] q[i]with
  |false=>
   refine VK rfl rfl (by simp only[go_sem,simprocAttr,h5]) ?_;refine nR ?_;refine nW ?_;refine Zc ?_ (.bool _) rfl;refine aq (Zhr h h' h5) ?_;exact .refl _
  |true=>
   refine VB rfl rfl (by simp only[go_sem,simprocAttr,h5]) ?_;refine nR ?_;refine nN ?_;refine⟨fun j hj hji=>?_,?_⟩
   ·rcases Qg j i with h'|h'
    ·exact hq j hj h'
    ·have:j=i:=by omega
     subst this;exact h5
   ·refine Zh ?_ ?_ ?_ ?_<;>repeat' first|apply q0|exact xx|apply aI
    refine aS ?_;rw[iw];exact .refl _
 ·refine nq (QE.2 h) ?_;refine nF ?_;refine nX ?_;refine nR ?_;refine nV ?_;refine Zc ?_ (.bool _) rfl;refine aq (Zka hlen (fun j h h'=>hq j h om)) ?_;exact .refl _
theorem a62(a b:Tm)(ha:a.Good):Pure Tryz.prog 73 [a.enc,b.enc] (.bool (eqT a b)):=by
 intro n H;have hx:=ZoX a b;have hl:=ha.len;refine aF Tryz.func73 fun B=>?_
 refine nR ?_;cases h1:(a.kind==b.kind)with
 |false=>
  refine nq h1 ?_;refine YO rfl rfl ?_;refine Zc ?_ (.bool _) rfl;try simp only[go_sem,simprocAttr,hx,h1]
  exact .refl _
 |true=>
 cases h2:(a.num==b.num)with
 |false=>
  refine nq2 h1 h2 ?_;refine YO rfl rfl ?_;refine Zc ?_ (.bool _) rfl;try simp only[go_sem,simprocAttr,hx,h1,h2]
  exact .refl _
 |true=>
 cases h3:(a.name==b.name)with
 |false=>
  refine nq3 h1 h2 h3 ?_;refine YO rfl rfl ?_;refine Zc ?_ (.bool _) rfl;try simp only[go_sem,simprocAttr,hx,h1,h2,h3]
  exact .refl _
 |true=>
  refine nq3 h1 h2 h3 ?_;refine cP (ZtE a.args b.args hl (fun x hx y _=>a62 x y (ha.arg hx))) ?_;refine YO rfl rfl ?_;refine Zc ?_ (.bool _) rfl;try simp only[go_sem,simprocAttr,hx,h1,h2,h3,eqs_eqL]
  exact .refl _
termination_by SizeOf.sizeOf a
decreasing_by exact Tm.Xm hx
theorem a28(a b:Am)(ha:a.Good):Pure Tryz.prog 72 [a.enc,b.enc] (.bool (eqA a b)):=by
 intro n H;have hx:eqA a b=((a.pred==b.pred)&&eqL eqT a.args b.args):=by rw[eqA,eqs_eqL]
 have hl:=ha.len;refine aF Tryz.func72 fun B=>?_
 refine nR ?_;cases h3:(a.pred==b.pred)with
 |false=>
  refine nq h3 ?_;refine YO rfl rfl ?_;refine Zc ?_ (.bool _) rfl;try simp only[go_sem,simprocAttr,hx,h3]
  exact .refl _
 |true=>
  refine nq h3 ?_;refine cP (ZtE a.args b.args hl (fun x hx y _=>a62 x y (ha.arg hx))) ?_;refine YO rfl rfl ?_;refine Zc ?_ (.bool _) rfl;try simp only[go_sem,simprocAttr,hx,h3]
  exact .refl _
end Go.Proofs.YtmdeagmbfhbbnaaGreatDoorR

namespace Go.Abs
structure Ak where
 s:Sg
 c:Int
 t:List UInt8
deriving DecidableEq
def Ak.enc(k:Ak):AV:=.agg [.str k.s.p,.int .i64 k.s.n,.int .i64 k.c,.str k.t]
structure Sto where
 A:List Am
 N:List (List UInt8×Int)
 S:List (Sg×List Int)
 R:List (Ak×List Int)
def intsOf(ix:List Int):List AV:=ix.map (AV.int .i64)
def ents{κ:Type}(enc:κ→AV)(l b:Nat):Nat→List (κ×List Int)→List (AV×AV)
 |_,[]=>[]
 |i,p::r=>(enc p.1,.sl 1 (intsOf p.2) (.buf l (b+2*i)))::ents enc l b (i+1) r
def Znw{κ:Type}(b:Nat):Nat→List (κ×List Int)→List (Nat×Ze)
 |_,[]=>[]
 |i,p::r=>(b+2*i,.buf 3 1 p.2.length)::Znw b (i+1) r
def Yz(l b:Nat)(A:List Am):AV:=if A=[]then .sl 2 [] .full else .sl 2 (A.map Am.enc) (.buf l (b+1))
def ZR(l b:Nat)(A:List Am):List AV:=[Yz l b A,.map l (b+2),.map l (b+3),.map l (b+4)]
def lst(l b:Nat)(s:Sto):List (Nat×Ze):=
 (b,.box (ZR l b s.A))::(b+2,.map (s.N.map fun p=>(.str p.1,.int .i64 p.2)))::(b+3,.map (ents Sg.enc l (b+5) 0 s.S))::(b+4,.map (ents Ak.enc l (b+6) 0 s.R))::
  ((if s.A=[]then []else [(b+1,.buf 52 2 s.A.length)])++Znw (b+5) 0 s.S++Znw (b+6) 0 s.R)
def put(H:Za)(l b:Nat)(s:Sto):Za:=fun l' k=>if l'=l then(lkb (lst l b s) k).or (H l' k)else H l' k
theorem lkb_append:∀(p q:List (Nat×Ze)) (k:Nat),lkb (p++q) k=(lkb p k).or (lkb q k)
 |[],q,k=>rfl
 |(i,x)::p,q,k=>by
  simp only[Q9,lkb];split
  ·rfl
  ·exact lkb_append p q k
theorem Zj5{κ:Type}(b:Nat):∀(i:Nat) (es:List (κ×List Int)) (k:Nat),lkb (Znw b i es) k=if b+2*i≤k∧(k - b) % 2=0 then(es[(k - b) / 2 - i]?).map (fun p=>Ze.buf 3 1 p.2.length)else none
 |i,[],k=>by simp[Znw,lkb]
 |i,p::r,k=>by
  rw[Znw,lkb];by_cases h:b+2*i=k
  ·subst h;rw[if_pos rfl,if_pos ⟨Qe _,om⟩];have:(b+2*i - b) / 2 - i=0:=by omega
   rw[this];rfl
  ·rw[if_neg h,Zj5 b (i+1) r k];by_cases h2:b+2*(i+1)≤k∧(k - b) % 2=0
   ·rw[if_pos h2,if_pos ⟨om,h2.2⟩];have:(k - b) / 2 - i=(k - b) / 2 - (i+1)+1:=by omega
    rw[this,UJ]
   ·rw[if_neg h2];by_cases h3:b+2*i≤k∧(k - b) % 2=0
    ·exfalso;exact h2 ⟨om,h3.2⟩
    ·rw[if_neg h3]
theorem Y6(l b:Nat)(s:Sto)(k:Nat):lkb (lst l b s) k=
  if k=b then some (.box (ZR l b s.A))else if k=b+2 then some (.map (s.N.map fun p=>(.str p.1,.int .i64 p.2)))else if k=b+3 then some (.map (ents Sg.enc l (b+5) 0 s.S))else if k=b+4 then some (.map (ents Ak.enc l (b+6) 0 s.R))
  else if k=b+1 then(if s.A=[]then none else some (.buf 52 2 s.A.length))
  else if b+5≤k∧(k - (b+5)) % 2=0 then(s.S[(k - (b+5)) / 2]?).map (fun p=>Ze.buf 3 1 p.2.length)
  else if b+6≤k∧(k - (b+6)) % 2=0 then(s.R[(k - (b+6)) / 2]?).map (fun p=>Ze.buf 3 1 p.2.length)else none:=by
 unfold lst;simp only[lkb,lkb_append,Zj5,Nat.mul_zero,UD,MI,eq_comm (a:=k)];split
 ·rfl
 split
 ·rfl
 split
 ·rfl
 split
 ·rfl
 by_cases h1:b+1=k
 ·rw[if_pos h1];subst h1;by_cases hA:s.A=[]
  ·simp[hA,lkb]
  ·simp[hA,lkb]
 ·rw[if_neg h1];have hA:lkb (if s.A=[]then []else [(b+1,Ze.buf 52 2 s.A.length)]) k=none:=by
   split
   ·rfl
   ·simp[lkb,h1]
  rw[hA,Option.none_or];by_cases h2:b+5≤k∧(k - (b+5)) % 2=0
  ·rw[if_pos h2,if_pos h2];have:¬(b+6≤k∧(k - (b+6)) % 2=0):=by omega
   rw[if_neg this,Option.or_none]
  ·rw[if_neg h2,if_neg h2,Option.none_or]
end Go.Abs

namespace Go.Proofs.YtmdeagmbfhbbnaaGreatDoorR
open Go.Abs
set_option maxRecDepth 100000
def Yf(H:Za)(l b:Nat)(s:Sto):Prop:=∀k x,lkb (lst l b s) k=some x→H l k=some x
theorem Yf.box{H:Za}{l b:Nat}{s:Sto}(h:Yf H l b s):H l b=some (.box (ZR l b s.A)):=h b _ (by rw[Y6,if_pos rfl])
section
variable {s:Sto} {l b:Nat} {H:Za}
theorem Yf.num(h:Yf H l b s):H l (b+2)=some (.map (s.N.map fun p=>(.str p.1,.int .i64 p.2))):=h _ _ (by rw[Y6,if_neg om,if_pos rfl])
theorem Yf.sig(h:Yf H l b s):H l (b+3)=some (.map (ents Sg.enc l (b+5) 0 s.S)):=h _ _ (by rw[Y6,if_neg om,if_neg om,if_pos rfl])
theorem Yf.arg(h:Yf H l b s):H l (b+4)=some (.map (ents Ak.enc l (b+6) 0 s.R)):=h _ _ (by rw[Y6,if_neg om,if_neg om,if_neg om,if_pos rfl])
theorem Yf.put(H:Za)(l b:Nat)(s:Sto):Yf (put H l b s) l b s:=fun k x h=>by
 unfold Go.Abs.put;rw[if_pos rfl,h];rfl
theorem a55(n:Nat)(H:Za)(l b:Nat)(s:Sto)(hl:l<n)(hs:Yf H l b s):PC Tryz.prog n 63 [.ptr l b 0] H (.bool true):=by
 have hne:¬l=n:=by omega
 have hb:=hs.box;refine aF Tryz.func63 fun B=>?_
 refine nR ?_;refine nr ?_;simp only[go_sem,simprocAttr,hne,hb,ZR];refine⟨⟨_,_,rfl⟩,?_⟩;exact pB
def zeroCells:List AV:=[.sl 2 [] .full,.nilm,.nilm,.nilm]
theorem Zj{n:Nat}(h:l<n)(L:List (Nat×Ze))(H:Za)(k:Nat):full n L H l k=H l k:=by unfold full;rw[if_neg om]
theorem Yf.full{n l b:Nat}{s:Sto}{H:Za}(hs:Yf H l b s)(h:l<n)(L:List (Nat×Ze)):Yf (full n L H) l b s:=fun k x hk=>by rw[Zj h];exact hs k x hk
theorem Vr{P:Program}{T:TT}{n:Nat}{t ty u:Nat}{v y:AV}{s:Zb}(r:Zv)(l k off:Nat)(cs:List AV)(h1:lkv s.tmps t= .ptr l k off)(h2:full n s.L s.H l k=some (.box cs))(h3:T ty=some r)
  (h4:off+r.size≤cs.length) (h5:r.isAgg=false→off<cs.length) (hv:Wk (if r.isAgg then .agg ((cs.drop off).take r.size)else(cs.drop off).getD 0 .dead) v) (hy:Wk (lkv s.tmps u) y) (hb:Below n v) (hc:Below n y) (hH:s.H=H):
  PostF P T n [.cell t ty,.tmp u] (fun r' H'=>r'= .tup [v,y]∧H'=H) .ret s:=by
 refine⟨?_,[v,y],⟨?_,hy,trivial⟩,by simp[hb,hc],rfl,hH⟩
 ·intro x hx;simp only[Qk,Qy,or_false]at hx;rcases hx with rfl|rfl
  ·simp only[XW];exact⟨l,k,off,cs,r,h1,h2,h3,h4,h5⟩
  ·simp[XW]
 ·simp only[ZdT,h1,h2,h3];rw[if_pos ⟨h4,h5⟩];exact hv
def atR(A:List Am)(i:Int):Am×Int:=if 0≤i then(match A[i.toNat]? with
 |some a=>(a,0)
 |none=>(⟨[],[]⟩,6))else(⟨[],[]⟩,6)
theorem a27(n:Nat)(H:Za)(l b:Nat)(s:Sto)(i:Int)(hl:l<n)(hs:Yf H l b s)(hg:JO s.A)(hn:0<n)(hT:Tabs H):PC Tryz.prog n 37 [.ptr l b 0,.int .i64 i] H (.tup [(atR s.A i).1.enc,.int .i64 (atR s.A i).2]):=by
 have hne:¬l=n:=by omega
 have hb:=hs.box;refine aF Tryz.func37 fun B=>?_
 refine nR ?_;refine nR ?_;refine cQ (a55 (n+1) _ l b s om (hs.full hl _)) ?_;refine aS ?_;refine nF ?_;have hz:Wk (.agg [.str [],.sl 4 [] .full]) (Am.mk [] []).enc:=.deep (.Zei ⟨.refl _,.nil _ _ _,trivial⟩);rcases Qaw i 0 with h0|h0
 ·have e:atR s.A i=(⟨[],[]⟩,6):=by rw[atR,if_neg om]
  refine nq h0 ?_;refine nT ?_;refine nR ?_;refine nV ?_;rw[e];exact Vr _ n 4 0 [.str [],.sl 4 [] .full] sS (by simp only[go_sem,simprocAttr,Go.Abs.full]) rfl (Qe _) sS hz (by simp only[go_sem,simprocAttr];exact .refl _) (Am.blw _ _) (.int _ _) rfl
 ·have h0':¬i<0:=by omega
  by_cases hA:s.A=[]
  ·have e:atR [] i=(⟨[],[]⟩,6):=by rw[atR,if_pos h0];rfl
   refine nr ?_;simp only[go_sem,simprocAttr,hne,hb,ZR,Yz,hA,h0',h0];refine nT ?_;refine nR ?_;refine nV ?_;rw[e];exact Vr _ n 4 0 [.str [],.sl 4 [] .full] sS (by simp only[go_sem,simprocAttr,Go.Abs.full]) rfl (Qe _) sS hz (by simp only[go_sem,simprocAttr];exact .refl _) (Am.blw _ _) (.int _ _) rfl
  ·rcases Qaw i s.A.length with h1|h1
   ·have h2:i.toNat<s.A.length:=by omega
    have e:atR s.A i=(s.A[i.toNat],0):=by rw[atR,if_pos h0,Qd h2]
    have h1':¬(s.A.length:Int)≤i:=by omega
    refine nr ?_;simp only[go_sem,simprocAttr,hne,hb,ZR,Yz,hA,h0',h0,h1'];refine nF ?_;refine nr ?_;simp only[go_sem,simprocAttr,hne,hb,ZR,Yz,hA,h0,h2,Am.Zp _ _ h2];refine⟨h1,?_⟩;refine cT (a59 s.A[i.toNat] (hg _ (Qa h2))) ?_;refine nV ?_;rw[e];exact Vr _ n 4 0 s.A[i.toNat].cs sS (by simp only[go_sem,simprocAttr,Go.Abs.full]) rfl (Qe _) sS (by simp only[go_sem,simprocAttr];exact .refl _) (by simp only[go_sem,simprocAttr];exact .refl _) (Am.blw _ _) (.int _ _) rfl
   ·have e:atR s.A i=(⟨[],[]⟩,6):=by rw[atR,if_pos h0,Ut om]
    refine nr ?_;simp only[go_sem,simprocAttr,hne,hb,ZR,Yz,hA,h0',h0,h1];refine nT ?_;refine nR ?_;refine nV ?_;rw[e];exact Vr _ n 4 0 [.str [],.sl 4 [] .full] sS (by simp only[go_sem,simprocAttr,Go.Abs.full]) rfl (Qe _) sS hz (by simp only[go_sem,simprocAttr];exact .refl _) (Am.blw _ _) (.int _ _) rfl
end
attribute [go_sem] Lt.fold Lt.cs Lt.Xl
def eTs(l:List Tm):AV:=.sl 4 (l.map Tm.enc) .any
theorem Zae(n:Nat)(l:List Tm):Below n (eTs l):=ZE l
theorem Znj(l:List Tm):(eTs l).cells=[eTs l]:=rfl
theorem ZqZ(l:List Tm):(eTs l).one=true:=rfl
attribute [go_sem] Znj ZqZ
section
variable {n:Nat}
theorem Vt{k:Nat}(l:List (List Tm)):Below n (.sl k (l.map eTs) .any):=ZC fun x hx=>by obtain⟨u,_,rfl⟩:=Qb.1 hx;exact Zae n u
abbrev LTm:=List Tm
structure Zbi {α:Type} (n:Nat) (H:Za) (f:Nat) (caps:List AV) (enc:α→AV) (l:List α) (p:α→Bool):Prop where
 fn:∃fn c,Fun Tryz.prog f fn c
 ans:∀x∈l,∀m G,n≤m→(∀l' k,l'<n→G l' k=H l' k)→PC Tryz.prog m f (enc x::caps) G (.bool (p x))
 blw:∀m,n≤m→Yi (fun c=>Below m c) caps
variable {caps:List AV}
theorem Zbi.up{α:Type}{H G:Za}{f:Nat}{enc:α→AV}{l:List α}{p:α→Bool}(h:Zbi n H f caps enc l p)(hG:∀l' k,l'<n→G l' k=H l' k):Zbi (n+1) G f caps enc l p:=
 ⟨h.fn,fun x hx m G' hm hG'=>h.ans x hx m G' om fun l' k hl=>(hG' l' k om).trans (hG l' k hl),fun m hm=>h.blw m om⟩
theorem ZeX.cond{α:Type}{H:Za}{f:Nat}{enc:α→AV}{l:List α}{p:α→Bool}(h:ZeX f caps enc l p)(hn:0<n)(hT:Tabs H):Zbi n H f caps enc l p:=
 ⟨h.fn,fun x hx m G hm hG=>h.on x hx m G om (hT.up fun k=>hG 0 k hn),fun m _=>h.below m⟩
def Zsp(l:List (Lt))(f:Nat)(caps:List AV)(H:Za)(i:Nat):Zb:=
 ⟨[(8,.int .i64 i),(7,.int .i64 l.length),(1,.fn (.func f) caps),(0,.sl 13 (l.map Lt.enc) .any)],[],H⟩
theorem Zu9(l:List (Lt))(hl:l.length≤1000000)(f:Nat)(caps:List AV)(p:Lt→Bool)(n:Nat)(H:Za)(hp:Zbi n H f caps Lt.enc l p):PC Tryz.prog n 125 [.sl 13 (l.map Lt.enc) .any,.fn (.func f) caps] H (.int .i64 (ZcS p l)):=by
 obtain⟨⟨fn,c,hf⟩,hp,hbl⟩:=hp;have hfi:∀q,Inside n q (.fn (.func f) caps):=fun q=>(Below.fn _ _ fun i hi=>(hbl n (Qe n)).mem _ (Qa hi)).inside
 have hbi:∀q,Inside n q (.sl 13 (l.map Lt.enc) .any):=fun q=>(Yb l).inside
 refine aF Tryz.func125 fun B=>?_
 refine nR ?_;refine nR ?_;refine kK ?_;refine Yc (Zsp l f caps H) (fun i=>∀j (h:j<l.length),j<i→p l[j]=false) l.length rfl ?_ (fun j _ h=>absurd h (Qm _)) ?_
 ·exact KK
 intro i hi hq;refine Ya rfl ?_;rcases Qg i l.length with h|h
 ·refine nq h ?_;refine nT ?_;refine nR ?_;refine nr ?_;simp only[go_sem,simprocAttr,getD_map Lt.enc _ _ h,h];refine YD (avs:=[Lt.enc l[i]]) rfl hf (hp l[i] (Qa h) (n+1) _ om fun l' k h=>Zj h _ _ _) rfl ?_;cases h1:p l[i]with
  |true=>
   refine aS ?_;refine nT ?_;refine nR ?_;refine nW ?_;refine Zc ?_ (.int _ _) rfl;rw[ZaO h h1 hq];exact .refl _
  |false=>
   refine aS ?_;refine nF ?_;refine nR ?_;refine nN ?_;refine⟨fun j hj hji=>?_,?_⟩
   ·rcases Qg j i with h'|h'
    ·exact hq j hj h'
    ·have:j=i:=by omega
     subst this;exact h1
   ·refine Zh ?_ ?_ ?_ ?_<;>repeat' first|apply q0|exact xx|apply aI
    ·refine aS ?_;rw[iw];exact .refl _
    all_goals first|exact hfi _|exact hbi _
 ·refine nq (QE.2 h) ?_;refine nF ?_;refine nX ?_;refine nR ?_;refine nV ?_;refine Zc ?_ (.int _ _) rfl;rw[Vo (fun j hj=>hq j hj om)];exact .refl _
theorem h78(l:List (Lt))(hl:l.length≤1000000)(f:Nat)(caps:List AV)(p:Lt→Bool)(n:Nat)(H:Za)(hp:Zbi n H f caps Lt.enc l p):PC Tryz.prog n 78 [.sl 13 (l.map Lt.enc) .any,.fn (.func f) caps] H (.bool (l.any p)):=by
 refine aF Tryz.func78 fun B=>?_
 refine nR ?_;refine nR ?_;refine cQ (Zu9 l hl f caps p (n+1) _ (hp.up fun l' k h=>Zj h _ _ _)) ?_;simp only[go_sem,simprocAttr];refine nV ?_;refine Zc ?_ (.bool _) rfl;simp only[go_sem,simprocAttr,Zfp];exact .refl _
theorem j78(l:List (Lt))(hl:l.length≤1000000)(f:Nat)(caps:List AV)(p:Lt→Bool)(hp:ZeX f caps Lt.enc l p):Z4 Tryz.prog 78 [.sl 13 (l.map Lt.enc) .any,.fn (.func f) caps] (.bool (l.any p)):=
 fun n H hn hT=>h78 l hl f caps p n H (hp.cond hn hT)
def Zsd(l:List (LTm))(f:Nat)(caps:List AV)(H:Za)(i:Nat):Zb:=
 ⟨[(8,.int .i64 i),(7,.int .i64 l.length),(1,.fn (.func f) caps),(0,.sl 1 (l.map eTs) .any)],[],H⟩
theorem Zup(l:List (LTm))(hl:l.length≤1000000)(f:Nat)(caps:List AV)(p:LTm→Bool)(n:Nat)(H:Za)(hp:Zbi n H f caps eTs l p):PC Tryz.prog n 266 [.sl 1 (l.map eTs) .any,.fn (.func f) caps] H (.int .i64 (ZcS p l)):=by
 obtain⟨⟨fn,c,hf⟩,hp,hbl⟩:=hp;have hfi:∀q,Inside n q (.fn (.func f) caps):=fun q=>(Below.fn _ _ fun i hi=>(hbl n (Qe n)).mem _ (Qa hi)).inside
 have hbi:∀q,Inside n q (.sl 1 (l.map eTs) .any):=fun q=>(Vt l).inside
 refine aF Tryz.func266 fun B=>?_
 refine nR ?_;refine nR ?_;refine kK ?_;refine Yc (Zsd l f caps H) (fun i=>∀j (h:j<l.length),j<i→p l[j]=false) l.length rfl ?_ (fun j _ h=>absurd h (Qm _)) ?_
 ·exact KK
 intro i hi hq;refine Ya rfl ?_;rcases Qg i l.length with h|h
 ·refine nq h ?_;refine nT ?_;refine nR ?_;refine nr ?_;simp only[go_sem,simprocAttr,getD_map eTs _ _ h,h];refine YD (avs:=[eTs l[i]]) rfl hf (hp l[i] (Qa h) (n+1) _ om fun l' k h=>Zj h _ _ _) rfl ?_;cases h1:p l[i]with
  |true=>
   refine aS ?_;refine nT ?_;refine nR ?_;refine nW ?_;refine Zc ?_ (.int _ _) rfl;rw[ZaO h h1 hq];exact .refl _
  |false=>
   refine aS ?_;refine nF ?_;refine nR ?_;refine nN ?_;refine⟨fun j hj hji=>?_,?_⟩
   ·rcases Qg j i with h'|h'
    ·exact hq j hj h'
    ·have:j=i:=by omega
     subst this;exact h1
   ·refine Zh ?_ ?_ ?_ ?_<;>repeat' first|apply q0|exact xx|apply aI
    ·refine aS ?_;rw[iw];exact .refl _
    all_goals first|exact hfi _|exact hbi _
 ·refine nq (QE.2 h) ?_;refine nF ?_;refine nX ?_;refine nR ?_;refine nV ?_;refine Zc ?_ (.int _ _) rfl;rw[Vo (fun j hj=>hq j hj om)];exact .refl _
theorem ZvH(l:List (LTm))(hl:l.length≤1000000)(f:Nat)(caps:List AV)(p:LTm→Bool)(n:Nat)(H:Za)(hp:Zbi n H f caps eTs l p):PC Tryz.prog n 237 [.sl 1 (l.map eTs) .any,.fn (.func f) caps] H (.bool (l.any p)):=by
 refine aF Tryz.func237 fun B=>?_
 refine nR ?_;refine nR ?_;refine cQ (Zup l hl f caps p (n+1) _ (hp.up fun l' k h=>Zj h _ _ _)) ?_;simp only[go_sem,simprocAttr];refine nV ?_;refine Zc ?_ (.bool _) rfl;simp only[go_sem,simprocAttr,Zfp];exact .refl _
theorem Zvv(l:List (LTm))(hl:l.length≤1000000)(f:Nat)(caps:List AV)(p:LTm→Bool)(hp:ZeX f caps eTs l p):Z4 Tryz.prog 237 [.sl 1 (l.map eTs) .any,.fn (.func f) caps] (.bool (l.any p)):=
 fun n H hn hT=>ZvH l hl f caps p n H (hp.cond hn hT)
def ZrX(l:List (Int))(f:Nat)(caps:List AV)(H:Za)(i:Nat):Zb:=
 ⟨[(8,.int .i64 i),(7,.int .i64 l.length),(1,.fn (.func f) caps),(0,.sl 1 (l.map eInt) .any)],[],H⟩
theorem Zuy(l:List (Int))(hl:l.length≤1000000)(f:Nat)(caps:List AV)(p:Int→Bool)(n:Nat)(H:Za)(hp:Zbi n H f caps eInt l p):PC Tryz.prog n 280 [.sl 1 (l.map eInt) .any,.fn (.func f) caps] H (.int .i64 (ZcS p l)):=by
 obtain⟨⟨fn,c,hf⟩,hp,hbl⟩:=hp;have hfi:∀q,Inside n q (.fn (.func f) caps):=fun q=>(Below.fn _ _ fun i hi=>(hbl n (Qe n)).mem _ (Qa hi)).inside
 have hbi:∀q,Inside n q (.sl 1 (l.map eInt) .any):=fun q=>(Zf7 l).inside
 refine aF Tryz.func280 fun B=>?_
 refine nR ?_;refine nR ?_;refine kK ?_;refine Yc (ZrX l f caps H) (fun i=>∀j (h:j<l.length),j<i→p l[j]=false) l.length rfl ?_ (fun j _ h=>absurd h (Qm _)) ?_
 ·exact KK
 intro i hi hq;refine Ya rfl ?_;rcases Qg i l.length with h|h
 ·refine nq h ?_;refine nT ?_;refine nR ?_;refine nr ?_;simp only[go_sem,simprocAttr,getD_map eInt _ _ h,h];refine YD (avs:=[eInt l[i]]) rfl hf (hp l[i] (Qa h) (n+1) _ om fun l' k h=>Zj h _ _ _) rfl ?_;cases h1:p l[i]with
  |true=>
   refine aS ?_;refine nT ?_;refine nR ?_;refine nW ?_;refine Zc ?_ (.int _ _) rfl;rw[ZaO h h1 hq];exact .refl _
  |false=>
   refine aS ?_;refine nF ?_;refine nR ?_;refine nN ?_;refine⟨fun j hj hji=>?_,?_⟩
   ·rcases Qg j i with h'|h'
    ·exact hq j hj h'
    ·have:j=i:=by omega
     subst this;exact h1
   ·refine Zh ?_ ?_ ?_ ?_<;>repeat' first|apply q0|exact xx|apply aI
    ·refine aS ?_;rw[iw];exact .refl _
    all_goals first|exact hfi _|exact hbi _
 ·refine nq (QE.2 h) ?_;refine nF ?_;refine nX ?_;refine nR ?_;refine nV ?_;refine Zc ?_ (.int _ _) rfl;rw[Vo (fun j hj=>hq j hj om)];exact .refl _
theorem ZuP(l:List (Int))(hl:l.length≤1000000)(f:Nat)(caps:List AV)(p:Int→Bool)(n:Nat)(H:Za)(hp:Zbi n H f caps eInt l p):PC Tryz.prog n 259 [.sl 1 (l.map eInt) .any,.fn (.func f) caps] H (.bool (l.any p)):=by
 refine aF Tryz.func259 fun B=>?_
 refine nR ?_;refine nR ?_;refine cQ (Zuy l hl f caps p (n+1) _ (hp.up fun l' k h=>Zj h _ _ _)) ?_;simp only[go_sem,simprocAttr];refine nV ?_;refine Zc ?_ (.bool _) rfl;simp only[go_sem,simprocAttr,Zfp];exact .refl _
end
theorem ZnC(p:Str×Tm):(eBd p).cells=[.str p.1,.int .u8 p.2.kind,.int .i64 p.2.num,.str p.2.name,.sl 4 (p.2.args.map Tm.enc) .any]:=rfl
theorem Zpy(p:Str×Tm):AV.agg [.str p.1,.int .u8 p.2.kind,.int .i64 p.2.num,.str p.2.name,.sl 4 (p.2.args.map Tm.enc) .any]=eBd p:=rfl
attribute [go_sem] ZnC Zpy
theorem Zvb(p:Str×Tm)(s:Str):Pure Tryz.prog 228 [eBd p,.str s] (.int .i64 (Lib.compareBytes p.1 s)):=by
 intro n H;refine aF Tryz.func228 fun B=>?_
 refine nR ?_;refine nR ?_;refine cP (a50 p.1 s) ?_;refine YO rfl rfl ?_;refine Zc ?_ (.int _ _) rfl;try simp only[go_sem,simprocAttr]
 exact .refl _
theorem Zuo(p:Str×Tm)(s:Str):Pure Tryz.prog 189 [eBd p,.str s] (.int .i64 (Lib.compareBytes p.1 s)):=by
 intro n H;refine aF Tryz.func189 fun B=>?_
 refine nR ?_;refine nR ?_;refine cP (a50 p.1 s) ?_;refine YO rfl rfl ?_;refine Zc ?_ (.int _ _) rfl;try simp only[go_sem,simprocAttr]
 exact .refl _
theorem Zm8(s:Str):∀(b:Bnd) (i:Nat),i≤b.length→(∀k (h:k<b.length),k<i→Lib.compareBytes b[k].1 s<0)→(∀k (h:k<b.length),i≤k→ ¬Lib.compareBytes b[k].1 s<0)→posB s b=i
 |[],i,hi,_,_=>by simp at hi;subst hi;rfl
 |p::r,i,hi,h1,h2=>by
  unfold posB;cases i with
  |zero=>exact if_neg (h2 0 sm (Qe _))
  |succ i=>
   rw[if_pos (show Lib.compareBytes p.1 s<0 from h1 0 sm om),Zm8 s r i (by simpa using hi) (fun k h hk=>h1 (k+1) (by simpa using h) om) (fun k h hk=>h2 (k+1) (by simpa using h) om)]
theorem Zrg{s:Str}{b:Bnd}{i:Nat}(hb:V7 b)(h1:∀k (h:k<b.length),k<i→Lib.compareBytes b[k].1 s<0)(h2:∀k (h:k<b.length),i≤k→ ¬Lib.compareBytes b[k].1 s<0):(Zz s b).isSome=true↔ ∃h:i<b.length,b[i].1=s:=by
 constructor
 ·intro h;obtain⟨v,hv⟩:=Qa4.1 h;obtain⟨k,hk,he⟩:=QJ (ZaF hv);have e1:b[k].1=s:=by rw[he]
  have hki:i≤k:=Nat.le_of_not_lt fun hlt=>by have:=h1 k hk hlt;rw[e1,cmpBytes_self]at this;omega
  rcases Qg i k with h'|h'
  ·have:=UU.1 hb i k om hk h';rw[e1]at this;exact absurd this (h2 i om (Qe _))
  ·have:k=i:=by omega
   subst this;exact⟨hk,e1⟩
 ·rintro⟨h,e⟩;rw[Zaq hb (n:=s) (v:=b[i].2) (by rw[←e];exact Qa h)];rfl
def Zsq(f:Nat):Prop:=(∃fn c,Fun Tryz.prog f fn c)∧ ∀(p:Str×Tm) (s:Str),Pure Tryz.prog f [eBd p,.str s] (.int .i64 (Lib.compareBytes p.1 s))
def Zm2(b:Bnd)(s:Str)(f:Nat)(H:Za)(i j:Nat):Zb:=
 ⟨[(10,.int .i64 j),(9,.int .i64 i),(8,.int .i64 b.length),(2,.fn (.func f) []),(1,.str s),(0,.sl 5 (b.map eBd) .any)],[],H⟩
theorem ZtH(b:Bnd)(hb:V7 b)(hl:b.length≤1000000)(s:Str)(f:Nat)(hf:Zsq f):Pure Tryz.prog 188 [Zk b,.str s,.fn (.func f) []] (.tup [.int .i64 (posB s b),.bool (Zz s b).isSome]):=by
 intro n H;obtain⟨⟨fn,c,hf⟩,hp⟩:=hf;refine aF Tryz.func188 fun B=>?_
 refine nR ?_;refine nr ?_;simp only[go_sem,simprocAttr,Zk];refine nR ?_;repeat refine kn rfl ?_
 refine Zal (fun m st=>∃i j,i≤j∧j≤b.length∧m=j - i∧st=Zm2 b s f H i j∧(∀k (h:k<b.length),k<i→Lib.compareBytes b[k].1 s<0)∧ ∀k (h:k<b.length),j≤k→ ¬Lib.compareBytes b[k].1 s<0) (m0:=b.length) (s0:=Zm2 b s f H 0 b.length) rfl ?_
  ⟨0,b.length,om,Qe _,rfl,rfl,fun k _ h=>absurd h (Qm _),fun k h h'=>by omega⟩ ?_
 ·exact KK
 rintro m st ⟨i,j,hij,hj,rfl,rfl,h1,h2⟩;refine Ya rfl ?_;rcases Qg i j with h|h
 ·have hm:∃m:Nat,m=(i+j) / 2:=⟨_,rfl⟩
  obtain⟨m,hm⟩:=hm;have hw:IntKind.i64.wrap ((IntKind.u64.wrap (IntKind.i64.wrap ((i:Int)+(j:Int)))).fdiv (2^min 1 64))=(m:Int):=by
   have e1:IntKind.i64.wrap ((i:Int)+(j:Int))=((i+j:Nat):Int):=by rw[iw];omega
   have e2:IntKind.u64.wrap ((i+j:Nat):Int)=((i+j:Nat):Int):=by
    exact IntWalk.u64_in _ om
   rw[e1,e2];have e3:(((i+j:Nat):Int)).fdiv (2^min 1 64)=(m:Int):=by
    rw[show(2:Int)^min 1 64=2 from rfl,Int.fdiv_eq_ediv_of_nonneg _ om];omega
   rw[e3,iw]
  have hml:m<b.length:=by omega
  refine nq h ?_;refine nT ?_;refine nq hw ?_;refine nr ?_;simp only[go_sem,simprocAttr,getD_map eBd _ _ hml,hml];refine YD (avs:=[eBd b[m],.str s]) rfl hf (hp b[m] s _ _) rfl ?_;by_cases hc:Lib.compareBytes b[m].1 s<0
  ·have e:decide (Lib.compareBytes b[m].1 s<0)=true:=by simp[hc]
   refine aq e ?_;refine nT ?_;refine nR ?_;refine nN ?_;refine⟨j - (m+1),Zm2 b s f H (m+1) j,om,?_,m+1,j,om,hj,rfl,rfl,fun k hk hk'=>?_,h2⟩
   ·refine Zh ?_ ?_ ?_ ?_<;>repeat' first|apply q0|exact xx|apply aI
    ·refine aS ?_;rw[iw];exact .refl _
    all_goals first|exact(Zx n b).inside|exact(Ja (caps:=[]) trivial).inside|skip
   ·rcases Qg k m with h'|h'
    ·exact serN.trans (y:=b[m].1) trivial trivial trivial (UU.1 hb k m hk hml h') hc
    ·have:k=m:=by omega
     subst this;exact hc
  ·have e:decide (Lib.compareBytes b[m].1 s<0)=false:=by simp[hc]
   refine aq e ?_;refine nF ?_;refine nR ?_;refine nN ?_;refine⟨m - i,Zm2 b s f H i m,om,?_,i,m,om,om,rfl,rfl,h1,fun k hk hk'=>?_⟩
   ·exact KK
   ·intro hlt;rcases Qg m k with h'|h'
    ·exact hc (serN.trans (y:=b[k].1) trivial trivial trivial (UU.1 hb m k hml hk h') hlt)
    ·have:k=m:=by omega
     subst this;exact hc hlt
 ·refine nq (QE.2 h) ?_;refine nF ?_;refine nX ?_;have hij':j=i:=by omega
  subst hij';have hpos:=Zm8 s b j hj h1 h2;have hlk:=Zrg hb h1 h2;refine nR ?_;cases hlt:decide (j<b.length)with
  |false=>
   have e:(Zz s b).isSome=false:=by
    rw[←Bool.not_eq_true,hlk];rintro⟨h,_⟩;simp at hlt;omega
   refine aS ?_;refine nV ?_;rw[hpos,e];refine ZG ?_ ?_ (.int _ _) (.bool _) rfl
   ·exact xS
   ·exact xS
  |true=>
   have hl':j<b.length:=by simp at hlt;omega
   simp only[go_sem,simprocAttr,getD_map eBd _ _ hl',hl'];refine YD (avs:=[eBd b[j],.str s]) rfl hf (hp b[j] s _ _) rfl ?_;have e:(Lib.compareBytes b[j].1 s==0)=(Zz s b).isSome:=by
    rw[UQ,hlk,beq_iff_eq];exact⟨fun h=>⟨hl',cmpBytes_zero h⟩,fun⟨_,h⟩=>by rw[h,cmpBytes_self]⟩
   refine aq e ?_;refine nV ?_;rw[hpos];refine ZG ?_ ?_ (.int _ _) (.bool _) rfl
   ·exact xS
   ·exact xS
theorem cmpN228:Zsq 228:=⟨⟨_,_,Zf Tryz.func228 rfl rfl⟩,Zvb⟩
theorem cmpN189:Zsq 189:=⟨⟨_,_,Zf Tryz.func189 rfl rfl⟩,Zuo⟩
def tm0:Tm:=.mk 0 0 [] []
def Zg2(s:Str)(b:Bnd):Tm:=(Zz s b).getD tm0
theorem zero_tm:Wk (.agg [.int .u8 0,.int .i64 0,.str [],.sl 4 [] .full]) tm0.enc:=by
 rw[Tm.Vx];exact .deep (.Zei ⟨.refl _,.refl _,.refl _,.nil _ _ _,trivial⟩)
theorem ZjA{s:Str}{v:Tm}:∀{b:Bnd},V7 b→Zz s b=some v→b[posB s b]? =some (s,v)
 |[],_,h=>by cases h
 |p::r,hb,h=>by
  rw[V7,UA]at hb;simp only[Zz]at h;split at h
  ·rename_i e;cases h;have:¬Lib.compareBytes p.1 s<0:=by rw[e,cmpBytes_self];omega
   rw[posB,if_neg this,Gl,←e]
  ·have h1:=hb.1 _ (ZaF h);rw[posB,if_pos h1,UJ];exact ZjA hb.2 h
theorem Zih(s:Str):∀b:Bnd,posB s b≤b.length
 |[]=>Qe _
 |p::r=>by
  have:=Zih s r;unfold posB;split<;>simp only[Qo]<;>omega
theorem ZfB(s:Str)(v:Tm):∀b:Bnd,Wp s v b=b.take (posB s b)++(s,v)::b.drop (posB s b)
 |[]=>rfl
 |p::r=>by
  have:=ZfB s v r;unfold Wp posB;split
  ·rw[this];rfl
  ·rfl
theorem Zi4(s:Str)(v:Tm)(b:Bnd):(Wp s v b).length=b.length+1:=by
 have:=Zih s b;rw[ZfB];simp;omega
theorem Zum(b:Bnd)(hb:V7 b)(hl:b.length≤1000000)(s:Str):Pure Tryz.prog 191 [Zk b,.str s] (.tup [(Zg2 s b).enc,.bool (Zz s b).isSome]):=by
 intro n H;refine aF Tryz.func191 fun B=>?_
 refine nR ?_;refine nR ?_;refine cP (ZtH b hb hl s 228 cmpN228) ?_;cases h:Zz s b with
 |none=>
  refine nr ?_;simp only[go_sem,simprocAttr,GY];refine nT ?_;refine nR ?_;refine nV ?_;have e:Zg2 s b=tm0:=by rw[Zg2,h];rfl
  rw[e];refine Vr _ n 4 0 [.int .u8 0,.int .i64 0,.str [],.sl 4 [] .full] sS sF rfl (Qe _) sS zero_tm (.refl _) (Tm.blw _ _) (.bool _) rfl
 |some v=>
  have hp:=ZjA hb h;obtain⟨hi,hp⟩:=Q8.1 hp;have e:Zg2 s b=v:=by rw[Zg2,h];rfl
  rw[e];refine nr ?_;simp only[go_sem,simprocAttr,G5];refine nF ?_;refine nr ?_;simp only[go_sem,simprocAttr,Zk,getD_map eBd _ _ hi,hi,hp];refine nV ?_;refine Vr _ n 4 0 v.cs sS sF rfl (Qe _) sS (by simp only[go_sem,simprocAttr];exact .refl _) (.refl _) (Tm.blw _ _) (.bool _) rfl
theorem ZqW(l:Bnd):flat (l.map eBd)=l.flatMap fun p=>AV.str p.1::p.2.cs:=by
 induction l with
 |nil=>rfl
 |cons p r ih=>rw[Qs,Yt,ih];rfl
theorem ZtR{n:Nat}{p:Nat→Prop}(l:Bnd):Yi (fun c=>Inside n p c) (flat (l.map eBd)):=Z5 fun c hc=>by
 rw[ZqW]at hc;obtain⟨u,_,hu⟩:=Qz.1 hc;rcases Qk.1 hu with rfl|hu
 ·exact .str _
 ·exact(u.2.bcs.mem _ hu).inside
def extO:Opt:=⟨true,true,fun d=>if d=24∨d=29 then .heap else if d=26 then .pure else .auto,[]⟩
theorem j138(b:Bnd)(hb:V7 b)(hl:b.length≤900000)(s:Str)(v:Tm):Pure Tryz.prog 138 [Zk b,.str s,v.enc] (Zk (Wp s v b)):=by
 intro n H;have hi:=Zih s b;have hext:=ZfB s v b;have hlen:=Zi4 s v b;refine aF Tryz.func138 fun B=>?_
 refine nR ?_;refine nR ?_;refine cP (ZtH b hb om s 189 cmpN189) ?_;generalize posB s b=i at hi hext⊢;have hw:IntKind.i64.wrap ((b.length:Int)+1)=((b.length+1:Nat):Int):=by rw[iw];omega
 refine nr ?_;simp only[go_sem,simprocAttr,Zk,hw];refine⟨⟨Zn om,om⟩,?_⟩;repeat refine kn rfl ?_
 refine ZY 5 v.cs [(9,.msl 5 n 19 0),(7,.int .i64 i),(5,.iptr v.cs),(0,.sl 5 (b.map eBd) .any),(1,.str s)] rfl ?_ ?_ ⟨Ze.ZjQ (fun c hc=>by cases hc),trivial⟩ ?_
 ·exact Z5 fun c hc=>(v.bcs.mem c hc).inside
 ·exact⟨.inl ⟨.refl _,.msl _ _ _ _ (.inr ⟨rfl,dc⟩)⟩,.inl ⟨.refl _,.int _ _⟩,.inr ⟨0,rfl,rfl⟩,.inl ⟨.refl _,(Zx n b).inside⟩,.inl ⟨.refl _,.str _⟩,trivial⟩
 refine nD extO ?_;have hmin:(b.take i).length=i:=Uo hi;have hone:∀q:Bnd,∀y∈q.map eBd,y.cells.all AV.one=true:=fun q y hy=>by obtain⟨u,_,rfl⟩:=Qb.1 hy;rfl
 simp only[go_sem,simprocAttr,extO,←List.map_take,hmin];refine⟨hi,⟨hone _,Zn om,om⟩,rfl,⟨Zn om,om⟩,?_⟩;refine nr ?_;simp only[go_sem,simprocAttr,←List.map_drop,QL,QM,←List.map_take];refine⟨hi,⟨hone _,Zn om,om⟩,?_⟩;refine kK ?_;have hfl:flat ((Wp s v b).map eBd)=flat []++flat ((b.take i).map eBd)++flat [eBd (s,v)]++flat ((b.drop i).map eBd):=by
  rw[hext,QG,Qs,YU,Yt];simp[flat]
 have hen:((Wp s v b).map eBd).length=i+1+(b.length - i):=by rw[Qv,hlen];omega
 refine ZK (Xp (tm':=[(6,.sl 5 ((Wp s v b).map eBd) .any)]) (j:=19) ((Wp s v b).map eBd) rfl hfl hen (fun x hx=>by obtain⟨u,_,rfl⟩:=Qb.1 hx;rfl) ?_ ?_ ?_) ?_
 ·intro c hc;have hc:c∈flat ((Wp s v b).map eBd):=by rw[hfl];exact hc
  exact(ZtR _).mem c hc
 ·intro p hp;simp only[Ql]at hp;subst hp;exact .inr ⟨5,rfl,rfl⟩
 ·intro p hp;cases hp
 refine nV ?_;exact Zc (.refl _) (Zx n _) rfl
theorem ZdN{α:Type}(p:α→Bool)(l:List α)(i:Nat)(h:i<l.length):(l.drop i).any p=(p l[i]||(l.drop (i+1)).any p):=by rw[Qw h,List.any_cons]
def ZrA(t u:Tm):Bool:=farS u||((t.kind==6)&&(u.kind==6))
def Zvg(t:Tm)(n:Nat)(H:Za)(i:Nat):Zb:=⟨[(3,.int .i64 i),(1,.ptr n 1 0)],[(1,.box t.cs)],H⟩
theorem w75(t:Tm)(ht:t.Good):Pure Tryz.prog 75 [t.enc] (.bool (farS t)):=by
 intro n H;have ih:∀u∈t.args,Pure Tryz.prog 75 [u.enc] (.bool (farS u)):=fun u hu=>w75 u (ht.arg hu)
 have hl:=ht.len;have hf:farS t=(((t.kind==1)&&(decide (30<t.num)||decide (t.num< -30)))||t.args.any (ZrA t)):=Zrf t;refine aF Tryz.func75 fun B=>?_
 refine nR ?_;have key:((t.kind==1)&&(decide (30<t.num)||decide (t.num< -30)))=false→AKc ⟨Tryz.prog,tt,⟨none,B⟩,n,Tryz.f75.ntmps⟩ [.code (ZQ Tryz.f75).snd.snd] (PostF Tryz.prog tt n Tryz.f75.results.toList fun r' H'=>r'= .bool (farS t)∧H'=H) ⟨[(1,.ptr n 1 0)],[(1,.box t.cs)],H⟩:=by
  intro hk;rw[hk,Gt]at hf;refine nR ?_;refine kK ?_;refine Yc (Zvg t n H) (fun i=>farS t=(t.args.drop i).any (ZrA t)) t.args.length rfl ?_ hf ?_
  ·exact KK
  intro i hi hq;refine Ya rfl ?_;rcases Qg i t.args.length with h|h
  ·rw[ZdN _ _ _ h]at hq;refine nr ?_;simp only[go_sem,simprocAttr,Tm.cs,h];refine nT ?_;have h6:ZrA t t.args[i]=(farS t.args[i]||((t.kind==6)&&(t.args[i].kind==6))):=rfl;rw[h6]at hq;refine nr ?_;simp only[go_sem,simprocAttr,Tm.cs,Tm.Zp _ _ h,h];refine cP (ih _ (Qa h)) ?_;cases h1:farS t.args[i]with
   |true=>
    refine aq h1 ?_;refine nT ?_;refine nR ?_;refine nW ?_;refine Zc ?_ (.bool _) rfl;rw[hq,h1];exact .refl _
   |false=>
    cases h2:(t.kind==6)with
    |false=>
     refine aq2 h1 h2 ?_;refine nF ?_;refine nR ?_;refine nN ?_;refine⟨by rw[hq,h1,h2];simp,?_⟩;exact KK
    |true=>
     cases h3:(t.args[i].kind==6)with
     |false=>
      simp only[go_sem,simprocAttr,h1,h2,h3,Tm.cs,Tm.Zp _ _ h,h,Tm.Xl];refine nF ?_;refine nR ?_;refine nN ?_;refine⟨by rw[hq,h1,h2,h3];simp,?_⟩;exact KK
     |true=>
      simp only[go_sem,simprocAttr,h1,h2,h3,Tm.cs,Tm.Zp _ _ h,h,Tm.Xl];refine nT ?_;refine nR ?_;refine nW ?_;refine Zc ?_ (.bool _) rfl;rw[hq,h1,h2,h3];exact .refl _
  ·refine nr ?_;simp only[go_sem,simprocAttr,Tm.cs,QE.2 h];refine nF ?_;refine nX ?_;refine nR ?_;refine nV ?_;refine Zc ?_ (.bool _) rfl;rw[hq,Uk h];exact .refl _
 have yes:((t.kind==1)&&(decide (30<t.num)||decide (t.num< -30)))=true→farS t=true:=fun h=>by rw[hf,h,Qad]
 cases h1:(t.kind==1)with
 |false=>
  refine nq h1 ?_;refine nF ?_;refine Wq rfl ?_;refine ZK ?_ (key (by rw[h1];rfl));exact KK
 |true=>
  cases h2:decide (30<t.num)with
  |true=>
   refine nq2 h1 h2 ?_;refine nT ?_;refine nR ?_;refine nV ?_;refine Zc ?_ (.bool _) rfl;rw[yes (by rw[h1,h2];rfl)];exact .refl _
  |false=>
   cases h3:decide (t.num< -30)with
   |true=>
    refine nq3 h1 h2 h3 ?_;refine nT ?_;refine nR ?_;refine nV ?_;refine Zc ?_ (.bool _) rfl;rw[yes (by rw[h1,h2,h3];rfl)];exact .refl _
   |false=>
    refine nq3 h1 h2 h3 ?_;refine nF ?_;refine Wq rfl ?_;refine ZK ?_ (key (by rw[h1,h2,h3];rfl));exact KK
termination_by SizeOf.sizeOf t
decreasing_by exact Tm.Xm hu
theorem w35(b:Bnd)(hb:b.length≤1000000)(gb:∀p∈b,p.2.Good):Pure Tryz.prog 35 [.sl 5 (b.map eBd) .any] (.bool (Zlq b)):=by
 intro n H;refine aF Tryz.func35 fun B=>?_
 refine nR ?_;refine nR ?_;refine kK ?_;refine Yc (fun i=>⟨[(3,.int .i64 i),(0,.sl 5 (b.map eBd) .any)],[],H⟩) (fun i=>Zlq b=(b.drop i).any fun p=>farS p.2) b.length rfl ?_ rfl ?_
 ·exact KK
 intro i hi hq;refine Ya rfl ?_;rcases Qg i b.length with h|h
 ·rw[ZdN _ _ _ h]at hq;refine nq h ?_;refine nT ?_;refine nr ?_;simp only[go_sem,simprocAttr,getD_map eBd _ _ h,h];refine cP (w75 _ (gb _ (Qa h))) ?_;cases h1:farS b[i].2 with
  |true=>
   refine nT ?_;refine nR ?_;refine nW ?_;refine Zc ?_ (.bool _) rfl;rw[hq,h1];exact .refl _
  |false=>
   refine nF ?_;refine nR ?_;refine nN ?_;refine⟨by rw[hq,h1];simp,?_⟩;exact KK
 ·refine nq (QE.2 h) ?_;refine nF ?_;refine nX ?_;refine nR ?_;refine nV ?_;refine Zc ?_ (.bool _) rfl;rw[hq,Uk h];exact .refl _
theorem w34(l:List Lt)(hl:l.length≤1000000)(gl:∀x∈l,x.Good):Pure Tryz.prog 34 [.sl 13 (l.map Lt.enc) .any] (.bool (Zkg l)):=by
 intro n H;refine aF Tryz.func34 fun B=>?_
 refine nR ?_;refine nR ?_;refine kK ?_;refine Yc (fun i=>⟨[(3,.int .i64 i),(0,.sl 13 (l.map Lt.enc) .any)],[],H⟩) (fun i=>Zkg l=(l.drop i).any fun x=>(Yy x).any farS) l.length rfl ?_ rfl ?_
 ·exact KK
 intro i hi hq;refine Ya rfl ?_;rcases Qg i l.length with h|h
 ·rw[ZdN _ _ _ h]at hq;obtain⟨x,hx⟩:∃x,x=l[i]:=⟨_,rfl⟩
  have hg:=gl _ (Qa h);rw[←hx]at hq hg;have hxl:=hg.at_.len;refine nq h ?_;refine nT ?_;refine nD drawO ?_;simp only[go_sem,simprocAttr,Lt.Zp _ _ h,h,←hx];refine⟨rfl,⟨Zn om,om⟩,?_⟩;rw[show x.L.enc::x.R.enc::x.at_.args.map Tm.enc=(Yy x).map Tm.enc from rfl];have hgt:∀t∈Yy x,t.Good:=fun t ht=>by
   unfold Yy at ht;rcases Qk.1 ht with rfl|ht
   ·exact hg.L
   rcases Qk.1 ht with rfl|ht
   ·exact hg.R
   ·exact hg.at_.arg ht
  have htl:(Yy x).length≤1000002:=by unfold Yy;simp only[Qo];omega
  generalize hT:Yy x=T at*;refine nR ?_;refine kK ?_;refine Yc (fun j=>⟨[(5,.int .i64 j),(4,.sl 4 (T.map Tm.enc) .any),(3,.int .i64 i),(0,.sl 13 (l.map Lt.enc) .any)],[],H⟩) (fun j=>Zkg l=((T.drop j).any farS||(l.drop (i+1)).any fun x=>(Yy x).any farS)) T.length rfl ?_ hq ?_
  ·exact KK
  intro j hj hr;refine Ya rfl ?_;rcases Qg j T.length with h'|h'
  ·rw[ZdN _ _ _ h']at hr;refine nq h' ?_;refine nT ?_;refine nr ?_;simp only[go_sem,simprocAttr,Tm.Zp _ _ h',h'];refine cP (w75 _ (hgt _ (Qa h'))) ?_;cases h1:farS T[j]with
   |true=>
    refine nT ?_;refine nR ?_;refine nW ?_;refine ZgU ?_ _;refine Zc ?_ (.bool _) rfl;rw[hr,h1];exact .refl _
   |false=>
    refine nF ?_;refine nR ?_;refine nN ?_;refine⟨by rw[hr,h1];simp,?_⟩;exact KK
  ·have hj':j=T.length:=by omega
   subst hj';rw[GX,List.any_nil,Gt]at hr;refine nq (QE.2 h') ?_;refine nF ?_;refine nX ?_;refine nR ?_;refine nN ?_;refine⟨hr,?_⟩;exact KK
 ·refine nq (QE.2 h) ?_;refine nF ?_;refine nX ?_;refine nR ?_;refine nV ?_;refine Zc ?_ (.bool _) rfl;rw[hq,Uk h];exact .refl _
theorem w31(l:List Lt)(hl:l.length≤100000000000000):Pure Tryz.prog 31 [.sl 13 (l.map Lt.enc) .any,.int .i64 300] (.int .i64 (Xh 300 l)):=by
 intro n H;refine aF Tryz.func31 fun B=>?_
 refine nR ?_;refine nR ?_;refine nR ?_;refine kK ?_;refine Zr (fun i=>⟨[(6,.int .i64 i),(5,.int .i64 (Xh 300 (l.take i))),(0,.sl 13 (l.map Lt.enc) .any),(1,.int .i64 300)],[],H⟩) l.length rfl ?_ ?_
 ·exact KK
 intro i hi;refine Ya rfl ?_;have ht:=size_at (m:=300) om l i;rcases Qg i l.length with h|h
 ·rcases Qaw 300 (Xh 300 (l.take i))with h2|h2
  ·have hle:decide (Xh 300 (l.take i)≤300)=false:=by rw[decide_eq_false_iff_not];omega
   have he:=ZnI h2;refine nq2 h hle ?_;refine nF ?_;refine nX ?_;refine nR ?_;refine nV ?_;refine Zc ?_ (.int _ _) rfl;refine aq he ?_;exact .refl _
  ·have he:=ZeY (Zbx 300) 0 l i h;change Xh 300 (l.take (i+1))=Zbx 300 (Xh 300 (l.take i)) l[i]at he;have hst:Zbx 300 (Xh 300 (l.take i)) l[i]=Xh 300 (l.take i)+(1+YB l[i].at_.sz (300 - Xh 300 (l.take i))+YB l[i].L.sz (300 - Xh 300 (l.take i))+YB l[i].R.sz (300 - Xh 300 (l.take i))):=by unfold Zbx;rw[if_pos h2]
   have hle:decide (Xh 300 (l.take i)≤300)=true:=by rw[decide_eq_true_eq];omega
   have hv0:0≤Xh 300 (l.take i):=by rcases ht with ht|ht<;>omega
   rw[hst]at he;generalize hN:Xh 300 (l.take i)=N at*;obtain⟨x,hx⟩:∃x,x=l[i]:=⟨_,rfl⟩
   rw[←hx]at he;have hw:IntKind.i64.wrap (300 - N)=300 - N:=iw;obtain⟨a1,a2,_⟩:=VF (s:=x.at_.sz) (m:=300 - N) om;obtain⟨b1,b2,_⟩:=VF (s:=x.L.sz) (m:=300 - N) om;obtain⟨c1,c2,_⟩:=VF (s:=x.R.sz) (m:=300 - N) om;have w1:IntKind.i64.wrap (1+YB x.at_.sz (300 - N))=1+YB x.at_.sz (300 - N):=iw;have w2:IntKind.i64.wrap (1+YB x.at_.sz (300 - N)+YB x.L.sz (300 - N))=1+YB x.at_.sz (300 - N)+YB x.L.sz (300 - N):=iw;have w3:IntKind.i64.wrap (1+YB x.at_.sz (300 - N)+YB x.L.sz (300 - N)+YB x.R.sz (300 - N))=1+YB x.at_.sz (300 - N)+YB x.L.sz (300 - N)+YB x.R.sz (300 - N):=iw;have w4:IntKind.i64.wrap (N+(1+YB x.at_.sz (300 - N)+YB x.L.sz (300 - N)+YB x.R.sz (300 - N)))=N+(1+YB x.at_.sz (300 - N)+YB x.L.sz (300 - N)+YB x.R.sz (300 - N)):=iw;refine nq2 h hle ?_;refine nT ?_;refine nD drawO ?_;simp only[go_sem,simprocAttr,Lt.Zp _ _ h,h,←hx,hw];refine WM (Zf Tryz.func32 rfl rfl) (a38 x.at_ (300 - N) om om) (by simp only[go_sem,simprocAttr,Lt.Zp _ _ h,h,←hx,hw]) ?_;simp only[go_sem,simprocAttr,Lt.Zp _ _ h,h,←hx,hw];refine WM (Zf Tryz.func33 rfl rfl) (a11 x.L (300 - N) om om) (by simp only[go_sem,simprocAttr,Lt.Zp _ _ h,h,←hx,hw]) ?_;simp only[go_sem,simprocAttr,Lt.Zp _ _ h,h,←hx,hw];refine WM (Zf Tryz.func33 rfl rfl) (a11 x.R (300 - N) om om) (by simp only[go_sem,simprocAttr,Lt.Zp _ _ h,h,←hx,hw]) ?_;simp only[go_sem,simprocAttr,Lt.Zp _ _ h,h,←hx,hw];refine nR ?_;refine nN ?_;refine Zh ?_ ?_ ?_ ?_<;>repeat' first|apply q0|exact xx|apply aI
   all_goals first|exact(Yb l).inside|(simp only[go_sem,simprocAttr,w1,w2,w3,w4];rw[he];exact .refl _)|(simp only[go_sem,simprocAttr];rw[iw];exact .refl _)
 ·refine nq (QE.2 h) ?_;refine nF ?_;refine nX ?_;have hi':i=l.length:=by omega
  subst hi';refine nt0 ?_;refine nV ?_;exact Zc (.refl _) (.int _ _) rfl
theorem j16(a b:Tm)(ha:a.Good)(hb:b.Good):Pure Tryz.prog 16 [a.enc,b.enc] (.bool (cmpT a b==0)):=by
 intro n H;refine aF Tryz.func16 fun B=>?_
 refine nR ?_;refine nR ?_;refine cP (a53 a b ha hb) ?_;exact pB
theorem Zq8(b:Bnd)(t:Tm):ZN b t=if((Zz t.name b).isSome&&(t.kind==3))=true then Zg2 t.name b else .mk t.kind t.num t.name (t.args.map (ZN b)):=by
 cases t with|mk k n s l=>
 rw[J8];simp only[Tm.kind,Tm.num,Tm.name,Tm.args,Zg2];by_cases hk:k=3
 ·rw[if_pos hk];obtain h|⟨v,h⟩:Zz s b=none∨ ∃v,Zz s b=some v:=by cases Zz s b<;>simp
  ·simp[h]
  ·simp[h,hk]
 ·rw[if_neg hk];simp[hk]
theorem Zti(b:Bnd)(hb:V7 b)(hl:b.length≤1000000)(t:Tm)(ht:t.Good)(hm:Zfb 227 [.iptr [Zk b]] Tm.enc Tm.enc t.args (ZN b)):Z4 Tryz.prog 187 [t.enc,Zk b] (ZN b t).enc:=by
 intro n H hn hT;have ha:=j70 t.args ht.len _ _ (ZN b) hm;have he:=Zq8 b t;refine aF Tryz.func187 fun B=>?_
 refine nR ?_;refine kK ?_;refine ZY 3 [Zk b] [(4,.ptr n 4 0),(3,.iptr [Zk b]),(2,.ptr n 2 0)] rfl ?_ ?_ ?_ ?_
 ·exact⟨(Zx n b).inside,trivial⟩
 ·refine⟨.inl ⟨.refl _,.ptr _ _ _ (.inr ⟨rfl,dc⟩)⟩,.inr ⟨0,rfl,rfl⟩,.inl ⟨.refl _,.ptr _ _ _ (.inr ⟨rfl,dc⟩)⟩,trivial⟩
 ·exact⟨Ze.ZA (Z5 fun c hc=>(t.bcs.mem c hc).inside),Ze.ZA ⟨(Below.int _ _).inside,(Below.int _ _).inside,(Below.str _).inside,inZ,trivial⟩,trivial⟩
 refine aS ?_;refine nR ?_;refine cP (Zum b hb hl t.name) ?_;by_cases hc:((Zz t.name b).isSome&&(t.kind==3))=true
 ·rw[if_pos hc]at he;rw[he];rw[Qi]at hc;refine nq2 hc.1 hc.2 ?_;refine nT ?_;refine nR ?_;refine nV ?_;refine ZX (.inl rfl) _ n 4 0 (Zg2 t.name b).cs sS sF rfl (Qe _) sS ?_ (Tm.blw _ _) rfl;exact xS
 ·rw[if_neg hc]at he;rw[he];cases h1:(Zz t.name b).isSome with
  |false=>
   refine nq h1 ?_;refine nF ?_;refine nR ?_;refine cT (ha) ?_;refine nR ?_;refine nV ?_;refine ZX (.inl rfl) _ n 4 0 (Tm.mk t.kind t.num t.name (t.args.map (ZN b))).cs sS (by simp only[go_sem,simprocAttr,full];rfl) rfl (Qe _) sS ?_ (Tm.blw _ _) rfl;rw[Tm.ZcH];exact .refl _
  |true=>
   have h2:(t.kind==3)=false:=by rw[h1,MP,MN]at hc;exact hc
   refine nq2 h1 h2 ?_;refine nF ?_;refine nR ?_;refine cT (ha) ?_;refine nR ?_;refine nV ?_;refine ZX (.inl rfl) _ n 4 0 (Tm.mk t.kind t.num t.name (t.args.map (ZN b))).cs sS (by simp only[go_sem,simprocAttr,full];rfl) rfl (Qe _) sS ?_ (Tm.blw _ _) rfl;rw[Tm.ZcH];exact .refl _
theorem Zvc(b:Bnd)(t:Tm)(ht:t.Good)(h:Z4 Tryz.prog 187 [t.enc,Zk b] (ZN b t).enc):Z4 Tryz.prog 227 [t.enc,.iptr [Zk b]] (ZN b t).enc:=by
 intro n H hn hT;refine aF Tryz.func227 fun B=>?_
 refine nR ?_;refine nR ?_;refine cT (h) ?_;refine nV ?_;refine ZX (.inl rfl) _ n 3 0 (ZN b t).cs sS sF rfl (Qe _) sS ?_ (Tm.blw _ _) rfl;exact xS
theorem ZrQ(b:Bnd)(hb:V7 b)(hl:b.length≤1000000)(t:Tm)(ht:t.Good):Z4 Tryz.prog 187 [t.enc,Zk b] (ZN b t).enc:=
 Zti b hb hl t ht ⟨⟨_,_,Zf Tryz.func227 rfl rfl⟩,fun u hu=>Zvc b u (ht.arg hu) (ZrQ b hb hl u (ht.arg hu)),fun _=>⟨Zl ⟨Zx _ b,trivial⟩,trivial⟩⟩
termination_by SizeOf.sizeOf t
decreasing_by exact Tm.Xm hu
structure GB (b:Bnd):Prop where
 asc:V7 b
 good:∀q∈b,q.2.Good
section
variable {b:Bnd}
theorem GB.look(h:GB b){s:Str}{v:Tm}(e:Zz s b=some v):v.Good:=h.good _ (ZaF e)
theorem GB.ext(h:GB b){s:Str}{v:Tm}(e:Zz s b=none)(hv:v.Good):GB (Wp s v b):=
 ⟨Zf2 h.asc (WJ.1 e),fun q hq=>by rcases Zb0.1 hq with rfl|hq;all_goals first|exact hv|exact h.good q hq⟩
theorem ZP.gb(h:ZP b):GB b:=⟨h.asc,fun q hq=>YC (h.val q hq)⟩
theorem mat_gb:(∀t v b c,matT t v b=some c→GB b→v.Good→GB c∧c.length≤b.length+t.sz)∧ ∀l q b c,matT.matL l q b=some c→GB b→(∀v∈q,v.Good)→GB c∧c.length≤b.length+Tm.sz.szs l:=by
 refine Ws (fun k n s l ih v b c h hb hv=>?_) (fun q b c h hb hq=>?_) fun t r h1 h2 q b c h hb hq=>?_
 ·rw[matT]at h;split at h
  ·rename_i k3;obtain e|⟨w,e⟩:Zz s b=none∨ ∃v,Zz s b=some v:=by cases Zz s b<;>simp
   ·rw[e]at h;simp only[Qq]at h;subst h;exact⟨hb.ext e hv,by rw[Zi4];simp only[Tm.sz];omega⟩
   ·rw[e]at h;simp only at h;split at h
    ·cases h;exact⟨hb,om⟩
    ·cases h
  ·split at h
   ·obtain⟨a,b'⟩:=ih v.args b c h hb (fun u hu=>hv.arg hu);exact⟨a,by simp only[Tm.sz];omega⟩
   ·cases h
 ·rw[matT.matL]at h;cases h;exact⟨hb,om⟩
 ·cases q with
  |nil=>rw[matT.matL]at h;cases h;exact⟨hb,om⟩
  |cons v q=>
   rw[matT.matL]at h;cases e:matT t v b with
   |none=>rw[e]at h;cases h
   |some d=>
    rw[e]at h;obtain⟨a1,a2⟩:=h1 v b d e hb (hq v sm);obtain⟨a3,a4⟩:=h2 q d c h a1 (fun u hu=>hq u (by simp[hu]));exact⟨a3,by simp only[Tm.sz.szs];omega⟩
def ZlP(o:Option Bnd):AV:=.tup [Zk (o.getD []),.bool o.isSome]
def Zkt(l v:List Tm)(c:Bnd)(H:Za)(i:Nat):Zb:=
 ⟨[(16,.int .i64 i),(15,.int .i64 l.length),(14,.sl 4 (l.map Tm.enc) .any),(2,Zk c),(1,.sl 4 (v.map Tm.enc) .any)],[],H⟩
theorem ZpL(l:List Tm)(i:Nat)(h:i<l.length):Tm.sz.szs (l.drop i)=l[i].sz+Tm.sz.szs (l.drop (i+1)):=by
 rw[Qw h];rfl
theorem Zte(l v:List Tm)(b:Bnd)(hlen:l.length=v.length)(hl:∀t∈l,t.Good)(hv:∀u∈v,u.Good)(hb:GB b)(hB:b.length+Tm.sz.szs l≤900000)
  (hc:∀t∈l,∀u∈v,∀c,GB c→t.args.length=u.args.length→c.length+Tm.sz.szs t.args≤900000→Pure Tryz.prog 141 [.sl 4 (t.args.map Tm.enc) .any,.sl 4 (u.args.map Tm.enc) .any,Zk c] (ZlP (matT.matL t.args u.args c))):
  Pure Tryz.prog 141 [.sl 4 (l.map Tm.enc) .any,.sl 4 (v.map Tm.enc) .any,Zk b] (ZlP (matT.matL l v b)):=by
 intro n H;have hll:=Tm.sz_len l;refine aF Tryz.func141 fun B=>?_
 refine nR ?_;refine nR ?_;refine kK ?_;refine Zal (fun m st=>∃i c,i≤l.length∧m=l.length - i∧st=Zkt l v c H i∧GB c∧c.length+Tm.sz.szs (l.drop i)≤900000∧matT.matL (l.drop i) (v.drop i) c=matT.matL l v b) (m0:=l.length) (s0:=Zkt l v b H 0) rfl ?_
  ⟨0,b,Un _,rfl,rfl,hb,hB,rfl⟩ ?_
 ·exact KK
 rintro m st ⟨i,c,hi,rfl,rfl,hgc,hcB,hm⟩;refine Ya rfl ?_;rcases Qg i l.length with h|h
 ·have hiv:i<v.length:=by omega
  have ht:=hl _ (Qa h);have hu:=hv _ (Qa hiv);have hsz:=ZpL l i h;have hstep:matT.matL (l.drop i) (v.drop i) c=match matT l[i] v[i] c with
    |none=>none
    |some d=>matT.matL (l.drop (i+1)) (v.drop (i+1)) d:=by
   rw[Qw h,Qw hiv,matT.matL];rfl
  rw[hm]at hstep;have hcc:=hc _ (Qa h) _ (Qa hiv) c hgc;have hgd:=(mat_gb.1 l[i] v[i] c)
  obtain⟨t,htl⟩:∃t,t=l[i]:=⟨_,rfl⟩
  obtain⟨u,hul⟩:∃u,u=v[i]:=⟨_,rfl⟩
  rw[←htl]at ht hsz hstep hcc hgd;rw[←hul]at hu hstep hcc hgd;have htz:=t.Zc1;have htq:=t.Zhu;have hwr:IntKind.i64.wrap ((i:Int)+1)=((i+1:Nat):Int):=by rw[iw];omega
  refine nq h ?_;refine nT ?_;refine nr ?_;simp only[go_sem,simprocAttr,Tm.Zp _ _ h,h,←htl];refine nR ?_;refine cP (Zum c hgc.asc om t.name) ?_;refine kK ?_;by_cases k3:t.kind=3
  ·have e3:(t.kind==3)=true:=by simp[k3]
   obtain e|⟨w,e⟩:Zz t.name c=none∨ ∃w,Zz t.name c=some w:=by cases Zz t.name c<;>simp
   ·have hmt:matT t u c=some (Wp t.name u c):=by
     cases t;simp only[Tm.kind,Tm.name]at k3 e⊢;rw[matT,if_pos k3,e]
    rw[hmt]at hstep;refine nr ?_;simp only[go_sem,simprocAttr,e,GY,e3];refine nT ?_;refine nD drawO ?_;simp only[go_sem,simprocAttr,Tm.Zp _ _ hiv,hiv,←hul];refine cP (j138 c hgc.asc om t.name u) ?_;refine ZkX rfl rfl rfl ?_;refine nR ?_;refine nN ?_;refine⟨l.length - (i+1),Zkt l v (Wp t.name u c) H (i+1),om,?_,i+1,_,om,rfl,rfl,(hgd _ hmt hgc hu).1,by have:=(hgd _ hmt hgc hu).2;omega,hstep.symm⟩;refine Zh ?_ ?_ ?_ ?_<;>repeat' first|apply q0|exact xx|apply aI
    all_goals first|exact(Zx n _).inside|skip
    refine aq hwr ?_;exact .refl _
   ·have ev:Zg2 t.name c=w:=by rw[Zg2,e];rfl
    refine nr ?_;simp only[go_sem,simprocAttr,e,G5,e3];refine nF ?_;refine nq e3 ?_;refine nT ?_;refine nD drawO ?_;simp only[go_sem,simprocAttr,Tm.Zp _ _ hiv,hiv,←hul,ev];refine cP (j16 w u (hgc.look e) hu) ?_;by_cases hq:cmpT w u=0
    ·have eq1:(cmpT w u==0)=true:=by simp[hq]
     have hmt:matT t u c=some c:=by
      cases t;simp only[Tm.kind,Tm.name]at k3 e⊢;rw[matT,if_pos k3,e];simp[hq]
     rw[hmt]at hstep;refine VB rfl rfl (by simp only[go_sem,simprocAttr,eq1]) ?_;refine ZkX rfl rfl rfl ?_;refine nR ?_;refine nN ?_;refine⟨l.length - (i+1),Zkt l v (c) H (i+1),om,?_,i+1,_,om,rfl,rfl,(hgd _ hmt hgc hu).1,by have:=(hgd _ hmt hgc hu).2;omega,hstep.symm⟩;refine Zh ?_ ?_ ?_ ?_<;>repeat' first|apply q0|exact xx|apply aI
     all_goals first|exact(Zx n _).inside|skip
     refine aq hwr ?_;exact .refl _
    ·have eq1:(cmpT w u==0)=false:=by simp[hq]
     have hmt:matT t u c=none:=by
      cases t;simp only[Tm.kind,Tm.name]at k3 e⊢;rw[matT,if_pos k3,e];simp[hq]
     rw[hmt]at hstep;refine VK rfl rfl (by simp only[go_sem,simprocAttr,eq1]) ?_;refine nR ?_;refine nW ?_;rw[hstep];exact ZG (.any _ _ _) (.refl _) (Zx n _) (.bool _) rfl
  ·have e3:(t.kind==3)=false:=by simp[k3]
   refine nq e3 ?_;refine nF ?_;refine nq e3 ?_;refine nF ?_;refine kK ?_;have hmt0:matT t u c=if t.kind=u.kind∧t.num=u.num∧t.name=u.name∧t.args.length=u.args.length then matT.matL t.args u.args c else none:=by
    cases t;cases u;simp only[Tm.kind,Tm.name,Tm.num,Tm.args]at k3⊢;rw[matT,if_neg k3];rfl
   by_cases q1:t.kind=u.kind
   ·have p1:(t.kind !=u.kind)=false:=by simp[q1]
    by_cases q2:t.num=u.num
    ·have p2:(t.num !=u.num)=false:=by simp[q2]
     by_cases q3:t.name=u.name
     ·have p3:(t.name==u.name)=true:=by simp[q3]
      by_cases q4:t.args.length=u.args.length
      ·have p4:((t.args.length:Int) !=(u.args.length:Int))=false:=by simp[q4]
       rw[if_pos ⟨q1,q2,q3,q4⟩]at hmt0;refine Y5 tok mixed drawO rfl rfl rfl ?_;simp -implicitDefEqProofs (maxSteps:=1000000) only[go_sem,simprocAttr,Tm.Zp _ _ hiv,hiv,←hul,p1,p2,p3,p4];refine nF ?_;refine nD drawO ?_;simp only[go_sem,simprocAttr,Tm.Zp _ _ hiv,hiv,←hul];refine cP (hcc q4 om) ?_;obtain e|⟨d,e⟩:matT.matL t.args u.args c=none∨ ∃d,matT.matL t.args u.args c=some d:=by cases matT.matL t.args u.args c<;>simp
       ·have hmt:matT t u c=none:=hmt0.trans e;rw[hmt]at hstep;simp only[go_sem,simprocAttr,ZlP,e,GY,Qa6];refine nR ?_;refine nT ?_;refine nR ?_;refine nW ?_;rw[hstep];exact ZG (.any _ _ _) (.refl _) (Zx n _) (.bool _) rfl
       ·have hmt:matT t u c=some d:=hmt0.trans e;rw[hmt]at hstep;simp only[go_sem,simprocAttr,ZlP,e,G5,Um];refine nR ?_;refine nF ?_;refine nR ?_;refine nR ?_;refine nN ?_;refine⟨l.length - (i+1),Zkt l v d H (i+1),om,?_,i+1,_,om,rfl,rfl,(hgd _ hmt hgc hu).1,by have:=(hgd _ hmt hgc hu).2;omega,hstep.symm⟩;refine Zh ?_ ?_ ?_ ?_<;>repeat' first|apply q0|exact xx|apply aI
        all_goals first|exact(Zx n _).inside|(simp only[go_sem,simprocAttr,hwr];exact .refl _)|(simp only[go_sem,simprocAttr];exact .refl _)|(simp only[go_sem,simprocAttr];exact Tm.ZaA _ _)|(simp only[go_sem,simprocAttr];exact(Below.int _ _).inside)|(simp only[go_sem,simprocAttr];exact(Zx n _).inside)
      ·have p4:((t.args.length:Int) !=(u.args.length:Int))=true:=by simp;omega
       have hmt:matT t u c=none:=by rw[hmt0,if_neg (fun hh=>q4 hh.2.2.2)]
       rw[hmt]at hstep;refine Y5 tok mixed drawO rfl rfl rfl ?_;simp -implicitDefEqProofs (maxSteps:=1000000) only[go_sem,simprocAttr,Tm.Zp _ _ hiv,hiv,←hul,p1,p2,p3,p4];refine nT ?_;refine nR ?_;refine nW ?_;rw[hstep];exact ZG (.any _ _ _) (.refl _) (Zx n _) (.bool _) rfl
     ·have p3:(t.name==u.name)=false:=by simp[q3]
      have hmt:matT t u c=none:=by rw[hmt0,if_neg (fun hh=>q3 hh.2.2.1)]
      rw[hmt]at hstep;refine Y5 tok mixed drawO rfl rfl rfl ?_;simp -implicitDefEqProofs (maxSteps:=1000000) only[go_sem,simprocAttr,Tm.Zp _ _ hiv,hiv,←hul,p1,p2,p3];refine nT ?_;refine nR ?_;refine nW ?_;rw[hstep];exact ZG (.any _ _ _) (.refl _) (Zx n _) (.bool _) rfl
    ·have p2:(t.num !=u.num)=true:=by simp[q2]
     have hmt:matT t u c=none:=by rw[hmt0,if_neg (fun hh=>q2 hh.2.1)]
     rw[hmt]at hstep;refine Y5 tok mixed drawO rfl rfl rfl ?_;simp -implicitDefEqProofs (maxSteps:=1000000) only[go_sem,simprocAttr,Tm.Zp _ _ hiv,hiv,←hul,p1,p2];refine nT ?_;refine nR ?_;refine nW ?_;rw[hstep];exact ZG (.any _ _ _) (.refl _) (Zx n _) (.bool _) rfl
   ·have p1:(t.kind !=u.kind)=true:=by simp[q1]
    have hmt:matT t u c=none:=by rw[hmt0,if_neg (fun hh=>q1 hh.1)]
    rw[hmt]at hstep;refine Y5 tok mixed drawO rfl rfl rfl ?_;simp -implicitDefEqProofs (maxSteps:=1000000) only[go_sem,simprocAttr,Tm.Zp _ _ hiv,hiv,←hul,p1];refine nT ?_;refine nR ?_;refine nW ?_;rw[hstep];exact ZG (.any _ _ _) (.refl _) (Zx n _) (.bool _) rfl
 ·have hi':i=l.length:=by omega
  subst hi';rw[GX,show v.drop l.length=[] by rw[hlen];exact GX]at hm;have hm:matT.matL l v b=some c:=by rw[←hm,matT.matL]
  refine nq (QE.2 h) ?_;refine nF ?_;refine nX ?_;refine nR ?_;refine nV ?_;rw[hm];exact ZG (.refl _) (.refl _) (Zx n _) (.bool _) rfl
theorem Zs0(l v:List Tm)(b:Bnd)(hlen:l.length=v.length)(hl:∀t∈l,t.Good)(hv:∀u∈v,u.Good)(hb:GB b)(hB:b.length+Tm.sz.szs l≤900000):
  Pure Tryz.prog 141 [.sl 4 (l.map Tm.enc) .any,.sl 4 (v.map Tm.enc) .any,Zk b] (ZlP (matT.matL l v b)):=
 Zte l v b hlen hl hv hb hB fun t ht u hu c hc hq hs=>Zs0 t.args u.args c hq (fun _ h=>(hl t ht).arg h) (fun _ h=>(hv u hu).arg h) hc hs
termination_by SizeOf.sizeOf l
decreasing_by
 have h1:=QU ht;have h2:SizeOf.sizeOf t.args<SizeOf.sizeOf t:=by cases t;simp only[Tm.args,Tm.mk.sizeOf_spec];omega
 omega
end
def sw8(l:List Lt)(A:List Am)(b:Bnd)(H:Za)(N:Int):Zb:=⟨[(7,.int .i64 N),(0,.sl 13 (l.map Lt.enc) .any),(1,.sl 2 (A.map Am.enc) .any),(2,.sl 5 (b.map eBd) .any)],[],H⟩
def Zno(l:List Lt)(A:List Am)(b:Bnd)(H:Za)(t:Nat)(N:Int)(i:Nat):Zb:=⟨[(t,.int .i64 i),(7,.int .i64 N),(0,.sl 13 (l.map Lt.enc) .any),(1,.sl 2 (A.map Am.enc) .any),(2,.sl 5 (b.map eBd) .any)],[],H⟩
theorem Zj7{n:Int}{s:Nat}(h:n≤300):ZaE n s=n+YB s (300 - n):=if_pos h
theorem w8(l:List Lt)(A:List Am)(b:Bnd)(hl:l.length≤100000000000000)(hA:A.length≤100000000000000)(hb:b.length≤100000000000000)(gl:szLs l≤300→ ∀x∈l,x.Good)(gb:sumN (b.map fun p=>p.2.sz)≤300→ ∀p∈b,p.2.Good):
  Pure Tryz.prog 8 [.sl 13 (l.map Lt.enc) .any,.sl 2 (A.map Am.enc) .any,.sl 5 (b.map eBd) .any] (.bool (Zeu l A b)):=by
 intro n H;have hin:∀q,Inside n q (.sl 13 (l.map Lt.enc) .any)∧Inside n q (.sl 2 (A.map Am.enc) .any)∧Inside n q (.sl 5 (b.map eBd) .any):=fun q=>⟨(Yb l).inside,Am.ZaA _ _,(Zx n b).inside⟩
 have t0:=ZgH (m:=300) om l;have hn0:0≤(b.length:Int)+Xh 300 l∧(b.length:Int)+Xh 300 l≤100000000002000:=by rcases t0 with t0|t0<;>omega
 have hw0:IntKind.i64.wrap ((b.length:Int)+Xh 300 l)=(b.length:Int)+Xh 300 l:=iw;have hsz:=fun h=>ZeN (l:=l) (A:=A) (b:=b) h
 refine aF Tryz.func8 fun B=>?_
 refine nR ?_;refine nR ?_;refine WM (Zf Tryz.func31 rfl rfl) (w31 l hl) (by simp only[go_sem,simprocAttr,hw0]) ?_;refine aq hw0 ?_;unfold Zeu;generalize (b.length:Int)+Xh 300 l=N0 at*;have hs1:=sum_le (A.map Am.sz) hn0.1;refine nR ?_;refine VU (sw8 l A b H (X0 N0 (A.map Am.sz))) ?_ ?_
 ·refine kK ?_;refine Zr (fun i=>Zno l A b H 8 (X0 N0 ((A.map Am.sz).take i)) i) A.length rfl ?_ ?_
  ·unfold Zno;exact KK
  intro i hi;refine Ya rfl ?_;have hsi:=sum_le ((A.map Am.sz).take i) hn0.1;rcases Qg i A.length with h|h
  ·rcases Qaw 300 (X0 N0 ((A.map Am.sz).take i))with h2|h2
   ·have hle:decide (X0 N0 ((A.map Am.sz).take i)≤300)=false:=by rw[decide_eq_false_iff_not];omega
    have he:=Zkl h2;refine nq2 h hle ?_;refine nF ?_;refine nX ?_;refine nN ?_;refine⟨rfl,?_⟩;unfold sw8;rw[he];exact KK
   ·have hle:decide (X0 N0 ((A.map Am.sz).take i)≤300)=true:=by rw[decide_eq_true_eq];omega
    have he:=Zjb (v:=N0) (l:=A.map Am.sz) (i:=i) (by simpa using h);rw[QO,Zj7 h2]at he;generalize X0 N0 ((A.map Am.sz).take i)=N at*;have hw:IntKind.i64.wrap (300 - N)=300 - N:=iw;obtain⟨a1,a2,_⟩:=VF (s:=A[i].sz) (m:=300 - N) om;refine nq2 h hle ?_;refine nT ?_;refine nr ?_;simp only[go_sem,simprocAttr,Am.Zp _ _ h,h,hw];refine WM (Zf Tryz.func32 rfl rfl) (a38 A[i] (300 - N) om om) (by simp only[go_sem,simprocAttr,hw]) ?_;refine aq hw ?_;refine nR ?_;refine nN ?_;unfold Zno;exact KK
  ·have hi':i=A.length:=by omega
   subst hi';have hta:(A.map Am.sz).take A.length=A.map Am.sz:=Q5 sm;refine nr ?_;simp only[go_sem,simprocAttr,Uh];refine nF ?_;refine nX ?_;refine nN ?_;refine⟨rfl,?_⟩;rw[hta];unfold sw8;exact KK
 generalize X0 N0 (A.map Am.sz)=N1 at*;unfold sw8;refine nR ?_;refine VU (sw8 l A b H (X0 N1 (b.map fun p=>p.2.sz))) ?_ ?_
 ·refine kK ?_;refine Zr (fun i=>Zno l A b H 9 (X0 N1 ((b.map fun p=>p.2.sz).take i)) i) b.length rfl ?_ ?_
  ·unfold Zno;exact KK
  intro i hi;refine Ya rfl ?_;have hsi:=sum_le ((b.map fun p=>p.2.sz).take i) hs1.1;rcases Qg i b.length with h|h
  ·rcases Qaw 300 (X0 N1 ((b.map fun p=>p.2.sz).take i))with h2|h2
   ·have hle:decide (X0 N1 ((b.map fun p=>p.2.sz).take i)≤300)=false:=by rw[decide_eq_false_iff_not];omega
    have he:=Zkl h2;refine nq2 h hle ?_;refine nF ?_;refine nX ?_;refine nN ?_;refine⟨rfl,?_⟩;unfold sw8;rw[he];exact KK
   ·have hle:decide (X0 N1 ((b.map fun p=>p.2.sz).take i)≤300)=true:=by rw[decide_eq_true_eq];omega
    have he:=Zjb (v:=N1) (l:=b.map fun p=>p.2.sz) (i:=i) (by simpa using h);rw[QO,Zj7 h2]at he;generalize X0 N1 ((b.map fun p=>p.2.sz).take i)=N at*;have hw:IntKind.i64.wrap (300 - N)=300 - N:=iw;obtain⟨a1,a2,_⟩:=VF (s:=b[i].2.sz) (m:=300 - N) om;refine nq2 h hle ?_;refine nT ?_;refine nr ?_;simp only[go_sem,simprocAttr,getD_map eBd _ _ h,h,hw];refine WM (Zf Tryz.func33 rfl rfl) (a11 b[i].2 (300 - N) om om) (by simp only[go_sem,simprocAttr,hw]) ?_;refine aq hw ?_;refine nR ?_;refine nN ?_;unfold Zno;exact KK
  ·have hi':i=b.length:=by omega
   subst hi';have hta:(b.map fun p=>p.2.sz).take b.length=b.map fun p=>p.2.sz:=Q5 sm
   refine nr ?_;simp only[go_sem,simprocAttr,Uh];refine nF ?_;refine nX ?_;refine nN ?_;refine⟨rfl,?_⟩;rw[hta];unfold sw8;exact KK
 generalize X0 N1 (b.map fun p=>p.2.sz)=N2 at*;unfold sw8;have c5:decide ((5:Int)<(l.length:Int))=decide (5<l.length):=by rw[decide_eq_decide];omega
 have c24:decide ((24:Int)<(A.length:Int))=decide (24<A.length):=by rw[decide_eq_decide];omega
 cases g1:decide (300<N2)with
 |true=>
  refine nq g1 ?_;exact pB
 |false=>
  cases g2:decide (5<l.length)with
  |true=>
   refine nq3 g1 c5 g2 ?_;exact pB
  |false=>
   cases g3:decide (24<A.length)with
   |true=>
    refine nr ?_;simp only[go_sem,simprocAttr,g1,c5,c24,g2,g3];exact pB
   |false=>
    have hs3:=hsz (by simpa using g1);have hl5:l.length≤5:=by simpa using g2
    have gl':=gl om;have gb':=gb om;refine nr ?_;simp only[go_sem,simprocAttr,g1,c5,c24,g2,g3];refine cP (w34 l om gl') ?_;cases g4:Zkg l with
    |true=>
     refine aq g4 ?_;exact pB
    |false=>
     refine aq g4 ?_;refine cP (w35 b om gb') ?_;exact pB
theorem w18(s:Str):Pure Tryz.prog 18 [.str s] (Tm.mk 3 0 s []).enc:=by
 intro n H;refine aF Tryz.func18 fun B=>?_
 refine nR ?_;refine nR ?_;refine nV ?_;refine ZX (.inl rfl) _ n 2 0 [.int .u8 3,.int .i64 0,.str s,.sl 4 [] .full] sS sF rfl (Qe _) sS ?_ (Tm.blw _ _) rfl;refine aS ?_;rw[Tm.Vx];exact .deep (.Zei ⟨.refl _,.refl _,.refl _,.nil _ _ _,trivial⟩)
theorem w19(p q:Bnd)(hp:p.length≤1000000)(hq:q.length≤1000000)(gp:∀x∈p,x.2.Good)(gq:∀x∈q,x.2.Good):Pure Tryz.prog 19 [Zk p,Zk q] (.bool (befS p q)):=by
 intro n H;refine aF Tryz.func19 fun B=>?_
 refine nR ?_;refine nR ?_;refine kK ?_;refine Yc (fun i=>⟨[(5,.int .i64 i),(0,.sl 5 (p.map eBd) .any),(1,.sl 5 (q.map eBd) .any)],[],H⟩) (fun i=>befS p q=befS (p.drop i) (q.drop i)) p.length rfl ?_ rfl ?_
 ·exact KK
 intro i hi hb;refine Ya rfl ?_;rcases Qg i p.length with h|h
 ·rcases Qg i q.length with h'|h'
  ·rw[Qw h,Qw h',befS]at hb;refine nq2 h h' ?_;refine nT ?_;by_cases hnm:p[i].1=q[i].1
   ·have e1:(p[i].1==q[i].1)=true:=by simp[hnm]
    rw[if_pos hnm]at hb;refine nD drawO ?_;simp only[go_sem,simprocAttr,getD_map eBd _ _ h,getD_map eBd _ _ h',h,h',e1];refine nF ?_;refine nD drawO ?_;simp only[go_sem,simprocAttr,getD_map eBd _ _ h,getD_map eBd _ _ h',h,h'];refine cP (a53 p[i].2 q[i].2 (gp _ (Qa h)) (gq _ (Qa h'))) ?_;by_cases hc:cmpT p[i].2 q[i].2=0
    ·have e2:(cmpT p[i].2 q[i].2==0)=true:=by simp[hc]
     rw[if_pos hc]at hb;refine nr ?_;simp only[go_sem,simprocAttr,bne,e2];refine nF ?_;refine nR ?_;refine nN ?_;refine⟨hb,?_⟩;exact KK
    ·have e2:(cmpT p[i].2 q[i].2==0)=false:=by simp[hc]
     rw[if_neg hc]at hb;refine nr ?_;simp only[go_sem,simprocAttr,bne,e2];refine nT ?_;refine nR ?_;refine nW ?_;refine Zc ?_ (.bool _) rfl;rw[hb];exact .refl _
   ·have e1:(p[i].1==q[i].1)=false:=by simp[hnm]
    rw[if_neg hnm]at hb;refine nD drawO ?_;simp only[go_sem,simprocAttr,getD_map eBd _ _ h,getD_map eBd _ _ h',h,h',e1];refine nT ?_;refine nR ?_;refine nW ?_;refine Zc ?_ (.bool _) rfl;rw[hb];exact .refl _
  ·rw[Uk h']at hb;have e:befS (p.drop i) []=false:=by cases p.drop i<;>rfl
   refine nq2 h (QE.2 h') ?_;refine nF ?_;refine nX ?_;refine nR ?_;refine nV ?_;refine Zc ?_ (.bool _) rfl;rw[hb,e];exact .refl _
 ·rw[Uk h]at hb;have e:befS [] (q.drop i)=false:=by cases q.drop i<;>rfl
  refine nq (QE.2 h) ?_;refine nF ?_;refine nX ?_;refine nR ?_;refine nV ?_;refine Zc ?_ (.bool _) rfl;rw[hb,e];exact .refl _
def ZU{κ β:Type} [DecidableEq κ](k:κ):List (κ×β)→Nat→Option Nat
 |[],_=>none
 |p::r,i=>if p.1=k then some i else ZU k r (i+1)
theorem Zd5{κ β:Type} [DecidableEq κ](enc:κ→AV)(hi:∀a b,(enc a).kls=(enc b).kls→a=b)(k:κ)(f:κ×β→AV×AV)(hf:∀p,(f p).1=enc p.1):∀(es:List (κ×β)) (i:Nat),XP (enc k).kls ((es.map f).map fun p=>p.1.kls) i=ZU k es i
 |[],_=>rfl
 |p::r,i=>by
  simp only[Qs,XP,ZU,hf];by_cases h:p.1=k
  ·rw[if_pos h,if_pos (by rw[h])]
  ·rw[if_neg h,if_neg (fun e=>h (hi _ _ e).symm),Zd5 enc hi k f hf r (i+1)]
theorem Zbc{κ:Type} [DecidableEq κ](enc:κ→AV)(hi:∀a b,(enc a).kls=(enc b).kls→a=b)(k:κ)(l b:Nat):∀(es:List (κ×List Int)) (i j:Nat),XP (enc k).kls ((ents enc l b j es).map fun p=>p.1.kls) i=ZU k es i
 |[],_,_=>rfl
 |p::r,i,j=>by
  simp only[ents,Qs,XP,ZU];by_cases h:p.1=k
  ·rw[if_pos h,if_pos (by rw[h])]
  ·rw[if_neg h,if_neg (fun e=>h (hi _ _ e).symm),Zbc enc hi k l b r (i+1) (j+1)]
theorem ZmA(a b:List UInt8)(h:(AV.str a).kls=(AV.str b).kls):a=b:=by
 simp[AV.kls,AV.cells,klAll,AV.kl]at h;exact h
theorem Zl5(a b:Sg)(h:a.enc.kls=b.enc.kls):a=b:=by
 simp[AV.kls,AV.cells,klAll,AV.kl,Sg.enc]at h;cases a;cases b;simp at h;simp[h]
theorem Zk9(a b:Ak)(h:a.enc.kls=b.enc.kls):a=b:=by
 simp[AV.kls,AV.cells,klAll,AV.kl,Ak.enc]at h;obtain⟨⟨p,n⟩,c,t⟩:=a;obtain⟨⟨p',n'⟩,c',t'⟩:=b;simp at h;simp[h]
def ZcF(p:List UInt8×Int):AV×AV:=(.str p.1,.int .i64 p.2)
theorem a26(n:Nat)(H:Za)(l b:Nat)(s:Sto)(a:Am)(hl:l<n)(hs:Yf H l b s)(ha:a.Good)(hn:0<n)(hT:Tabs H):PC Tryz.prog n 65 [.ptr l b 0,a.enc] H (.bool (Yv a&&(ZU (JZ a) s.N 0).isSome)):=by
 have hne:¬l=n:=by omega
 have hb:=hs.box;have hnum:=hs.num;have hf:XP (AV.str (JZ a)).kls ((s.N.map ZcF).map fun p=>p.1.kls) 0=ZU (JZ a) s.N 0:=Zd5 AV.str ZmA (JZ a) ZcF (fun _=>rfl) s.N 0;have hkk:∀p,p∈s.N.map ZcF→YE tt 9 p.1=true:=fun p hp=>by
  obtain⟨q,_,rfl⟩:=Qb.1 hp;exact Zex _
 change H l (b+2)=some (Ze.map (s.N.map ZcF))at hnum;generalize s.N.map ZcF=es at hf hkk hnum;refine aF Tryz.func65 fun B=>?_
 refine nR ?_;refine nR ?_;refine cQ (a55 (n+1) _ l b s om (hs.full hl _)) ?_;refine aS ?_;refine cT (a14 a ha) ?_;cases h1:Yv a with
 |false=>
  refine VK rfl rfl (by simp only[go_sem,simprocAttr,h1]) ?_;refine nR ?_;refine YO rfl rfl ?_;refine Zc ?_ (.bool _) rfl;try simp only[go_sem,simprocAttr,Qau]
  exact .refl _
 |true=>
 refine VB rfl rfl (by simp only[go_sem,simprocAttr,h1]) ?_;refine nD drawO ?_;simp only[go_sem,simprocAttr,hne,hb,hnum,ZR];refine cT (a57 a ha h1) ?_;simp only[go_sem,simprocAttr,hne,hb,hnum,ZR,lookA,Xz,hf];refine⟨fun p hp=>hkk p hp,?_⟩;cases hk:ZU (JZ a) s.N 0 with
 |none=>
  refine nR ?_;exact pB
 |some i=>
  refine nR ?_;exact pB
def ZeB(m:Nat)(H H0:Za):Prop:=∀l k,l<m→H l k=H0 l k
theorem ZeB.full{m n:Nat}{H H0:Za}(h:ZeB m H H0)(hm:m≤n)(L:List (Nat×Ze)):ZeB m (Go.Abs.full n L H) H0:=fun l k hl=>by
 rw[Zj om];exact h l k hl
structure ZuD {α:Type} (m:Nat) (H0:Za) (f:Nat) (caps:List AV) (ea:α→AV) (l:List α) (g:α→Am):Prop where
 fn:∃fn c,Fun Tryz.prog f fn c
 on:∀x∈l,∀n H,m≤n→ZeB m H H0→PC Tryz.prog n f (ea x::caps) H (g x).enc
 below:∀n,m≤n→Yi (fun c=>Below n c) caps
def Ztx(l:List Int)(o:Own)(f:Nat)(caps:List AV)(g:Int→Am)(n:Nat)(H:Za)(i:Nat):Zb:=
 ⟨[(10,.int .i64 i),(9,.int .i64 l.length),(8,.sl 1 (l.map eInt) o),(5,.sl 2 (((l.take i).map g).map Am.enc) (.buf n 200)),(1,.fn (.func f) caps)],[(200,.buf 52 2 i)],H⟩
theorem ZvA(l:List Int)(hl:l.length≤1000000)(o:Own)(m:Nat)(H0:Za)(f:Nat)(caps:List AV)(g:Int→Am)(hp:ZuD m H0 f caps eInt l g)(ho:∀n,m≤n→Below n (.sl 1 (l.map eInt) o))(n:Nat)(H:Za)(hmn:m≤n)(hH:ZeB m H H0):
  PC Tryz.prog n 202 [.sl 1 (l.map eInt) o,.fn (.func f) caps] H (.sl 2 ((l.map g).map Am.enc) .any):=by
 obtain⟨⟨fn,c,hf⟩,hp,hbl⟩:=hp;have hfi:∀q,Inside n q (.fn (.func f) caps):=fun q=>(Below.fn _ _ fun i hi=>(hbl n hmn).mem _ (Qa hi)).inside
 have hoi:∀q,Inside n q (.sl 1 (l.map eInt) o):=fun q=>(ho n hmn).inside
 refine aF Tryz.func202 fun B=>?_
 refine nR ?_;refine nR ?_;refine nR ?_;refine kK ?_;refine XB 5 200 52 2 rfl rfl ?_;refine Zr (Ztx l o f caps g n H) l.length rfl ?_ ?_
 ·exact KK
 intro i hi;refine Ya rfl ?_;rcases Qg i l.length with h|h
 ·have hmin:(l.take i).length=i:=Uo om;refine nq h ?_;refine nT ?_;refine nr ?_;simp only[go_sem,simprocAttr,getD_map eInt _ _ h,h];refine nR ?_;refine YD (avs:=[eInt l[i]]) rfl hf (hp l[i] (Qa h) _ _ (by show m≤n+1;omega) (hH.full hmn _)) rfl ?_;refine aq hmin ?_;refine⟨by first|exact⟨rfl,dc⟩|exact rfl,⟨Zn om,om⟩,?_⟩;refine nR ?_;refine nN ?_;refine Zh ?_ ?_ ?_ ?_<;>repeat' first|apply q0|exact xx|apply aI
  ·refine aS ?_;rw[iw];exact .refl _
  ·simp only[go_sem,simprocAttr,Qn h,QG];exact .refl _
  all_goals first|exact hfi _|exact hoi _
 ·refine nq (QE.2 h) ?_;refine nF ?_;refine nX ?_;have hi':i=l.length:=by omega
  subst hi';refine nt0 ?_;refine nV ?_;refine Zc ?_ (YM _) rfl;refine aS ?_;exact .any _ _ _
def Zf0(A:List Am)(ix:List Int):List Am:=ix.map fun i=>A.getD i.toNat ⟨[],[]⟩
theorem a98(n:Nat)(H:Za)(l b q j:Nat)(s:Sto)(i:Int)(hl:l<n)(hq:q<n)(hs:Yf H l b s)(hbx:H q j=some (.box [.ptr l b 0]))(hg:JO s.A)(hn:0<n)(hT:Tabs H)(h0:0≤i)(h1:i<s.A.length):
  PC Tryz.prog n 203 [eInt i,.ptr q j 0] H (s.A.getD i.toNat ⟨[],[]⟩).enc:=by
 have hne:¬l=n:=by omega
 have hqn:¬q=n:=by omega
 have hb:=hs.box;have h2:i.toNat<s.A.length:=by omega
 have hA:s.A≠[]:=fun e=>by rw[e]at h2;simp at h2
 have hA':¬s.A=[]:=hA;have hga:s.A.getD i.toNat ⟨[],[]⟩=s.A[i.toNat]:=by rw[Qp,Qd h2];rfl
 refine aF Tryz.func203 fun B=>?_
 refine nR ?_;refine nr ?_;simp only[go_sem,simprocAttr,hne,hqn,hb,hbx,ZR,Yz,hA',h0,h1,h2,Am.Zp _ _ h2];refine cT (a59 s.A[i.toNat] (hg _ (Qa h2))) ?_;refine nV ?_;rw[hga];exact ZX (.inl rfl) _ n 3 0 s.A[i.toNat].cs sS (by simp only[go_sem,simprocAttr,Go.Abs.full]) rfl (Qe _) sS (by simp only[go_sem,simprocAttr];exact .refl _) (Am.blw _ _) rfl
theorem a61(n:Nat)(H:Za)(l b:Nat)(s:Sto)(ix:List Int)(o:Own)(hl:l<n)(hs:Yf H l b s)(hg:JO s.A)(hn:0<n)(hT:Tabs H)(hix:∀i∈ix,0≤i∧i<s.A.length)(hlen:ix.length≤1000000)(ho:Below n (.sl 1 (ix.map eInt) o)):
  PC Tryz.prog n 162 [.ptr l b 0,.sl 1 (ix.map eInt) o] H (.sl 2 ((Zf0 s.A ix).map Am.enc) .any):=by
 refine aF Tryz.func162 fun B=>?_
 refine nR ?_;refine nR ?_;refine cQ (ZvA ix hlen o (n+1) _ _ [.ptr n 2 0] (fun i=>s.A.getD i.toNat ⟨[],[]⟩) ⟨⟨_,_,Zf Tryz.func203 rfl rfl⟩,fun i hi m H1 hm hH1=>?_,fun m hm=>⟨.ptr _ _ _ om,trivial⟩⟩ (fun m hm=>ho.mono om) (n+1) _ (Qe _) (fun _ _ _=>rfl)) ?_
 ·refine a98 m H1 l b n 2 s i om om (fun k x hk=>?_) ?_ hg om ?_ (hix i hi).1 (hix i hi).2
  ·rw[hH1 _ _ om,Zj hl];exact hs k x hk
  ·rw[hH1 _ _ om];simp only[go_sem,simprocAttr,Go.Abs.full]
  ·exact hT.up (fun k=>by rw[hH1 _ _ om];exact Zj hn _ _ _)
 simp only[go_sem,simprocAttr];refine nV ?_;refine Zc ?_ (YM _) rfl;simp only[go_sem,simprocAttr,Zf0];exact .refl _
def Y3{κ:Type} [DecidableEq κ](k:κ)(es:List (κ×List Int)):List Int:=match ZU k es 0 with
 |some j=>(es[j]?.map Prod.snd).getD []
 |none=>[]
theorem Jw{κ β:Type} [DecidableEq κ]{k:κ}:∀{es:List (κ×β)} {i j:Nat},ZU k es i=some j→i≤j∧j<i+es.length
 |[],_,_,h=>by cases h
 |p::r,i,j,h=>by
  simp only[ZU]at h;split at h
  ·cases h;simp
  ·have:=Jw h;simp only[Qo];omega
theorem Js{κ:Type}(enc:κ→AV)(l b:Nat):∀(es:List (κ×List Int)) (i j:Nat) (h:j<es.length) (d:AV×AV),(ents enc l b i es).getD j d=(enc es[j].1,.sl 1 (es[j].2.map eInt) (.buf l (b+2*(i+j))))
 |p::r,i,0,_,d=>rfl
 |p::r,i,j+1,h,d=>by
  have:=Js enc l b r (i+1) j (by simpa using h) d;simp only[ents,QaK,UW];rw[this];congr 3;omega
theorem ZbF{κ:Type}(enc:κ→AV)(l b:Nat):∀(es:List (κ×List Int)) (i:Nat) (p:AV×AV),p∈ents enc l b i es→ ∃k,p.1=enc k
 |q::r,i,p,h=>by
  simp only[ents,Qk]at h;rcases h with rfl|h
  ·exact⟨q.1,rfl⟩
  ·exact ZbF enc l b r (i+1) p h
theorem Y8{n k:Nat}{o:Own}(l:List Int)(h:∀l' j,o= .buf l' j→l'<n):Below n (.sl k (l.map eInt) o):=
 .sl k _ o (fun i hi c hc=>by
  have:=ZbK (n:=n) .i64 l _ (Qa hi);exact this.cells _ (Qa hc)) h
theorem a30(n:Nat)(H:Za)(l b:Nat)(s:Sto)(g:Sg)(hl:l<n)(hs:Yf H l b s)(hg:JO s.A)(hn:0<n)(hT:Tabs H)(hix:∀i∈Y3 g s.S,0≤i∧i<s.A.length)(hlen:(Y3 g s.S).length≤1000000):
  PC Tryz.prog n 102 [.ptr l b 0,g.enc] H (.sl 2 ((Zf0 s.A (Y3 g s.S)).map Am.enc) .any):=by
 have hne:¬l=n:=by omega
 have hb:=hs.box;have hsig:=hs.sig;have hf:XP g.enc.kls ((ents Sg.enc l (b+5) 0 s.S).map fun p=>p.1.kls) 0=ZU g s.S 0:=Zbc Sg.enc Zl5 g l (b+5) s.S 0 0;have hkk:∀p,p∈ents Sg.enc l (b+5) 0 s.S→YE tt 110 p.1=true:=fun p hp=>by
  obtain⟨k,hk⟩:=ZbF _ _ _ _ _ _ hp;rw[hk];exact Zl7 _ _
 have hd:=fun j h=>Js Sg.enc l (b+5) s.S 0 j h (.dead,.dead)
 generalize ents Sg.enc l (b+5) 0 s.S=es at hf hkk hsig hd;simp only[Sg.enc]at hf;refine aF Tryz.func102 fun B=>?_
 refine nR ?_;refine nR ?_;refine cQ (a55 (n+1) _ l b s om (hs.full hl _)) ?_;refine aS ?_;refine nF ?_;cases hk:ZU g s.S 0 with
 |none=>
  have e:Y3 g s.S=[]:=by rw[Y3,hk]
  rw[e]at hix hlen;rw[hk]at hf;refine nD drawO ?_;simp only[go_sem,simprocAttr,hne,hb,hsig,ZR,lookA,Xz,hf];refine⟨hkk,?_⟩;refine ZjX (Zf Tryz.func162 rfl rfl) (Zi.args (a61 (n+1) _ l b s [] .full om (hs.full hl _) hg om (hT.full hn) hix hlen (Y8 [] (fun _ _ e=>by cases e))) (args':=[.ptr l b 0,.Xg]) ⟨.refl _,.sem fun _ _ h=>h.ZiW,trivial⟩) (by simp only[go_sem,simprocAttr,XI]) ?_;refine aS ?_;refine nV ?_;rw[e];exact Zc (.refl _) (YM _) rfl
 |some j=>
  have hj:=Jw hk;have hj':j<s.S.length:=by omega
  have e:Y3 g s.S=s.S[j].2:=by rw[Y3,hk];simp[Qd hj']
  rw[e]at hix hlen;rw[hk]at hf;have hdj:=hd j hj';refine nD drawO ?_;simp only[go_sem,simprocAttr,hne,hb,hsig,ZR,lookA,Xz,hf,hdj];refine⟨hkk,?_⟩;refine cQ (a61 (n+1) _ l b s s.S[j].2 (.buf l (b+5+2*(0+j))) om (hs.full hl _) hg om (hT.full hn) hix hlen (Y8 _ (fun _ _ e=>by cases e;omega))) ?_;refine aS ?_;refine nV ?_;rw[e];exact Zc (.refl _) (YM _) rfl
theorem Zj9(p:List UInt8)(m c:Int)(t:List UInt8):YE tt 116 (.agg [.str p,.int .i64 m,.int .i64 c,.str t])=true:=by
 simp only[YE,AV.cells,klAll,AV.kl];rfl
theorem a32(n:Nat)(H:Za)(l b:Nat)(s:Sto)(g0:Sg)(c:Int)(v:Tm)(hv:v.Good)(hl:l<n)(hs:Yf H l b s)(hg:JO s.A)(hn:0<n)(hT:Tabs H)(hix:∀i∈Y3 (⟨g0,c,txt v⟩:Ak) s.R,0≤i∧i<s.A.length)(hlen:(Y3 (⟨g0,c,txt v⟩:Ak) s.R).length≤1000000):
  PC Tryz.prog n 190 [.ptr l b 0,g0.enc,.int .i64 c,v.enc] H (.sl 2 ((if Zu v=true then Zf0 s.A (Y3 (⟨g0,c,txt v⟩:Ak) s.R)else []).map Am.enc) .any):=by
 generalize hgk:(⟨g0,c,txt v⟩:Ak)=g at*;have hne:¬l=n:=by omega
 have hb:=hs.box;have harg:=hs.arg;have hf:XP g.enc.kls ((ents Ak.enc l (b+6) 0 s.R).map fun p=>p.1.kls) 0=ZU g s.R 0:=Zbc Ak.enc Zk9 g l (b+6) s.R 0 0;have hkk:∀p,p∈ents Ak.enc l (b+6) 0 s.R→YE tt 116 p.1=true:=fun p hp=>by
  obtain⟨k,hk⟩:=ZbF _ _ _ _ _ _ hp;rw[hk];exact Zj9 _ _ _ _
 have hd:=fun j h=>Js Ak.enc l (b+6) s.R 0 j h (.dead,.dead)
 generalize ents Ak.enc l (b+6) 0 s.R=es at hf hkk harg hd;have hge:g.enc= .agg [.str g0.p,.int .i64 g0.n,.int .i64 c,.str (txt v)]:=by rw[←hgk];rfl
 rw[hge]at hf;refine aF Tryz.func190 fun B=>?_
 refine nR ?_;refine nR ?_;refine cQ (a55 (n+1) _ l b s om (hs.full hl _)) ?_;refine aS ?_;refine cT (a37 v hv) ?_;cases h1:Zu v with
 |false=>
  refine VK rfl rfl (by simp only[go_sem,simprocAttr,h1]) ?_;refine nR ?_;refine nV ?_;exact Zc (.any _ _ _) (YM []) rfl
 |true=>
 refine VB rfl rfl (by simp only[go_sem,simprocAttr,h1]) ?_;rw[if_pos rfl];cases hk:ZU g s.R 0 with
 |none=>
  have e:Y3 g s.R=[]:=by rw[Y3,hk]
  rw[e]at hix hlen;rw[hk]at hf;refine nD drawO ?_;simp only[go_sem,simprocAttr,hne,hb,harg,ZR];refine cT (a58 v hv h1) ?_;simp only[go_sem,simprocAttr,hne,hb,harg,ZR,Zj9,lookA,Xz,hf];refine⟨hkk,?_⟩;refine ZjX (Zf Tryz.func162 rfl rfl) (Zi.args (a61 (n+1) _ l b s [] .full om (hs.full hl _) hg om (hT.full hn) hix hlen (Y8 [] (fun _ _ e=>by cases e))) (args':=[.ptr l b 0,.Xg]) ⟨.refl _,.sem fun _ _ h=>h.ZiW,trivial⟩) (by simp only[go_sem,simprocAttr,XI]) ?_;refine aS ?_;refine nV ?_;rw[e];exact Zc (.refl _) (YM _) rfl
 |some j=>
  have hj:=Jw hk;have hj':j<s.R.length:=by omega
  have e:Y3 g s.R=s.R[j].2:=by rw[Y3,hk];simp[Qd hj']
  rw[e]at hix hlen;rw[hk]at hf;have hdj:=hd j hj';refine nD drawO ?_;simp only[go_sem,simprocAttr,hne,hb,harg,ZR];refine cT (a58 v hv h1) ?_;simp only[go_sem,simprocAttr,hne,hb,harg,ZR,Zj9,lookA,Xz,hf,hdj];refine⟨hkk,?_⟩;refine cQ (a61 (n+1) _ l b s s.R[j].2 (.buf l (b+6+2*(0+j))) om (hs.full hl _) hg om (hT.full hn) hix hlen (Y8 _ (fun _ _ e=>by cases e;omega))) ?_;refine aS ?_;refine nV ?_;rw[e];exact Zc (.refl _) (YM _) rfl
def YF(H:Za)(l b:Nat):Prop:=∀k,b≤k→H l k=none
def sto0:Sto:=⟨[],[],[],[]⟩
theorem Zu1(H:Za)(l b:Nat)(hf:YF H l b):(((H.upd l (b+2) (.map [])).upd l (b+3) (.map [])).upd l (b+4) (.map [])).upd l b (.box [.sl 2 [] .full,.map l (b+2),.map l (b+3),.map l (b+4)])=put H l b sto0:=by
 funext l' k;unfold put;by_cases hl:l'=l
 ·subst hl;rw[if_pos rfl,Y6];simp only[Za.upd,sto0,ZR,Yz,Uy,ents,true_and,if_true,List.getElem?_nil,Qbf];by_cases h1:k=b
  ·subst h1;simp
  ·by_cases h2:k=b+2
   ·subst h2;simp
   ·by_cases h3:k=b+3
    ·subst h3;simp
    ·by_cases h4:k=b+4
     ·subst h4;simp
     ·simp[h1,h2,h3,h4]
 ·rw[if_neg hl];simp[Za.upd,hl]
theorem ZbC{cx:Cx}{c:Code}{k:List Itm}{Q:Exit→Zb→Prop}{tm:List (Nat×AV)}{L:List (Nat×Ze)}{H:Za}(j l q:Nat)(x:Ze)(tm':List (Nat×AV))(hl:l<cx.n)(hfree:H l q=none)(hj:lkb L j=some x)(hb:x.Below cx.n)
  (h1:Yi (fun p=>Zgd cx.n j (lkv tm p.1)∧Wk (ren cx.n j l q (lkv tm p.1)) p.2) tm') (hL:Yi (fun p=>Yi (fun a=>Zgd cx.n j a) p.2.avs∧p.2.at_=[]∧p.2.isRec=false) (delb L j))
  (h:AKc cx (.code c::k) Q ⟨tm',Zev cx.n j l q L,H.upd l q x⟩):AKc cx (.code c::k) Q ⟨tm,L,H⟩:=
 ZK (Zi2 j l q hl hfree hj hb h1.mem (fun p hp=>by
  obtain⟨g1,g2,g3⟩:=hL.mem p hp;exact⟨g1.mem,⟨(fun r hr=>absurd (g2▸hr) (Qy)),g3⟩⟩)) h
theorem a22(n:Nat)(H:Za)(l b:Nat)(hl:l<n)(hf:YF H l b):Zi Tryz.prog n 36 [] H (fun r H'=>r= .ptr l b 0∧H'=put H l b sto0):=by
 refine aF Tryz.func36 fun B=>?_
 refine nR ?_;refine nR ?_;refine kK ?_;refine ZK (s':=⟨[(0,.ptr n 5 0)],[(1,.map []),(2,.map []),(3,.map []),(5,.box [.sl 2 [] .full,.map n 1,.map n 2,.map n 3])],H⟩) ?_ ?_
 ·exact KK
 have hne:¬l=n:=by omega
 have hsl:∀q,Inside n q (.sl 2 [] .full):=fun q=>WV (fun x hx=>by cases hx)
 have hmb:Ze.Below n (.map []):=⟨by simp[Ze.avs],by simp[Ze.at_]⟩
 have hth:∀j,Zgd n j (.sl 2 [] .full):=fun j=>.inl (hsl _)
 have hm:∀j k,k≠j→Zgd n j (.map n k):=fun j k h=>.inl (.map _ _ (.inr ⟨rfl,h⟩))
 have hm':∀j k,Zgd n j (.map l k):=fun j k=>.inl (.map _ _ (.inl hl))
 have hp:∀j k,k≠j→Zgd n j (.ptr n k 0):=fun j k h=>.inl (.ptr _ _ _ (.inr ⟨rfl,h⟩))
 refine ZbC 1 l (b+2) _ [(0,.ptr n 5 0)] hl (hf _ om) rfl hmb ⟨⟨hp _ _ dc,by simp[lkv,ren];exact .refl _⟩,trivial⟩ ⟨⟨trivial,rfl,rfl⟩,⟨trivial,rfl,rfl⟩,⟨⟨hth _,.inr (.inr (.inl rfl)),hm _ _ dc,hm _ _ dc,trivial⟩,rfl,rfl⟩,trivial⟩ ?_;simp only[go_sem,simprocAttr,Zev,delb,Ze.Zcp,ren];refine ZbC 2 l (b+3) _ [(0,.ptr n 5 0)] hl (by simp[Za.upd];exact hf _ om) rfl hmb ⟨⟨hp _ _ dc,by simp[lkv,ren];exact .refl _⟩,trivial⟩ ⟨⟨trivial,rfl,rfl⟩,⟨⟨hth _,hm' _ _,.inr (.inr (.inl rfl)),hm _ _ dc,trivial⟩,rfl,rfl⟩,trivial⟩ ?_;simp only[go_sem,simprocAttr,Zev,delb,Ze.Zcp,ren,hne,false_and,if_false];refine ZbC 3 l (b+4) _ [(0,.ptr n 5 0)] hl (by simp[Za.upd];exact hf _ om) rfl hmb ⟨⟨hp _ _ dc,by simp[lkv,ren];exact .refl _⟩,trivial⟩ ⟨⟨⟨hth _,hm' _ _,hm' _ _,.inr (.inr (.inl rfl)),trivial⟩,rfl,rfl⟩,trivial⟩ ?_;simp only[go_sem,simprocAttr,Zev,delb,Ze.Zcp,ren,hne,false_and,if_false];refine ZbC 5 l b _ [(0,.ptr l b 0)] hl (by simp[Za.upd];exact hf _ om) rfl (Ze.ZB ⟨.sl _ _ _ (fun i h=>absurd h (Qm _)) (fun _ _ e=>by cases e),.map _ _ hl,.map _ _ hl,.map _ _ hl,trivial⟩) ⟨⟨.inr (.inl ⟨0,rfl⟩),by simp[lkv,ren];exact .refl _⟩,trivial⟩ trivial ?_;simp only[go_sem,simprocAttr,Zev,delb,Ze.Zcp,ren,hne,false_and,if_false];refine nV ?_;exact⟨by simp[XW],[.ptr l b 0],⟨.refl _,trivial⟩,by simp only[Ql,forall_eq];exact .ptr _ _ _ hl,rfl,Zu1 H l b hf⟩
section
variable {κ:Type} [DecidableEq κ]
def X7(k:κ)(x:Int)(es:List (κ×List Int)):List (κ×List Int):=match ZU k es 0 with
 |some j=>es.set j (k,Y3 k es++[x])
 |none=>es++[(k,[x])]
theorem Zd2(enc:κ→AV)(l b:Nat):∀(es:List (κ×List Int)) (i:Nat),(ents enc l b i es).length=es.length
 |[],_=>rfl
 |p::r,i=>by simp only[ents,Qo,Zd2 enc l b r]
theorem ZeK(enc:κ→AV)(l b:Nat)(p:κ×List Int):∀(es:List (κ×List Int)) (i:Nat),ents enc l b i (es++[p])=ents enc l b i es++[(enc p.1,.sl 1 (intsOf p.2) (.buf l (b+2*(i+es.length))))]
 |[],i=>by simp[ents]
 |q::r,i=>by
  simp only[Q9,ents,ZeK enc l b p r (i+1),Qo];rw[show i+1+r.length=i+(r.length+1) by omega]
theorem Zc2(enc:κ→AV)(l b:Nat)(p:κ×List Int):∀(es:List (κ×List Int)) (i j:Nat),ents enc l b i (es.set j p)=(ents enc l b i es).set j (enc p.1,.sl 1 (intsOf p.2) (.buf l (b+2*(i+j))))
 |[],i,j=>rfl
 |q::r,i,0=>by simp[ents]
 |q::r,i,j+1=>by
  simp only[MJ,ents,Zc2 enc l b p r (i+1) j];rw[show i+1+j=i+(j+1) by omega]
theorem Zjm{k:κ}{β:Type}:∀{es:List (κ×β)} {i j:Nat},ZU k es i=some j→ ∃h:j - i<es.length,(es[j - i]).1=k
 |[],_,_,h=>by cases h
 |p::r,i,j,h=>by
  simp only[ZU]at h;split at h
  ·rename_i e;cases h;exact⟨sm,by simpa using e⟩
  ·obtain⟨h1,h2⟩:=Zjm h;have h3:=(Jw h).1;have e:j - i=(j - (i+1))+1:=by omega
   refine⟨by rw[e];simp only[Qo];omega,?_⟩;simp only[e,UW];exact h2
theorem Zce{k:κ}{es:List (κ×List Int)}{j:Nat}(h:ZU k es 0=some j):∃hj:j<es.length,es[j]=(k,Y3 k es):=by
 obtain⟨h1,h2⟩:=Zjm h;refine⟨h1,?_⟩;have:Y3 k es=es[j].2:=by
  unfold Y3;rw[h];simp[Qd (show j<es.length from h1)]
 rw[this];exact Qa9 h2 rfl
def Bd(es:List (κ×List Int))(m:Nat):Prop:=∀p∈es,p.2.length≤m
theorem Bd.ix{k:κ}{es:List (κ×List Int)}{m:Nat}(h:Bd es m):(Y3 k es).length≤m:=by
 unfold Y3;cases hk:ZU k es 0 with
 |none=>simp
 |some j=>
  have hj:=Jw hk;have:j<es.length:=by omega
  simp only[Qd this,Us,Um];exact h _ (Qa this)
theorem Bd.add{k:κ}{x:Int}{es:List (κ×List Int)}{m:Nat}(h:Bd es m):Bd (X7 k x es) (m+1):=by
 intro p hp;unfold X7 at hp;split at hp
 ·rcases Qai hp with hp|rfl
  ·exact Qa0 (h p hp)
  ·have:=h.ix (k:=k);simp;exact this
 ·rcases Qj.1 hp with hp|hp
  ·exact Qa0 (h p hp)
  ·simp only[Ql]at hp;subst hp;simp
theorem JC{n l b:Nat}(enc:κ→AV)(hl:l<n)(he:∀k,Below n (enc k)):∀(es:List (κ×List Int)) (i:Nat),∀p∈ents enc l b i es,Below n p.1∧Below n p.2
 |[],_,p,h=>by cases h
 |q::r,i,p,h=>by
  simp only[ents,Qk]at h;rcases h with rfl|h
  ·exact⟨he _,Y8 _ (fun _ _ e=>by cases e;exact hl)⟩
  ·exact JC enc hl he r (i+1) p h
end
section
variable {n:Nat}
theorem Xo{es:List (AV×AV)}(h:∀p∈es,Below n p.1∧Below n p.2):Ze.Below n (.map es):=by
 refine⟨fun a ha=>?_,by simp[Ze.at_]⟩;rcases Qj.1 ha with ha|ha<;>obtain⟨p,hp,rfl⟩:=Qb.1 ha
 ·exact(h p hp).1
 ·exact(h p hp).2
theorem Wj(n e sz fr:Nat):Ze.Below n (.buf e sz fr):=⟨by simp[Ze.avs],by simp[Ze.at_]⟩
theorem Ak.blw(n:Nat)(k:Ak):Below n k.enc:=Xb (by simp only[Qk,Qy,or_false,forall_eq_or_imp,forall_eq];exact⟨.str _,.int _ _,.int _ _,.str _⟩)
theorem ZhE(N:List (List UInt8×Int)):∀p∈N.map ZcF,Below n p.1∧Below n p.2:=fun p hp=>by
 obtain⟨q,_,rfl⟩:=Qb.1 hp;exact⟨.str _,.int _ _⟩
theorem Zgb{l b:Nat}(hl:l<n)(A:List Am):Ze.Below n (.box (ZR l b A)):=by
 refine Ze.ZB ⟨?_,.map _ _ hl,.map _ _ hl,.map _ _ hl,trivial⟩;unfold Yz;split
 ·exact .sl _ _ _ (fun i h=>absurd h (Qm _)) (fun _ _ e=>by cases e)
 ·exact YT (fun x hx=>by obtain⟨u,_,rfl⟩:=Qb.1 hx;exact u.blw n) (fun _ _ e=>by cases e;exact hl)
section
variable {H:Za} {l b:Nat} {s:Sto}
theorem Zdv(hf:YF H l b){k:Nat}(hk:b≤k):put H l b s l k=lkb (lst l b s) k:=by
 unfold put;rw[if_pos rfl,hf k hk,Option.or_none]
theorem Zq5(hf:YF H l b)(N:List (List UInt8×Int)):(put H l b s).upd l (b+2) (.map (N.map ZcF))=put H l b ⟨s.A,N,s.S,s.R⟩:=by
 funext l' k;unfold Za.upd put;by_cases hl:l'=l
 ·subst hl;simp only[true_and,if_true,Y6];by_cases h:k=b+2
  ·subst h;simp[ZcF]
  ·simp[h]
 ·simp[hl]
theorem Za8(H:Za)(l b:Nat)(s:Sto)(l' k:Nat):put H l b s l' k=if l'=l then(lkb (lst l b s) k).or (H l' k)else H l' k:=rfl
theorem Zjz(hf:YF H l b)(p:Sg×List Int)(m:Ze):
  (((put H l b s).upd l (b+3) m).upd l (b+5+2*s.S.length) (.buf 3 1 p.2.length)).upd l (b+3) (.map (ents Sg.enc l (b+5) 0 (s.S++[p])))=put H l b ⟨s.A,s.N,s.S++[p],s.R⟩:=by
 funext l' k;simp only[Za.upd,Za8];by_cases hl:l'=l
 ·subst hl;simp only[true_and,if_true,Y6];by_cases h:k=b+3
  ·subst h;simp
  ·simp only[h,if_false];by_cases h2:k=b+5+2*s.S.length
   ·subst h2;rw[if_pos rfl,if_neg om,if_neg om,if_neg om,if_neg om,if_pos om];have:(b+5+2*s.S.length - (b+5)) / 2=s.S.length:=by omega
    rw[this];simp
   ·rw[if_neg h2];by_cases h3:b+5≤k∧(k - (b+5)) % 2=0
    ·rw[if_pos h3,if_pos h3];have:(k - (b+5)) / 2≠s.S.length:=by omega
     have e:(s.S++[p])[(k - (b+5)) / 2]? =s.S[(k - (b+5)) / 2]?:=by
      rcases Qg ((k - (b+5)) / 2) s.S.length with h4|h4
      ·rw[UL h4]
      ·rw[Ut (by simp;omega),Ut h4]
     rw[e]
    ·rw[if_neg h3,if_neg h3]
 ·simp[hl]
theorem Zjl(hf:YF H l b)(p:Sg×List Int)(j:Nat)(hj:j<s.S.length)(m:Ze):
  (((put H l b s).upd l (b+3) m).upd l (b+5+2*j) (.buf 3 1 p.2.length)).upd l (b+3) (.map (ents Sg.enc l (b+5) 0 (s.S.set j p)))=put H l b ⟨s.A,s.N,s.S.set j p,s.R⟩:=by
 funext l' k;simp only[Za.upd,Za8];by_cases hl:l'=l
 ·subst hl;simp only[true_and,if_true,Y6];by_cases h:k=b+3
  ·subst h;simp
  ·simp only[h,if_false];by_cases h2:k=b+5+2*j
   ·subst h2;rw[if_pos rfl,if_neg om,if_neg om,if_neg om,if_neg om,if_pos om];have:(b+5+2*j - (b+5)) / 2=j:=by omega
    rw[this];simp[hj]
   ·rw[if_neg h2];by_cases h3:b+5≤k∧(k - (b+5)) % 2=0
    ·rw[if_pos h3,if_pos h3];rw[QaD om]
    ·rw[if_neg h3,if_neg h3]
 ·simp[hl]
theorem ZkG(hf:YF H l b)(p:Ak×List Int)(m:Ze):
  (((put H l b s).upd l (b+4) m).upd l (b+6+2*s.R.length) (.buf 3 1 p.2.length)).upd l (b+4) (.map (ents Ak.enc l (b+6) 0 (s.R++[p])))=put H l b ⟨s.A,s.N,s.S,s.R++[p]⟩:=by
 funext l' k;simp only[Za.upd,Za8];by_cases hl:l'=l
 ·subst hl;simp only[true_and,if_true,Y6];by_cases h:k=b+4
  ·subst h;simp
  ·simp only[h,if_false];by_cases h2:k=b+6+2*s.R.length
   ·subst h2;rw[if_pos rfl,if_neg om,if_neg om,if_neg om,if_neg om,if_neg om,if_pos om];have:(b+6+2*s.R.length - (b+6)) / 2=s.R.length:=by omega
    rw[this];simp
   ·rw[if_neg h2];by_cases h3:b+6≤k∧(k - (b+6)) % 2=0
    ·rw[if_pos h3,if_pos h3];have:(k - (b+6)) / 2≠s.R.length:=by omega
     have e:(s.R++[p])[(k - (b+6)) / 2]? =s.R[(k - (b+6)) / 2]?:=by
      rcases Qg ((k - (b+6)) / 2) s.R.length with h4|h4
      ·rw[UL h4]
      ·rw[Ut (by simp;omega),Ut h4]
     rw[e]
    ·rw[if_neg h3,if_neg h3]
 ·simp[hl]
theorem ZjV(hf:YF H l b)(p:Ak×List Int)(j:Nat)(hj:j<s.R.length)(m:Ze):
  (((put H l b s).upd l (b+4) m).upd l (b+6+2*j) (.buf 3 1 p.2.length)).upd l (b+4) (.map (ents Ak.enc l (b+6) 0 (s.R.set j p)))=put H l b ⟨s.A,s.N,s.S,s.R.set j p⟩:=by
 funext l' k;simp only[Za.upd,Za8];by_cases hl:l'=l
 ·subst hl;simp only[true_and,if_true,Y6];by_cases h:k=b+4
  ·subst h;simp
  ·simp only[h,if_false];by_cases h2:k=b+6+2*j
   ·subst h2;rw[if_pos rfl,if_neg om,if_neg om,if_neg om,if_neg om,if_neg om,if_pos om];have:(b+6+2*j - (b+6)) / 2=j:=by omega
    rw[this];simp[hj]
   ·rw[if_neg h2];by_cases h3:b+6≤k∧(k - (b+6)) % 2=0
    ·rw[if_pos h3,if_pos h3];rw[QaD om]
    ·rw[if_neg h3,if_neg h3]
 ·simp[hl]
theorem ZnB(hf:YF H l b)(a:Am):
  ((put H l b s).upd l (b+1) (.buf 52 2 (s.A.length+1))).upd l b (.box (ZR l b (s.A++[a])))=put H l b ⟨s.A++[a],s.N,s.S,s.R⟩:=by
 funext l' k;simp only[Za.upd,Za8];by_cases hl:l'=l
 ·subst hl;simp only[true_and,if_true,Y6];by_cases h:k=b
  ·subst h;simp
  ·simp only[h,if_false];by_cases h2:k=b+1
   ·subst h2;rw[if_pos rfl,if_neg om,if_neg om,if_neg om,if_pos rfl,if_neg sm];simp
   ·simp only[if_neg h2]
 ·simp[hl]
end
end
end Go.Proofs.YtmdeagmbfhbbnaaGreatDoorR
