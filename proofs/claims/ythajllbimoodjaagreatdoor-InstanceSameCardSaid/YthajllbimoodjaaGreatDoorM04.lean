/- Sets of names. -/
import Derived.Test.YthajllbimoodjaaGreatDoorM03
import Derived.Test.YthajllbimoodjaaGreatDoorM02
import Derived.ScopeJumps
set_option linter.all false
set_option maxRecDepth 100000
open Go.Proofs.Tryz
noncomputable section
namespace Go.Proofs.YthajllbimoodjaaGreatDoor
open Go.Abs
def addN(S:List Str)(x:Str):List Str:=if x∈S then S else S++[x]
def ZO(S l:List Str):List Str:=l.foldl addN S
def encS(S:List Str):List (AV×AV):=ZaV AV.str (fun _:Unit=>AV.agg []) (S.map fun s=>(s,()))
theorem Zkf(x:Str):∀S:List Str,(getM x (S.map fun s=>(s,()))).isSome=decide (x∈S)
 |[]=>rfl
 |y::r=>by
  have ih:=Zkf x r;simp only[Qs,getM];by_cases h:y=x
  ·simp[h]
  ·rw[if_neg h,ih];have:¬x=y:=fun e=>h e.symm
   simp[this]
theorem ZkY(x:Str):∀S:List Str,Zg4 x () (S.map fun s=>(s,()))=(addN S x).map fun s=>(s,())
 |[]=>rfl
 |y::r=>by
  have ih:=ZkY x r;simp only[Qs,Zg4];by_cases h:y=x
  ·simp[h,addN]
  ·rw[if_neg h,ih];have:¬x=y:=fun e=>h e.symm
   unfold addN;by_cases a:x∈r<;>simp[a,this]
def Zsj(x:Str)(S:List Str):Zat (.str x) (.agg []) (encS S)=encS (addN S x):=by
 unfold encS;rw[<-ZkY];exact Zmz kinj_str (fun _:Unit=>AV.agg []) x () _
def WC{n:Nat}(S:List Str):Ze.Below n (.map (encS S)):=ZjK (Zgg (ek:=AV.str) (ev:=fun _:Unit=>AV.agg []) (fun _=>.str _) (fun _ _=>Yt fun _ h=>absurd h (QA)))
def Zqj(x:Str)(S:List Str):lookA ⟨.struct [],0,0,[]⟩ (.str x) (encS S) true= .tup [.agg [],.bool (decide (x∈S))]:=by
 have h:=Zkf x S;unfold encS lookA;rw[ZiM kinj_str];cases e:getM x (S.map fun s=>(s,()))with
 |none=>rw[e]at h;simp at h;simp[h];rfl
 |some v=>
  rw[e]at h;simp at h;have a:=ZiQ e;have b:(ZaV AV.str (fun _:Unit=>AV.agg []) (S.map fun s=>(s,()))).getD (ixM x (S.map fun s=>(s,()))) (.dead,.dead)=(.str x,.agg []):=by
   rw[Qk,ZaV,Ub,a];rfl
  simp only[Qaf,if_true,b,h,decide_true]
def _root_.Go.Abs.Za.Zaa(H:Za)(l k:Nat)(b a:Ze):(H.upd l k b).upd l k a=H.upd l k a:=by
 funext x y;simp only[Za.upd];split<;>rfl
def Zps{S:List Str}{x y:Str}:y∈addN S x↔y∈S\/y=x:=by
 unfold addN;split
 ·rename_i h;constructor
  ·exact .inl
  ·rintro(a|rfl)
   ·exact a
   ·exact h
 ·simp
def Vw{y:Str}:∀{l S:List Str},y∈ZO S l↔y∈S\/y∈l
 |[],S=>by simp[ZO]
 |x::l,S=>by
  have:=Vw (y:=y) (l:=l) (S:=addN S x);unfold ZO at*;rw[U8,this,Zps,Ql,or_assoc]
def addsN_nodup:∀{l S:List Str},S.Nodup->(ZO S l).Nodup
 |[],S,h=>h
 |x::l,S,h=>by
  refine addsN_nodup (l:=l) (S:=addN S x) ?_;unfold addN;split
  ·exact h
  ·rename_i hn;exact G5.2 ⟨h,sm,fun a ha b hb e=>by simp only[Qo]at hb;subst hb;subst e;exact hn ha⟩
def addsN_len:∀{l S:List Str},(ZO S l).length<=S.length+l.length
 |[],S=>by simp[ZO]
 |x::l,S=>by
  have a:=addsN_len (l:=l) (S:=addN S x);have b:(addN S x).length<=S.length+1:=by unfold addN;split<;>simp
  unfold ZO at*;rw[U8,Qm];omega
def ZlJ(S l:List Str)(i:Nat)(h:i<l.length):ZO S (l.take (i+1))=addN (ZO S (l.take i)) l[i]:=by
 unfold ZO;rw[Qn h,Gz];rfl
def Zvz(l k:Nat)(S a:List Str)(H:Za)(i:Nat):Zc:=
 ⟨[(8,.int .i64 i),(7,.int .i64 a.length),(6,.sl 1 (YK a) .any),(0,.map l k)],[],H.upd l k (.map (encS (ZO S (a.take i))))⟩
def j40(n:Nat)(H:Za)(l k:Nat)(hl:l<n)(S a:List Str)(m:a.length<=1000000)(s:H l k=some (.map (encS S))):
  Zh prog n 68 [.map l k,.sl 1 (YK a) .any] H fun r t=>r= .tup []/\t=H.upd l k (.map (encS (ZO S a))):=by
 have e:¬l=n:=om;have u:H=H.upd l k (.map (encS (ZO S (a.take 0)))):=(Z7 s).symm;refine aF func68 fun B=>?_
 refine gh ?_;refine Zx (Zvz l k S a H) a.length rfl ?_ ?_
 ·unfold Zvz;rw[<-u];exact KK
 intro i v;refine ZV rfl ?_;rcases Qd i a.length with h|h
 ·refine nq h ?_;refine nT ?_;refine nq2 (getD_map AV.str _ _ h) h ?_;have c:=Zsj a[i] (ZO S (a.take i));have j:∀p∈encS (ZO S (a.take i)),Yv tt 9 p.1=true:=fun p o=>by
   obtain⟨q,_,rfl⟩:=Qg.1 o;exact ZeC _
  have d:H.upd l k (.map (encS (ZO S (a.take i)))) l k=some (.map (encS (ZO S (a.take i)))):=Za.upd_same _ _ _ _;have g:∀b,(H.upd l k (.map (encS (ZO S (a.take i))))).upd l k b=H.upd l k b:=fun b=>Za.Zaa _ _ _ _ _
  refine nr ?_;simp only[go_sem,simprocAttr,e,d,c,g,<-ZlJ S a i h];refine⟨j,.inr (WC _),?_⟩;refine kK ?_;refine gd ?_;apply kZ;repeat' first|apply q0|exact xx|apply aI
  ·refine aS ?_;rw[iw];exact .refl _
  all_goals first|exact Inside.map _ _ (.inl hl)|exact(VT _).inside
 ·refine nq (QC.2 h) ?_;refine gg ?_;have f:i=a.length:=om;subst f;refine nN ?_;exact⟨by simp[Y7],[],trivial,sm,rfl,by rw[QV]⟩
def Zxj(l k:Nat)(a:List Str)(H:Za)(i:Nat):Zc:=
 ⟨[(11,.int .i64 i),(10,.int .i64 a.length),(9,.sl 1 (YK a) .any),(0,.map l k)],[],H⟩
def j48(n:Nat)(H:Za)(l k:Nat)(hl:l<n)(S a:List Str)(m:a.length<=1000000)(s:H l k=some (.map (encS S))):
  PC prog n 88 [.map l k,.sl 1 (YK a) .any] H (.bool (Ve S a)):=by
 have c:¬l=n:=om;refine aF func88 fun B=>?_
 refine gk ?_;refine ZG (Zxj l k a H) (fun i=>∀j (h:j<a.length),j<i->a[j]∈S) a.length rfl ?_ (fun j _ h=>absurd h (Qj _)) ?_
 ·exact KK
 intro i u hq;refine ZV rfl ?_;rcases Qd i a.length with h|h
 ·refine nq h ?_;refine nT ?_;refine nq2 (getD_map AV.str _ _ h) h ?_;have g:∀p∈encS S,Yv tt 9 p.1=true:=fun p o=>by
   obtain⟨q,_,rfl⟩:=Qg.1 o;exact ZeC _
  have b:=Zqj a[i] S;refine nq3 c s b ?_;refine⟨g,?_⟩;refine kK ?_;refine nR ?_;by_cases hx:a[i]∈S
  ·have e:(!decide (a[i]∈S))=false:=by simp[hx]
   refine nFq e ?_;refine gd ?_;refine⟨fun j d t=>?_,?_⟩
   ·rcases Qd j i with h'|h'
    ·exact hq j d h'
    ·have:j=i:=om;subst this;exact hx
   ·apply kZ;repeat' first|apply q0|exact xx|apply aI
    ·refine aS ?_;rw[iw];exact .refl _
    all_goals first|exact Inside.map _ _ (.inl hl)|exact(VT _).inside|skip
  ·have e:(!decide (a[i]∈S))=true:=by simp[hx]
   have f:Ve S a=false:=by
    rw[<-Me,ZdL];exact fun r=>hx (r _ (Qa h))
   refine nTq e ?_;refine nR ?_;refine nW ?_;rw[f];refine Zb ?_ (.bool _) rfl;exact xS
 ·refine nq (QC.2 h) ?_;refine gg ?_;have f:Ve S a=true:=by
   rw[ZdL];intro x hx;obtain⟨j,d,rfl⟩:=QK hx;exact hq j d om
  refine ge ?_;rw[f];refine Zb ?_ (.bool _) rfl;exact xS
end Go.Proofs.YthajllbimoodjaaGreatDoor

namespace Go.Abs
def eBd(p:Bs×Tm):AV:=.agg (.str p.1::p.2.cs)
def Zu(b:Bnd):AV:=.sl 5 (b.map eBd) .any
def ZfE(n:Nat)(p:Bs×Tm):Below n (eBd p):=Yt (List.forall_mem_cons.2 ⟨.str _,p.2.bcs.mem⟩)
def ZH(n:Nat)(b:Bnd):Below n (Zu b):=Zl fun x a=>by obtain⟨u,_,rfl⟩:=Qg.1 a;exact ZfE n u
def eSs(l:List Bs):AV:=.sl 1 (l.map .str) .any
def ZfF(n:Nat)(l:List Bs):Below n (eSs l):=Zl fun x a=>by obtain⟨u,_,rfl⟩:=Qg.1 a;exact .str _
theorem ZlR(b:Bnd):(Zu b).cells=[Zu b]:=rfl
theorem Zos(l:List Bs):(eSs l).cells=[eSs l]:=rfl
theorem ZpF(b:Bnd):(Zu b).one=true:=rfl
theorem ZrI(l:List Bs):(eSs l).one=true:=rfl
attribute [go_sem] ZlR Zos ZpF ZrI
namespace Lt
def cs(x:Lt):LA:=[.int .u8 x.kind,.bool x.neg,.str x.at_.pred,.sl 4 (x.at_.args.map Tm.enc) .any,.int .u8 x.op,
 .int .u8 x.L.kind,.int .i64 x.L.num,.str x.L.name,.sl 4 (x.L.args.map Tm.enc) .any,.int .u8 x.R.kind,.int .i64 x.R.num,.str x.R.name,.sl 4 (x.R.args.map Tm.enc) .any]
def enc(x:Lt):AV:=.agg x.cs
def bcs{n:Nat}(x:Lt):ZW (fun c=>Below n c) x.cs:=⟨.int _ _,.bool _,.str _,ZB _,.int _ _,.int _ _,.int _ _,.str _,ZB _,.int _ _,.int _ _,.str _,ZB _,trivial⟩
def blw(n:Nat)(x:Lt):Below n x.enc:=Yt x.bcs.mem
theorem fold(x:Lt):AV.agg [.int .u8 x.kind,.bool x.neg,.str x.at_.pred,.sl 4 (x.at_.args.map Tm.enc) .any,.int .u8 x.op,
 .int .u8 x.L.kind,.int .i64 x.L.num,.str x.L.name,.sl 4 (x.L.args.map Tm.enc) .any,.int .u8 x.R.kind,.int .i64 x.R.num,.str x.R.name,.sl 4 (x.R.args.map Tm.enc) .any]=x.enc:=rfl
theorem Yu(x:Lt):x.enc.cells=x.cs:=rfl
def Zw(l:List Lt)(i:Nat)(h:i<l.length)(d:AV):(l.map enc).getD i d=(l[i]).enc:=by
 rw[Qk,Ub,Qe h];rfl
structure Good (x:Lt):Prop where
 at_:x.at_.Good
 L:x.L.Good
 R:x.R.Good
end Lt
def Ym{n k:Nat}(l:List Lt):Below n (.sl k (l.map Lt.enc) .any):=Zl fun x a=>by obtain⟨u,_,rfl⟩:=Qg.1 a;exact u.blw n
def ZI{n k:Nat}(l:List Bnd):Below n (.sl k (l.map Zu) .any):=Zl fun x a=>by obtain⟨u,_,rfl⟩:=Qg.1 a;exact ZH n u
def ZhK{n k:Nat}(l:List (List Bs)):Below n (.sl k (l.map eSs) .any):=Zl fun x a=>by obtain⟨u,_,rfl⟩:=Qg.1 a;exact ZfF n u
end Go.Abs
namespace Go.Proofs.YthajllbimoodjaaGreatDoor
open Go.Abs
abbrev SS:=List Str
def ZvN(l:List (Tm))(f:Nat)(a:LA)(g:Tm->Tm)(n:Nat)(H:Za)(i:Nat):Zc:=
 ⟨[(10,.int .i64 i),(9,.int .i64 l.length),(8,.sl 4 (l.map Tm.enc) .any),(5,.sl 4 (((l.take i).map g).map Tm.enc) (.buf n 200)),(1,.fn (.func f) a)],[(200,.buf 25 4 i)],H⟩
def j70(l:List (Tm))(hl:l.length<=1000000)(f:Nat)(caps:LA)(g:Tm->Tm)(b:Zfn f caps Tm.enc Tm.enc l g):Yb prog 71 [.sl 4 (l.map Tm.enc) .any,.fn (.func f) caps] (.sl 4 ((l.map g).map Tm.enc) .any):=by
 intro n H p o;obtain⟨⟨j,c,m⟩,b,d⟩:=b;have hfi:∀q,Inside n q (.fn (.func f) caps):=fun q=>(Below.fn _ _ fun i k=>(d n).mem _ (Qa k)).inside
 have hbi:∀q,Inside n q (.sl 4 (l.map Tm.enc) .any):=fun q=>(ZB _).inside
 have ho:∀(q:Nat->Prop) (r:List (Tm)),q 200->Inside n q (.sl 4 (r.map Tm.enc) (.buf n 200)):=fun q r h=>Abs.YF (mB fun u=>Tm.blw n u) h
 refine aF func71 fun B=>?_
 refine gz ?_;refine XL 5 200 25 4 rfl rfl ?_;refine Zx (ZvN l f caps g n H) l.length rfl ?_ ?_
 ·exact KK
 intro i k;refine ZV rfl ?_;rcases Qd i l.length with h|h
 ·have a:(l.take i).length=i:=UG om;refine nq h ?_;refine nT ?_;refine nq2 (getD_map Tm.enc _ _ h) h ?_;refine nR ?_;refine Yp (avs:=[Tm.enc l[i]]) rfl m (b l[i] (Qa h) _ _ (UR _) (o.full p)) rfl ?_;refine aq a ?_;refine⟨by first|exact⟨rfl,dc⟩|exact⟨rfl,rfl,rfl⟩|exact rfl,⟨Zn om,om⟩,?_⟩;refine gd ?_;apply kZ;repeat' first|apply q0|exact xx|apply aI
  ·refine aS ?_;rw[iw];exact .refl _
  ·simp only[go_sem,simprocAttr,Qn h,QM];exact .refl _
  all_goals first|exact hfi _|exact hbi _|exact ho _ _ rfl
 ·refine nq (QC.2 h) ?_;refine gg ?_;have e:i=l.length:=om;subst e;refine gE ?_;refine Zb ?_ (ZB _) rfl;refine aS ?_;exact .any _ _ _
def ZvO(l:List (Tm))(f:Nat)(a:LA)(g:Tm->SS)(n:Nat)(H:Za)(i:Nat):Zc:=
 ⟨[(10,.int .i64 i),(9,.int .i64 l.length),(8,.sl 4 (l.map Tm.enc) .any),(5,.sl 1 (((l.take i).map g).map eSs) (.buf n 200)),(1,.fn (.func f) a)],[(200,.buf 133 1 i)],H⟩
def j83(l:List (Tm))(hl:l.length<=1000000)(f:Nat)(caps:LA)(g:Tm->SS)(b:Zfn f caps Tm.enc eSs l g):Yb prog 175 [.sl 4 (l.map Tm.enc) .any,.fn (.func f) caps] (.sl 1 ((l.map g).map eSs) .any):=by
 intro n H p o;obtain⟨⟨j,c,m⟩,b,d⟩:=b;have hfi:∀q,Inside n q (.fn (.func f) caps):=fun q=>(Below.fn _ _ fun i k=>(d n).mem _ (Qa k)).inside
 have hbi:∀q,Inside n q (.sl 4 (l.map Tm.enc) .any):=fun q=>(ZB _).inside
 have ho:∀(q:Nat->Prop) (r:List (SS)),q 200->Inside n q (.sl 1 (r.map eSs) (.buf n 200)):=fun q r h=>Abs.YF (mB fun u=>ZfF n u) h
 refine aF func175 fun B=>?_
 refine gz ?_;refine XL 5 200 133 1 rfl rfl ?_;refine Zx (ZvO l f caps g n H) l.length rfl ?_ ?_
 ·exact KK
 intro i k;refine ZV rfl ?_;rcases Qd i l.length with h|h
 ·have a:(l.take i).length=i:=UG om;refine nq h ?_;refine nT ?_;refine nq2 (getD_map Tm.enc _ _ h) h ?_;refine nR ?_;refine Yp (avs:=[Tm.enc l[i]]) rfl m (b l[i] (Qa h) _ _ (UR _) (o.full p)) rfl ?_;refine aq a ?_;refine⟨by first|exact⟨rfl,dc⟩|exact⟨rfl,rfl,rfl⟩|exact rfl,⟨Zn om,om⟩,?_⟩;refine gd ?_;apply kZ;repeat' first|apply q0|exact xx|apply aI
  ·refine aS ?_;rw[iw];exact .refl _
  ·simp only[go_sem,simprocAttr,Qn h,QM];exact .refl _
  all_goals first|exact hfi _|exact hbi _|exact ho _ _ rfl
 ·refine nq (QC.2 h) ?_;refine gg ?_;have e:i=l.length:=om;subst e;refine gE ?_;refine Zb ?_ (ZhK _) rfl;refine aS ?_;exact .any _ _ _
def ZtT(l:List (Tm))(f:Nat)(a:LA)(g:Tm->Bnd)(n:Nat)(H:Za)(i:Nat):Zc:=
 ⟨[(10,.int .i64 i),(9,.int .i64 l.length),(8,.sl 4 (l.map Tm.enc) .any),(5,.sl 1 (((l.take i).map g).map Zu) (.buf n 200)),(1,.fn (.func f) a)],[(200,.buf 93 1 i)],H⟩
def j136(l:List (Tm))(hl:l.length<=1000000)(f:Nat)(caps:LA)(g:Tm->Bnd)(b:Zfn f caps Tm.enc Zu l g):Yb prog 250 [.sl 4 (l.map Tm.enc) .any,.fn (.func f) caps] (.sl 1 ((l.map g).map Zu) .any):=by
 intro n H p o;obtain⟨⟨j,c,m⟩,b,d⟩:=b;have hfi:∀q,Inside n q (.fn (.func f) caps):=fun q=>(Below.fn _ _ fun i k=>(d n).mem _ (Qa k)).inside
 have hbi:∀q,Inside n q (.sl 4 (l.map Tm.enc) .any):=fun q=>(ZB _).inside
 have ho:∀(q:Nat->Prop) (r:List (Bnd)),q 200->Inside n q (.sl 1 (r.map Zu) (.buf n 200)):=fun q r h=>Abs.YF (mB fun u=>ZH n u) h
 refine aF func250 fun B=>?_
 refine gz ?_;refine XL 5 200 93 1 rfl rfl ?_;refine Zx (ZtT l f caps g n H) l.length rfl ?_ ?_
 ·exact KK
 intro i k;refine ZV rfl ?_;rcases Qd i l.length with h|h
 ·have a:(l.take i).length=i:=UG om;refine nq h ?_;refine nT ?_;refine nq2 (getD_map Tm.enc _ _ h) h ?_;refine nR ?_;refine Yp (avs:=[Tm.enc l[i]]) rfl m (b l[i] (Qa h) _ _ (UR _) (o.full p)) rfl ?_;refine aq a ?_;refine⟨by first|exact⟨rfl,dc⟩|exact⟨rfl,rfl,rfl⟩|exact rfl,⟨Zn om,om⟩,?_⟩;refine gd ?_;apply kZ;repeat' first|apply q0|exact xx|apply aI
  ·refine aS ?_;rw[iw];exact .refl _
  ·simp only[go_sem,simprocAttr,Qn h,QM];exact .refl _
  all_goals first|exact hfi _|exact hbi _|exact ho _ _ rfl
 ·refine nq (QC.2 h) ?_;refine gg ?_;have e:i=l.length:=om;subst e;refine gE ?_;refine Zb ?_ (ZI _) rfl;refine aS ?_;exact .any _ _ _
end Go.Proofs.YthajllbimoodjaaGreatDoor

namespace Go.Proofs.YthajllbimoodjaaGreatDoor
open Go.Abs
def WH(b:UInt8):Bool:=b==40||b==41||b==44
def tok_split:∀(p q r s:Bs),(∀b∈p,WH b=false)->(∀b∈q,WH b=false)->(∀b e,r=b::e->WH b=true)->(∀b d,s=b::d->WH b=true)->p++r=q++s->p=q/\r=s
 |[],[],r,s,_,_,_,_,h=>⟨rfl,h⟩
 |[],b::q,r,s,_,hq,hr,_,h=>by
  have:=hr b (q++s) (by simpa using h);rw[hq b sm]at this;cases this
 |a::p,[],r,s,hp,_,_,hs,h=>by
  have:=hs a (p++r) (by simpa using h.symm);rw[hp a sm]at this;cases this
 |a::p,b::q,r,s,hp,hq,hr,hs,h=>by
  simp only[QN,Ug]at h;obtain⟨g,f⟩:=tok_split p q r s (fun b c=>hp b (by simp[c])) (fun b c=>hq b (by simp[c])) hr hs h.2;exact⟨by rw[h.1,g],f⟩
def ZoJ{b:UInt8}(h:isIn (b.toNat:Int)=true):WH b=false:=by
 rcases b.toNat_lt with _;simp only[isIn,isLow,isUp,Ze8,Md,Qb,decide_eq_true_eq,beq_iff_eq]at h;simp only[WH,QaS,beq_eq_false_iff_ne];refine⟨⟨?_,?_⟩,?_⟩<;>(rintro rfl;simp at h)
def und_take:∀(s:Bs),∀b∈s.take (und s),b=95
 |[],b,h=>by simp at h
 |c::r,b,h=>by
  simp only[und]at h;split at h
  ·rename_i a;simp only[Qat,Ql]at h;rcases h with rfl|h
   ·have:(b.toNat:Int)=95:=by simpa using a
    exact UInt8.toNat_inj.1 (by show b.toNat=95;omega)
   ·exact und_take r b h
  ·simp at h
section
variable {s:Bs}
def Xq(h:sym s=true):(∀b∈s,WH b=false)/\ ∃b r,s=b::r/\(b=95\/isLow (b.toNat:Int)=true):=by
 simp only[sym,Qb,decide_eq_true_eq]at h;obtain⟨⟨⟨d,a⟩,c⟩,_⟩:=h;simp only[wd,Qb,Qw]at c;refine⟨fun b hb=>?_,?_⟩
 ·rw[<-Q8 (und s) s]at hb;rcases Qr.1 hb with hb|hb
  ·rw[und_take s b hb];rfl
  ·exact ZoJ (c.1 b hb)
 ·cases s with
  |nil=>simp at d
  |cons b r=>
   refine⟨b,r,rfl,?_⟩;simp only[und]at a;split at a
   ·rename_i e;left
    have:(b.toNat:Int)=95:=by simpa using e
    exact UInt8.toNat_inj.1 (by show b.toNat=95;omega)
   ·right;simpa[bt]using a
open Go.Lib in
theorem Zer(u:Nat):∀b∈decDigits u,48<=b.toNat/\b.toNat<=57:=by
 induction u using Nat.strongRecOn with
 |_ u ih=>
  intro b hb;rw[decDigits]at hb;split at hb
  ·rename_i h;simp only[Qo]at hb;subst hb;rw[UInt8.toNat_ofNat'];omega
  ·rcases Qr.1 hb with hb|hb
   ·exact ih (u / 10) om b hb
   ·simp only[Qo]at hb;subst hb;rw[UInt8.toNat_ofNat'];omega
open Go.Lib in
theorem Zti(u:Nat):decDigits u≠[]:=by
 rw[decDigits];split<;>simp
def ZtZ(l:Bs):Nat:=l.foldl (fun n b=>10*n+(b.toNat - 48)) 0
open Go.Lib in
theorem Zlq(u:Nat):ZtZ (decDigits u)=u:=by
 induction u using Nat.strongRecOn with
 |_ u ih=>
  rw[decDigits];split
  ·simp only[ZtZ,U8,QbD,UInt8.toNat_ofNat'];omega
  ·have:=ih (u / 10) om;simp only[ZtZ,Gz,U8,QbD]at this⊢;rw[this,UInt8.toNat_ofNat'];omega
open Go.Lib in
theorem Znh{u v:Nat}(h:decDigits u=decDigits v):u=v:=by rw[<-Zlq u,h,Zlq]
open Go.Lib in
theorem Zes(u:Nat):∃b r,decDigits u=b::r/\48<=b.toNat/\b.toNat<=57:=by
 cases h:decDigits u with
 |nil=>exact absurd h (Zti u)
 |cons b r=>exact⟨b,r,rfl,Zer u b (by rw[h];simp)⟩
def VY(n:Int):(∀b∈Lib.itoa n,WH b=false)/\ ∃b r,Lib.itoa n=b::r/\(b=45\/(48<=b.toNat/\b.toNat<=57)):=by
 have a:∀b:UInt8,48<=b.toNat/\b.toNat<=57->WH b=false:=fun b hb=>by
  simp only[WH,QaS,beq_eq_false_iff_ne];refine⟨⟨?_,?_⟩,?_⟩<;>(rintro rfl;simp at hb)
 unfold Lib.itoa;split
 ·refine⟨fun b hb=>?_,45,_,rfl,.inl rfl⟩;rcases Ql.1 hb with rfl|hb
  ·rfl
  ·exact a b (Zer _ b hb)
 ·refine⟨fun b hb=>a b (Zer _ b hb),?_⟩;obtain⟨b,r,d,c⟩:=Zes n.toNat;exact⟨b,r,d,.inr c⟩
def Zko{m n:Int}(h:Lib.itoa m=Lib.itoa n):m=n:=by
 unfold Lib.itoa at h;split at h<;>split at h
 ·have:=Znh (by simpa using h);omega
 ·obtain⟨b,r,c,a⟩:=Zes n.toNat;rw[c]at h;simp only[Ug]at h;rw[<-h.1]at a;simp at a
 ·obtain⟨b,r,c,a⟩:=Zes m.toNat;rw[c]at h;simp only[Ug]at h;rw[h.1]at a;simp at a
 ·have:=Znh h;omega
def ZdM(n:Int)(h:sym s=true):Lib.itoa n≠s:=fun e=>by
 obtain⟨_,b,r,a,h2⟩:=VY n;obtain⟨_,c,q,d,h4⟩:=Xq h;rw[a,d]at e;simp only[Ug]at e;obtain⟨rfl,_⟩:=e;simp only[isLow,Qb,decide_eq_true_eq]at h4;rcases h2 with rfl|h2
 ·rcases h4 with h4|h4
  ·cases h4
  ·simp at h4
 ·rcases h4 with rfl|h4
  ·simp at h2
  ·omega
variable {t:Tm}
def ZeG(h:okv t=true):(t.kind=1/\t.name=[]/\t.args=[])\/(t.kind=2/\t.num=0/\sym t.name=true/\t.args=[])\/(t.kind=4/\t.num=0/\sym t.name=true/\t.args≠[]):=by
 simp only[okv,Qb,plain,Md,beq_iff_eq]at h;obtain⟨hk,a⟩:=h;have b:∀{l:LT},l.length<=0->l=[]:=fun h=>by simpa using h
 rcases hk with(hk|hk)|hk
 ·left
  simp only[shape,hk,if_true,nargs,Qb,decide_eq_true_eq,beq_iff_eq]at a;exact⟨hk,a.1.2,b om⟩
 ·right;left
  simp only[shape,hk,Int.reduceEq,if_false,if_true,nargs,named,Qb,decide_eq_true_eq,beq_iff_eq]at a;exact⟨hk,a.1.1.1,a.1.2,b om⟩
 ·right;right
  simp only[shape,hk,Int.reduceEq,if_false,if_true,nargs,named,Qb,decide_eq_true_eq,beq_iff_eq]at a;refine⟨hk,a.1.1.1,a.1.2,fun e=>?_⟩;rw[e]at a;simp at a
def Wq(x:Bs)(r:List Bs):Lib.joinTail [44] (x::r)=44::Lib.join (x::r) [44]:=by
 rw[Lib.join_cons];simp[Lib.joinTail]
def Hd(r:Bs):Prop:=∀b a,r=b::a->b=41\/b=44
def Hd.stop{r:Bs}(h:Hd r):∀b a,r=b::a->WH b=true:=fun b a e=>by
 rcases h b a e with rfl|rfl<;>rfl
def Hd.nil:Hd []:=fun _ _ e=>by cases e
def Hd.close(r:Bs):Hd (41::r):=fun _ _ e=>by cases e;exact .inl rfl
def Hd.tail(l:List Bs)(r:Bs):Hd (Lib.joinTail [44] l++41::r):=by
 cases l with
 |nil=>exact Hd.close r
 |cons x l=>rw[Wq];exact fun _ _ e=>by cases e;exact .inr rfl
def join_split:∀(p q:LT) (r s:Bs),(∀t∈p,∀u∈q,∀r s,Hd r->Hd s->txt t++r=txt u++s->t=u/\r=s)->p≠[]->q≠[]->
  Lib.join (p.map txt) [44]++41::r=Lib.join (q.map txt) [44]++41::s->p=q/\r=s
 |[],_,_,_,_,h,_,_=>absurd rfl h
 |_,[],_,_,_,_,h,_=>absurd rfl h
 |t::p,u::q,r,s,ih,_,_,h=>by
  rw[Qs,Qs,Lib.join_cons,Lib.join_cons,Q5,Q5]at h;obtain⟨d,a⟩:=ih t sm u sm _ _ (Hd.tail _ _) (Hd.tail _ _) h;subst d;cases p with
  |nil=>
   cases q with
   |nil=>simp[Lib.joinTail]at a;exact⟨rfl,a⟩
   |cons x q=>rw[Qs,Wq]at a;simp[Lib.joinTail]at a
  |cons y p=>
   cases q with
   |nil=>rw[Qs,Wq]at a;simp[Lib.joinTail]at a
   |cons x q=>
    rw[Qs,Qs,Wq,Wq,QN,QN,Ug]at a;have:=join_split (y::p) (x::q) r s (fun t c u b=>ih t (by simp at c⊢;right;exact c) u (by simp at b⊢;right;exact b)) sm sm a.2;exact⟨by rw[this.1],this.2⟩
def ZmP{u:Tm}(a:t.kind=u.kind)(b:t.num=u.num)(d:t.name=u.name)(c:t.args=u.args):t=u:=by
 cases t;cases u;simp only[Tm.kind,Tm.num,Tm.name,Tm.args]at*;subst a b d c;rfl
def Zbj(h:t.kind=1):txt t=Lib.itoa t.num:=by rw[Zcb,if_pos h]
def Zbk(h:t.kind=2):txt t=t.name:=by rw[Zcb,if_neg om,if_neg om]
def Zbi(h:t.kind=4)(r:Bs):txt t++r=t.name++(40::(Lib.join (t.args.map txt) [44]++41::r)):=by
 rw[Zcb,if_neg om,if_pos h];simp
def ZeU(t:Tm):∀(u:Tm) (r s:Bs),t.all okv=true->u.all okv=true->Hd r->Hd s->txt t++r=txt u++s->t=u/\r=s:=by
 intro u r s o n f g h;have c:∀x:Bs,∀b m,(40::x)=b::m->WH b=true:=fun x b m e=>by cases e;rfl
 rcases ZeG (YZ o)with⟨k1,k2,k3⟩|⟨k1,k2,k3,k4⟩|⟨k1,k2,k3,k4⟩<;>rcases ZeG (YZ n)with⟨a,j,d⟩|⟨a,j,d,l⟩|⟨a,j,d,l⟩
 ·rw[Zbj k1,Zbj a]at h;obtain⟨i,k⟩:=tok_split _ _ _ _ (VY _).1 (VY _).1 f.stop g.stop h;exact⟨ZmP (by rw[k1,a]) (Zko i) (by rw[k2,j]) (by rw[k3,d]),k⟩
 ·rw[Zbj k1,Zbk a]at h;exact absurd (tok_split _ _ _ _ (VY _).1 (Xq d).1 f.stop g.stop h).1 (ZdM _ d)
 ·rw[Zbj k1,Zbi a]at h;exact absurd (tok_split _ _ _ _ (VY _).1 (Xq d).1 f.stop (c _) h).1 (ZdM _ d)
 ·rw[Zbk k1,Zbj a]at h;exact absurd (tok_split _ _ _ _ (Xq k3).1 (VY _).1 f.stop g.stop h).1.symm (ZdM _ k3)
 ·rw[Zbk k1,Zbk a]at h;obtain⟨i,k⟩:=tok_split _ _ _ _ (Xq k3).1 (Xq d).1 f.stop g.stop h;exact⟨ZmP (by rw[k1,a]) (by rw[k2,j]) i (by rw[k4,l]),k⟩
 ·rw[Zbk k1,Zbi a]at h;have:=(tok_split _ _ _ _ (Xq k3).1 (Xq d).1 f.stop (c _) h).2;rcases f _ _ this with e|e<;>cases e
 ·rw[Zbi k1,Zbj a]at h;exact absurd (tok_split _ _ _ _ (Xq k3).1 (VY _).1 (c _) g.stop h).1.symm (ZdM _ k3)
 ·rw[Zbi k1,Zbk a]at h;have:=(tok_split _ _ _ _ (Xq k3).1 (Xq d).1 (c _) g.stop h).2;rcases g _ _ this.symm with e|e<;>cases e
 ·rw[Zbi k1,Zbi a]at h;obtain⟨i,k⟩:=tok_split _ _ _ _ (Xq k3).1 (Xq d).1 (c _) (c _) h;obtain⟨q,w⟩:=join_split t.args u.args r s (fun x p y v r s=>ZeU x y r s (Xx o p) (Xx n v)) k4 l (List.cons.inj k).2;exact⟨ZmP (by rw[k1,a]) (by rw[k2,j]) i q,w⟩
termination_by SizeOf.sizeOf t
decreasing_by exact Tm.Xp p
def ZdV(h:Zt t=true):t.all okv=true:=by
 simp only[Zt,Xr,Qb]at h;have:=Zch plain shape t;rw[h.1,h.2.2,Bool.and_self]at this;exact this
def Zss{u:Tm}(b:Zt t=true)(a:Zt u=true)(h:txt t=txt u):t=u:=
 (ZeU t u [] [] (ZdV b) (ZdV a) Hd.nil Hd.nil (by rw[h])).1
theorem Zpu{a b:Am}(E:YO a=true)(A:YO b=true)(h:JC a=JC b):a=b:=by
 obtain⟨F,_,o⟩:=Zbl E;obtain⟨w,_,k⟩:=Zbl A;rw[Qw]at o k;have e:a.pred++(40::(Lib.join (a.args.map txt) [44]++[41]))=b.pred++(40::(Lib.join (b.args.map txt) [44]++[41])):=by
  simpa[JC]using h
 obtain⟨v,B⟩:=tok_split _ _ _ _ (Xq F).1 (Xq w).1 (fun b r e=>by cases e;rfl) (fun b r e=>by cases e;rfl) e;have g:=(List.cons.inj B).2;have first:∀(t:Tm) (l:LT),Zt t=true-> ∃c r,Lib.join ((t::l).map txt) [44]=c::r/\WH c=false:=fun t l z=>by
  have C:=ZdV z;have i:∀x:Bs,(∀b∈x,WH b=false)->(∃b r,x=b::r)-> ∀y,∃c r,x++y=c::r/\WH c=false:=fun x p ⟨b,r,e⟩ y=>⟨b,r++y,by rw[e];rfl,p b (by rw[e];simp)⟩
  rw[Qs,Lib.join_cons];rcases ZeG (YZ C)with⟨j,q,n⟩|⟨j,q,n,G⟩|⟨j,q,n,G⟩
  ·rw[Zbj j];obtain⟨f,b,r,d,_⟩:=VY t.num;exact i _ f ⟨b,r,d⟩ _
  ·rw[Zbk j];obtain⟨f,b,r,d,_⟩:=Xq n;exact i _ f ⟨b,r,d⟩ _
  ·rw[Zbi j];obtain⟨f,b,r,d,_⟩:=Xq n;exact i _ f ⟨b,r,d⟩ _
 cases a with
 |mk ap al=>
 cases b with
 |mk bp bl=>
 simp only at v g o k;subst v;congr 1
 cases al with
 |nil=>
  cases bl with
  |nil=>rfl
  |cons u m=>
   obtain⟨c,r,f,d⟩:=first u m (k u sm)
   rw[f,UJ,Lib.join_nil]at g;simp only[QG,QN,Ug]at g;rw[<-g.1]at d;cases d
 |cons t l=>
  cases bl with
  |nil=>
   obtain⟨c,r,f,d⟩:=first t l (o t sm)
   rw[f,UJ,Lib.join_nil]at g;simp only[QG,QN,Ug]at g;rw[g.1]at d;cases d
  |cons u m=>exact(join_split _ _ [] [] (fun x p y D r s=>ZeU x y r s (ZdV (o x p)) (ZdV (k y D))) sm sm g).1
end
def Zqo{m n:Nat}(h:newV m=newV n):m=n:=by
 simp only[newV,Ug,true_and]at h;have:=Zko h;omega
def XV{α:Type} [DecidableEq α]:∀{p q:List α},p.Nodup->(∀x∈p,x∈q)->p.length<=q.length
 |[],_,_,_=>Us _
 |x::p,q,hn,h=>by
  rw[GN]at hn;have hx:=h x sm;have:=XV (q:=q.erase x) hn.2 fun y a=>(List.mem_erase_of_ne (fun e=>hn.1 (by rw[<-e];exact a))).2 (h y (by simp[a]))
  rw[List.length_erase_of_mem hx]at this;have:=List.length_pos_of_mem hx;simp only[Qm];omega
def Zbh{P:Tm->Prop}{Q:LT->Prop}(d:∀k n s l,Q l->P (.mk k n s l))(a:Q [])(b:∀t r,P t->Q r->Q (t::r)):(∀t,P t)/\ ∀l,Q l:=by
 have h:∀t,P t:=fun t=>Tm.rec (motive_1:=P) (motive_2:=Q) d a (fun t r e c=>b t r e c) t
 exact⟨h,fun l=>by induction l with
  |nil=>exact a
  |cons t r ih=>exact b t r (h t) ih⟩
section
variable {s:Bs} {S:List Bs}
def ZbT{k n:Int}{l:LT}{c:Nat}(h:k=5\/k=6):flT S (.mk k n s l) c=(.mk 3 0 (newV (Ws S c)) [],Ws S c,[(Ws S c,.mk k n s l)]):=by
 rw[flT,if_pos h]
def ZbS{k n:Int}{l:LT}{c:Nat}(h:¬(k=5\/k=6)):flT S (.mk k n s l) c=(.mk k n s (flT.flTs S l c).1,(flT.flTs S l c).2.1,(flT.flTs S l c).2.2):=by
 rw[flT,if_neg h]
def ZrM(S:List Bs):(∀t c n,(n∈nmT (flT S t c).1\/ ∃d∈(flT S t c).2.2,n∈nmT d.2)↔(n∈nmT t\/ ∃d∈(flT S t c).2.2,n=newV d.1))/\
  ∀l c n,(n∈nmT.nms (flT.flTs S l c).1\/ ∃d∈(flT.flTs S l c).2.2,n∈nmT d.2)↔(n∈nmT.nms l\/ ∃d∈(flT.flTs S l c).2.2,n=newV d.1):=by
 refine Zbh (fun k n s l ih c m=>?_) (fun c m=>by simp[flT.flTs,nmT.nms]) fun t r g f c m=>?_
 ·by_cases e:k=5\/k=6
  ·rw[ZbT e];simp[nmT,nmT.nms];exact or_comm
  ·rw[ZbS e];have:=ih c m;simp only[nmT,Qr,or_assoc]at this⊢;rw[this]
 ·simp only[flT.flTs,nmT.nms,Qr];have a:=g c m;have b:=f (flT S t c).2.1 m;constructor
  ·rintro((h|h)|⟨d,hd|hd,h⟩)
   ·rcases a.1 (.inl h)with h|⟨d,hd,h⟩
    all_goals first|exact .inl (.inl h)|exact .inr ⟨d,.inl hd,h⟩
   ·rcases b.1 (.inl h)with h|⟨d,hd,h⟩
    all_goals first|exact .inl (.inr h)|exact .inr ⟨d,.inr hd,h⟩
   ·rcases a.1 (.inr ⟨d,hd,h⟩)with h|⟨d,hd,h⟩
    all_goals first|exact .inl (.inl h)|exact .inr ⟨d,.inl hd,h⟩
   ·rcases b.1 (.inr ⟨d,hd,h⟩)with h|⟨d,hd,h⟩
    all_goals first|exact .inl (.inr h)|exact .inr ⟨d,.inr hd,h⟩
  ·rintro((h|h)|⟨d,hd|hd,h⟩)
   ·rcases a.2 (.inl h)with h|⟨d,hd,h⟩
    all_goals first|exact .inl (.inl h)|exact .inr ⟨d,.inl hd,h⟩
   ·rcases b.2 (.inl h)with h|⟨d,hd,h⟩
    all_goals first|exact .inl (.inr h)|exact .inr ⟨d,.inr hd,h⟩
   ·rcases a.2 (.inr ⟨d,hd,h⟩)with h|⟨d,hd,h⟩
    all_goals first|exact .inl (.inl h)|exact .inr ⟨d,.inl hd,h⟩
   ·rcases b.2 (.inr ⟨d,hd,h⟩)with h|⟨d,hd,h⟩
    all_goals first|exact .inl (.inr h)|exact .inr ⟨d,.inr hd,h⟩
def ZuN(S:List Bs):(∀t c,t.all okV=true->(flT S t c).1.all okV=true/\ ∀d∈(flT S t c).2.2,d.2.all okV=true)/\
  ∀l c,(∀u∈l,u.all okV=true)->(∀u∈(flT.flTs S l c).1,u.all okV=true)/\ ∀d∈(flT.flTs S l c).2.2,d.2.all okV=true:=by
 refine Zbh (fun k n s l ih c h=>?_) (fun c _=>⟨fun u hu=>(by cases hu),fun d hd=>by cases hd⟩) fun t r m j c h=>?_
 ·by_cases b:k=5\/k=6
  ·rw[ZbT b];exact⟨by simp[Tm.all,Tm.all.alls,okV,Tm.kind,Tm.args,Tm.name,newV],fun d hd=>by simp only[Qo]at hd;subst hd;exact h⟩
  ·rw[ZbS b];have f:=ih c fun u hu=>Xx h hu
   refine⟨?_,f.2⟩;rw[Tm.all_eq,Qb,Tm.VQ,Qw];refine⟨?_,f.1⟩;by_cases a:k=3
   ·subst a;have e:=ZfL h;subst e;exact YZ h
   ·simp[okV,Tm.kind,a]
 ·simp only[flT.flTs];have g:=m c (h t sm);have i:=j (flT S t c).2.1 fun u hu=>h u (by simp[hu])
  refine⟨fun u hu=>?_,fun d hd=>?_⟩
  ·rcases Ql.1 hu with rfl|hu
   all_goals first|exact g.1|exact i.1 u hu
  ·rcases Qr.1 hd with hd|hd
   all_goals first|exact g.2 d hd|exact i.2 d hd
end
theorem ZbV(S:List Bs):∀(l:LT) (c:Nat),(flT.flTs S l c).1.length=l.length
 |[],_=>rfl
 |t::r,c=>by simp only[flT.flTs,Qm,ZbV S r]
def dfX(S:List Bs)(x:Lt)(c:Nat):List (Nat×Tm):=if x.kind=1 then(flT.flTs S x.at_.args c).2.2 else []
def dfL(S:List Bs):List Lt->Nat->List (Nat×Tm)
 |[],_=>[]
 |x::r,c=>dfX S x c++dfL S r (flX S x c).2
section
variable {x:Lt} {S:List Bs}
def Zgz{c:Nat}(h:x.kind=1):flX S x c=({x with at_:=⟨x.at_.pred,(flT.flTs S x.at_.args c).1⟩}::(dfX S x c).map Zao,(flT.flTs S x.at_.args c).2.1):=by
 rw[flX,if_pos h,dfX,if_pos h]
def ZgA{c:Nat}(h:¬x.kind=1):flX S x c=([x],c)/\dfX S x c=[]:=by
 rw[flX,if_neg h,dfX,if_neg h];exact⟨rfl,rfl⟩
variable {n:Bs}
def Zj0{d:Nat×Tm}:n∈ZX (Zao d)↔n=newV d.1\/n∈nmT d.2:=by
 rw[ZaK,if_pos (show(Zao d).kind=2 from rfl)];simp[Zao,nmT,nmT.nms]
def ZpD{b:List (Nat×Tm)}:n∈(b.map Zao).flatMap ZX↔ ∃d∈b,n=newV d.1\/n∈nmT d.2:=by
 simp only[QI,Qg];constructor
 ·rintro⟨y,⟨d,a,rfl⟩,h⟩;exact⟨d,a,Zj0.1 h⟩
 ·rintro⟨d,a,h⟩;exact⟨_,⟨d,a,rfl⟩,Zj0.2 h⟩
def ZpM(S:List Bs)(x:Lt)(c:Nat)(n:Bs):n∈(flX S x c).1.flatMap ZX↔n∈ZX x\/ ∃d∈dfX S x c,n=newV d.1:=by
 by_cases h:x.kind=1
 ·have b:=(ZrM S).2 x.at_.args c n;rw[Zgz h,Uk,Qr,ZaK,ZaK,if_neg (show¬x.kind=2 by omega),if_neg (show¬x.kind=2 by omega),ZpD,dfX,if_pos h];constructor
  ·rintro(h|⟨d,a,h|h⟩)
   ·exact b.1 (.inl h)
   ·exact .inr ⟨d,a,h⟩
   ·exact b.1 (.inr ⟨d,a,h⟩)
  ·rintro(h|⟨d,a,h⟩)
   ·rcases b.2 (.inl h)with h|⟨d,a,h⟩
    all_goals first|exact .inl h|exact .inr ⟨d,a,.inr h⟩
   ·exact .inr ⟨d,a,.inl h⟩
 ·obtain⟨f,e⟩:=ZgA (S:=S) (c:=c) h;rw[f,e];simp
def Zj8(S:List Bs):∀(l:List Lt) (c:Nat) (n:Bs),n∈(flL S l c).flatMap ZX↔n∈l.flatMap ZX\/ ∃d∈dfL S l c,n=newV d.1
 |[],c,n=>by simp[flL,dfL]
 |x::r,c,n=>by
  have b:=ZpM S x c n;have a:=Zj8 S r (flX S x c).2 n;simp only[flL,dfL,Uz,Uk,Qr,b,a];constructor
  ·rintro((h|⟨d,hd,h⟩)|(h|⟨d,hd,h⟩));all_goals first|exact .inl (.inl h)|exact .inr ⟨d,.inl hd,h⟩|exact .inl (.inr h)|exact .inr ⟨d,.inr hd,h⟩
  ·rintro((h|h)|⟨d,hd|hd,h⟩);all_goals first|exact .inl (.inl h)|exact .inr (.inl h)|exact .inl (.inr ⟨d,hd,h⟩)|exact .inr (.inr ⟨d,hd,h⟩)
def Ztq(c:Nat)(h:okX x):∀y∈(flX S x c).1,okX y:=by
 by_cases a:x.kind=1
 ·have f:=(ZuN S).2 x.at_.args c (h.2 a);rw[Zgz a];intro y hy;rcases Ql.1 hy with rfl|hy
  ·exact⟨h.1,fun _=>f.1⟩
  ·obtain⟨d,b,rfl⟩:=Qg.1 hy;rw[dfX,if_pos a]at b;exact⟨fun _=>⟨by simp[Zao,Tm.all,Tm.all.alls,okV,Tm.kind,Tm.args,Tm.name,newV],f.2 d b⟩,fun e=>by cases e⟩
 ·rw[(ZgA (S:=S) (c:=c) a).1];intro y hy;simp only[Qo]at hy;subst hy;exact h
def ZlY{S:List Bs}:∀{l:List Lt} (c:Nat),(∀x∈l,okX x)-> ∀y∈flL S l c,okX y
 |[],_,_,y,hy=>by cases hy
 |x::r,c,h,y,hy=>by
  simp only[flL]at hy;rcases Qr.1 hy with hy|hy
  ·exact Ztq c (h x sm) y hy
  ·exact ZlY _ (fun z a=>h z (by simp[a])) y hy
/-! Join. -/
def WY(K:List Bs)(b:Bnd):Prop:=YG b/\ ∀n,n∈ZP b↔n∈K
def Zxi(K:List Bs):Zhk (WY K) Y9:=by
 have g:∀{x y:Bnd},WY K x->WY K y->ZP x=ZP y:=fun a c=>Znj a.1.asc c.1.asc fun n=>by rw[a.2,c.2]
 have k:∀{x y:Bnd},WY K x->WY K y->x.length=y.length:=fun a c=>by have:=congrArg List.length (g a c);simpa[ZP]using this
 have d:∀{x:Bnd},WY K x-> ∀u∈x.map Prod.snd,u.Nm:=fun a u s=>by obtain⟨q,m,rfl⟩:=Qg.1 s;exact J5 (a.1.val q m)
 have j:∀{x y:Bnd},WY K x->WY K y->Y9 x y=cmpT.cmps (x.map Prod.snd) (y.map Prod.snd):=fun a c=>by
  unfold Y9;rw[k a c,VB,VH]
 refine⟨⟨fun b=>ser.sers (b.map Prod.snd),fun x y a c=>?_⟩,fun x y a c h=>?_⟩
 ·rw[j a c,lex_sers _ _ (d a) (d c) (by simp[k a c])]
 ·rw[j a c]at h;have r:=cmps_zero (d a) (d c) h;have p:=g a c;refine Qbf fun i=>?_
  have e:(x.map Prod.snd)[i]? =(y.map Prod.snd)[i]?:=by rw[r]
  have f:(x.map Prod.fst)[i]? =(y.map Prod.fst)[i]?:=congrArg (fun l:List Bs=>l[i]?) p;rw[Ub,Ub]at e f;cases o:x[i]?<;>cases t:y[i]?<;>rw[o,t]at e f<;>simp at e f;exact congrArg some (Qbr f e)
def Y0(l:List Lt)(b:Bnd):List Bs:=l.flatMap ZX++ZP b
end

theorem plains_eq:∀l:LT,plainT.plains l=l.map plainT
 |[]=>rfl
 |t::r=>by rw[plainT.plains,plains_eq r];rfl
theorem plain_okV:(∀t:Tm,(plainT t).all shape=true->t.all okV=true)/\ ∀l:LT,(∀u∈plainT.plains l,u.all shape=true)-> ∀u∈l,u.all okV=true:=by
 refine Zbh (fun k n s l ih h=>?_) (fun _ u hu=>by cases hu) fun t r g f h u hu=>?_
 ·rw[plainT]at h;have d:=YZ h;rw[Tm.all_eq,Qb,Tm.VQ,Qw]at h⊢;refine⟨?_,ih h.2⟩;by_cases c:k=3
  ·subst c;simp only[okV,Tm.kind,Tm.args,Tm.name];simp[shape,nargs,named,Tm.kind,Tm.args,Tm.name,Tm.num,plains_eq]at d;obtain⟨⟨⟨_,i⟩,_⟩,a⟩:=d;have a:l=[]:=by cases l with
    |nil=>rfl
    |cons _ _=>simp at a
   subst a;cases s with
   |nil=>simp at i
   |cons b r=>rfl
  ·simp[okV,Tm.kind,c]
 ·simp only[plainT.plains]at h;rcases Ql.1 hu with rfl|hu
  ·exact g (h _ sm)
  ·exact f (fun w e=>h w (by simp[e])) u hu
def Zdl{t:Tm}(h:Zav t=true):t.all okV=true:=by
 simp only[Zav,Xr,Qb]at h;exact plain_okV.1 t h.2
def Zis{x:Lt}(h:Xt x=true):okX x/\(x.kind=1\/x.kind=2):=by
 unfold Xt at h;split at h
 ·rename_i a;simp only[Qb,Qw]at h;exact⟨⟨fun e=>by omega,fun _ u b=>Zdl (h.2 u b)⟩,.inl a⟩
 ·split at h
  ·rename_i a;simp only[Qb]at h;exact⟨⟨fun _=>⟨Zdl h.1.2,Zdl h.2⟩,fun e=>by omega⟩,.inr a⟩
  ·cases h
def validB_good:∀{b:Bnd},validB b=true->YG b
 |[],_=>⟨List.Pairwise.nil,fun q c=>by cases c⟩
 |[p],h=>⟨by simp[Ja],fun q c=>by simp only[Qo]at c;subst c;exact h⟩
 |p::q::r,h=>by
  simp only[validB,Qb,decide_eq_true_eq]at h;obtain⟨a,v⟩:=validB_good (b:=q::r) h.2;refine⟨UM.2 ⟨fun y hy=>?_,a⟩,fun y hy=>?_⟩
  ·rcases Ql.1 hy with rfl|hy
   ·exact h.1.2
   ·exact serN.trans (y:=q.1) trivial trivial trivial h.1.2 ((UM.1 a).1 y hy)
  ·rcases Ql.1 hy with rfl|hy
   all_goals first|exact h.1.1|exact v y hy
def inZ{n k:Nat}{p:Nat->Prop}:Inside n p (.sl k [] .full):=(YR (n:=n) (fun _ h=>by cases h) (fun _ _ e=>by cases e)).inside
def ZwW(t:Tm)(c:t.Good)(b:Zfn 70 [] Tm.enc Tm.enc t.args id):Yb prog 70 [t.enc] t.enc:=by
 intro n H hn hT;have a:=j70 t.args c.len _ [] id b;rw[QbF]at a;refine aF func70 fun B=>?_
 refine gc ?_;refine cT (a) ?_;refine ge ?_;refine YH (.inl rfl) _ n 2 0 t.cs sS sF rfl (Qi _) sS ?_ (Tm.blw _ t) rfl;exact xS
def j49(t:Tm)(b:t.Good):Yb prog 70 [t.enc] t.enc:=
 ZwW t b ⟨⟨_,_,Zf func70 rfl rfl⟩,fun u a=>j49 u (b.arg a),fun _=>trivial⟩
termination_by SizeOf.sizeOf t
decreasing_by exact Tm.Xp a
def ZwR(s p:Bs):Pure prog 309 [.str s,.str p] (.bool (hpre s p)):=by
 intro n H;refine aF func309 fun B=>?_
 refine gc ?_;refine cP (a198 s p) ?_;exact pB
theorem ZpV(s:Bs):hpre s [35]=decide (s.head? =some 35):=by
 cases s with
 |nil=>rfl
 |cons b r=>rw[U7];simp[hpre]
def ZoT(t:Tm):plainT t= .mk t.kind t.num (if t.kind=3/\t.name.head? =some 35 then [88]else t.name) (t.args.map plainT):=by
 cases t;rw[plainT,plains_eq];rfl
def ZuS(t:Tm)(c:t.Good)(b:Zfn 238 [] Tm.enc Tm.enc t.args plainT):Yb prog 238 [t.enc] (plainT t).enc:=by
 intro n H hn hT;have ha:=j70 t.args c.len _ [] plainT b;have he:(plainT t).enc= .agg [.int .u8 t.kind,.int .i64 t.num,.str (if t.kind=3/\t.name.head? =some 35 then [88]else t.name),.sl 4 ((t.args.map plainT).map Tm.enc) .any]:=by
  rw[ZoT,Tm.ZbN];rfl
 refine aF func238 fun B=>?_
 obtain⟨nw,hnw⟩:∃nw:Bool,nw=decide (t.kind=3/\t.name.head? =some 35):=⟨_,rfl⟩
 obtain⟨nm,hnm⟩:∃nm:Str,nm=if t.kind=3/\t.name.head? =some 35 then [88]else t.name:=⟨_,rfl⟩
 rw[<-hnm]at he;rw[he];refine gh ?_;refine Zah ⟨[(10,.bool nw),(2,.ptr n 2 0),(1,.ptr n 1 0)],[(1,.box [.int .u8 t.kind,.int .i64 t.num,.str t.name,.sl 4 (t.args.map Tm.enc) .any]),(2,.box [.int .u8 0,.int .i64 0,.str [],.sl 4 [] .full])],H⟩ ?_ ?_
 ·refine nR ?_;cases a:t.kind==3 with
  |false=>
   have e:nw=false:=by rw[hnw];simp only[beq_eq_false_iff_ne]at a;simp[a]
   refine aq a ?_;refine nN ?_;refine⟨rfl,?_⟩;rw[e];exact KK
  |true=>
   have e:nw=hpre t.name [35]:=by rw[hnw,ZpV];simp only[beq_iff_eq]at a;simp[a]
   refine aq a ?_;refine cP (ZwR t.name [35]) ?_;refine nN ?_;refine⟨rfl,?_⟩;rw[e];exact KK
 refine kK ?_;refine Zah ⟨[(2,.ptr n 2 0),(1,.ptr n 1 0)],[(1,.box [.int .u8 t.kind,.int .i64 t.num,.str nm,.sl 4 (t.args.map Tm.enc) .any]),(2,.box [.int .u8 0,.int .i64 0,.str [],.sl 4 [] .full])],H⟩ ?_ ?_
 ·cases nw with
  |false=>
   have e:nm=t.name:=by rw[hnm,if_neg (of_decide_eq_false hnw.symm)]
   refine nF ?_;refine nN ?_;refine⟨rfl,?_⟩;rw[e];exact KK
  |true=>
   have e:nm=[88]:=by rw[hnm,if_pos (of_decide_eq_true hnw.symm)]
   refine nT ?_;refine gd ?_;refine⟨rfl,?_⟩;rw[e];exact KK
 refine nR ?_;refine cT (ha) ?_;refine ge ?_;refine YH (.inl rfl) _ n 2 0 [.int .u8 t.kind,.int .i64 t.num,.str nm,.sl 4 ((t.args.map plainT).map Tm.enc) .any] sS sF rfl (Qi _) sS ?_ (by rw[<-he];exact Tm.blw _ _) rfl;exact xS
def j124(t:Tm)(b:t.Good):Yb prog 238 [t.enc] (plainT t).enc:=
 ZuS t b ⟨⟨_,_,Zf func238 rfl rfl⟩,fun u a=>j124 u (b.arg a),fun _=>trivial⟩
termination_by SizeOf.sizeOf t
decreasing_by exact Tm.Xp a
def plain_good:∀(t:Tm),(t.Nm->(plainT t).Nm)/\(plainT t).sz=t.sz
 | .mk k n s l=>by
  have ih:∀u∈l,(u.Nm->(plainT u).Nm)/\(plainT u).sz=u.sz:=fun u b=>plain_good u
  refine⟨fun h=>?_,?_⟩
  ·cases h with|mk _ _ _ _ h1 h2 h3 h4 h5=>
   rw[plainT,plains_eq];refine .mk _ _ _ _ ?_ h2 h3 (by simpa using h4) fun u b=>?_
   ·split
    ·simp
    ·exact h1
   ·obtain⟨v,a,rfl⟩:=Qg.1 b;exact(ih v a).1 (h5 v a)
  ·rw[plainT,plains_eq,Tm.sz,Tm.sz];have:∀q:LT,(∀u∈q,u∈l)->Tm.sz.szs (q.map plainT)=Tm.sz.szs q:=by
    intro q;induction q with
    |nil=>intro _;rfl
    |cons u q ihq=>intro c;simp only[Qs,Tm.sz.szs,(ih u (c u sm)).2,ihq fun v a=>c v (by simp[a])]
   rw[this l fun _ h=>h]
termination_by t=>SizeOf.sizeOf t
decreasing_by
 have:=QU b;simp only[Tm.mk.sizeOf_spec];omega
def _root_.Go.Abs.Tm.Good.plain{t:Tm}(h:t.Good):(plainT t).Good:=⟨by rw[(plain_good t).2];exact h.sz,(plain_good t).1 h.nm⟩
def j77(t:Tm)(a:t.Good):Yb prog 170 [t.enc] (.bool (Zav t)):=by
 intro n H hn hT;refine aF func170 fun B=>?_
 refine gc ?_;refine cT (j124 t a) ?_;refine cT (a72 (plainT t) a.plain) ?_;refine Zk rfl rfl ?_;refine Zb ?_ (.bool _) rfl;try simp only[go_sem,simprocAttr,Zav]
 exact .refl _
def j76(t:Tm)(a:t.Good):Yb prog 169 [t.enc] (.bool (!Zav t)):=by
 intro n H hn hT;refine aF func169 fun B=>?_
 refine gc ?_;refine cT (j77 t a) ?_;exact pB

def Zll(l:LT)(i:Nat)(h:i<l.length):Tm.sz.szs (l.take (i+1))=Tm.sz.szs (l.take i)+l[i].sz:=by
 have:∀p q:LT,Tm.sz.szs (p++q)=Tm.sz.szs p+Tm.sz.szs q:=by
  intro p q;induction p with
  |nil=>simp[Tm.sz.szs]
  |cons x p ih=>simp only[QN,Tm.sz.szs,ih];omega
 rw[Qn h,this];simp[Tm.sz.szs]
def Zfj(l:LT)(i:Nat):Tm.sz.szs (l.take i)<=Tm.sz.szs l:=by
 have:∀p q:LT,Tm.sz.szs (p++q)=Tm.sz.szs p+Tm.sz.szs q:=by
  intro p q;induction p with
  |nil=>simp[Tm.sz.szs]
  |cons x p ih=>simp only[QN,Tm.sz.szs,ih];omega
 have h:=this (l.take i) (l.drop i);rw[Q8]at h;omega
def eqL{c:Type}(e:c->c->Bool):List c->List c->Bool
 |[],[]=>true
 |a::x,b::y=>e a b&&eqL e x y
 |_,_=>false
theorem Xl{α:Type}{e:α->α->Bool}:∀{p q:List α},p.length≠q.length->eqL e p q=false
 |[],[],h=>absurd rfl h
 |[],_::_,_=>rfl
 |_::_,[],_=>rfl
 |a::p,b::q,h=>by rw[eqL,Xl (p:=p) (q:=q) (by simpa using h),QY]
theorem Xa{c:Type}{e:c->c->Bool}:∀{p q:List c},p.length=q.length->(∀j (h:j<p.length) (i:j<q.length),e p[j] q[j]=true)->eqL e p q=true
 |[],[],_,_=>rfl
 |[],_::_,h,_=>by cases h
 |_::_,[],h,_=>by cases h
 |a::p,b::q,h,hj=>by
  have d:=hj 0 sm sm;simp only[Ui]at d;rw[eqL,d,QX];exact Xa (by simpa using h) (fun j g f=>by have:=hj (j+1) (by simpa using g) (by simpa using f);simpa using this)
def YM{c:Type}{e:c->c->Bool}:∀{p q:List c} {j:Nat} (h:j<p.length) (d:j<q.length),e p[j] q[j]=false->eqL e p q=false
 |a::p,b::q,0,_,_,hj=>by simp only[Ui]at hj;rw[eqL,hj,QW]
 |a::p,b::q,j+1,h,d,hj=>by
  simp only[Mc]at hj;rw[eqL,YM (by simpa using h) (by simpa using d) hj,QY]
theorem eqs_eqL:∀p q:LT,eqT.eqs p q=eqL eqT p q
 |[],[]=>rfl
 |[],_::_=>rfl
 |_::_,[]=>rfl
 |a::p,b::q=>by rw[eqT.eqs,eqL,eqs_eqL p q]
def Zxo(p q:LT)(H:Za)(i:Nat):Zc:=
 ⟨[(5,.int .i64 i),(0,.sl 4 (p.map Tm.enc) .any),(1,.sl 4 (q.map Tm.enc) .any)],[],H⟩
def Zru(p q:LT)(hl:p.length<=10000000000000)(f:∀x∈p,∀y∈q,Pure prog 131 [x.enc,y.enc] (.bool (eqT x y))):Pure prog 39 [.sl 4 (p.map Tm.enc) .any,.sl 4 (q.map Tm.enc) .any] (.bool (eqL eqT p q)):=by
 intro n H;refine aF func39 fun B=>?_
 refine nR ?_;cases b:((p.length:Int)==q.length)with
 |false=>
  refine nr ?_;simp only[go_sem,simprocAttr,bne,b];refine gi ?_;refine Zk rfl rfl ?_;refine Zb ?_ (.bool _) rfl;try simp only[go_sem,simprocAttr,Xl (nat_ne b)]
  exact .refl _
 |true=>
 have a:p.length=q.length:=nat_eq b;refine nr ?_;simp only[go_sem,simprocAttr,bne,b];refine gv ?_;repeat refine kn rfl ?_
 refine ZG (Zxo p q H) (fun i=>∀j (h:j<p.length),j<i->eqT p[j] (q[j]'om)=true) p.length rfl ?_ (fun j _ h=>absurd h (Qj _)) ?_
 ·exact KK
 intro i g hq;refine ZV rfl ?_;rcases Qd i p.length with h|h
 ·have h':i<q.length:=om;refine nq h ?_;refine nT ?_;refine dq4 (Tm.Zw _ _ h) h (Tm.Zw _ _ h') h' ?_;refine cP (f _ (Qa h) _ (Qa h')) ?_;cases c:eqT p[i] q[i]with
  |false=>
   refine nTq c ?_;refine nR ?_;refine nW ?_;refine Zb ?_ (.bool _) rfl;refine aq (YM h h' c) ?_;exact .refl _
  |true=>
   refine nFq c ?_;refine gd ?_;refine⟨fun j d e=>?_,?_⟩
   ·rcases Qd j i with h'|h'
    ·exact hq j d h'
    ·have:j=i:=om;subst this;exact c
   ·apply kZ;repeat' first|apply q0|exact xx|apply aI
    refine aS ?_;rw[iw];exact .refl _
 ·refine nq (QC.2 h) ?_;refine gt ?_;refine Zb ?_ (.bool _) rfl;refine aq (Xa a (fun j h h'=>hq j h om)) ?_;exact .refl _
def Zrv(a b:Tm)(g:Wd a):Pure prog 131 [a.enc,b.enc] (.bool (eqT a b)):=by
 intro n H;have d:=ZlS a b;have h:=g.len;refine aF func131 fun B=>?_
 refine nR ?_;cases c:(a.kind==b.kind)with
 |false=>
  refine nq c ?_;refine Zk rfl rfl ?_;refine Zb ?_ (.bool _) rfl;try simp only[go_sem,simprocAttr,d,c]
  exact .refl _
 |true=>
 cases e:(a.num==b.num)with
 |false=>
  refine nq2 c e ?_;refine Zk rfl rfl ?_;refine Zb ?_ (.bool _) rfl;try simp only[go_sem,simprocAttr,d,c,e]
  exact .refl _
 |true=>
 cases f:(a.name==b.name)with
 |false=>
  refine nq3 c e f ?_;refine Zk rfl rfl ?_;refine Zb ?_ (.bool _) rfl;try simp only[go_sem,simprocAttr,d,c,e,f]
  exact .refl _
 |true=>
  refine nq3 c e f ?_;refine cP (Zru a.args b.args h (fun x d y _=>Zrv x y (g.arg d))) ?_;refine Zk rfl rfl ?_;refine Zb ?_ (.bool _) rfl;try simp only[go_sem,simprocAttr,d,c,e,f,eqs_eqL]
  exact .refl _
termination_by SizeOf.sizeOf a
decreasing_by exact Tm.Xp d
structure WdA (a:Am):Prop where
 len:a.args.length<=10000000000000
 arg:∀u∈a.args,Wd u
def Zuv(a b:Am)(e:WdA a):Pure prog 11 [a.enc,b.enc] (.bool (eqA a b)):=by
 intro n H;have d:eqA a b=((a.pred==b.pred)&&eqL eqT a.args b.args):=by rw[eqA,eqs_eqL]
 have f:=e.len;refine aF func11 fun B=>?_
 refine nR ?_;cases c:(a.pred==b.pred)with
 |false=>
  refine nq c ?_;refine Zk rfl rfl ?_;refine Zb ?_ (.bool _) rfl;try simp only[go_sem,simprocAttr,d,c]
  exact .refl _
 |true=>
  refine nq c ?_;refine cP (Zru a.args b.args f (fun x d y _=>Zrv x y (e.arg x d))) ?_;refine Zk rfl rfl ?_;refine Zb ?_ (.bool _) rfl;try simp only[go_sem,simprocAttr,d,c]
  exact .refl _
end Go.Proofs.YthajllbimoodjaaGreatDoor

namespace Go.Abs
structure Ak where
 s:Sg
 c:Int
 t:Bs
deriving DecidableEq
def Ak.enc(k:Ak):AV:=.agg [.str k.s.p,.int .i64 k.s.n,.int .i64 k.c,.str k.t]
structure Sto where
 A:List Am
 N:List (Bs×Int)
 S:List (Sg×List Int)
 R:List (Ak×List Int)
def intsOf(a:List Int):LA:=a.map (AV.int .i64)
def ents{c:Type}(a:c->AV)(l b:Nat):Nat->List (c×List Int)->List (AV×AV)
 |_,[]=>[]
 |i,p::r=>(a p.1,.sl 1 (intsOf p.2) (.buf l (b+2*i)))::ents a l b (i+1) r
def Zoj{a:Type}(b:Nat):Nat->List (a×List Int)->List (Nat×Ze)
 |_,[]=>[]
 |i,p::r=>(b+2*i,.buf 3 1 p.2.length)::Zoj b (i+1) r
def YA(l b:Nat)(A:List Am):AV:=if A=[]then .sl 2 [] .full else .sl 2 (A.map Am.enc) (.buf l (b+1))
def ZR(l b:Nat)(A:List Am):LA:=[YA l b A,.map l (b+2),.map l (b+3),.map l (b+4)]
def lst(l b:Nat)(s:Sto):List (Nat×Ze):=
 (b,.box (ZR l b s.A))::(b+2,.map (s.N.map fun p=>(.str p.1,.int .i64 p.2)))::(b+3,.map (ents Sg.enc l (b+5) 0 s.S))::(b+4,.map (ents Ak.enc l (b+6) 0 s.R))::
  ((if s.A=[]then []else [(b+1,.buf 33 2 s.A.length)])++Zoj (b+5) 0 s.S++Zoj (b+6) 0 s.R)
def put(H:Za)(l b:Nat)(s:Sto):Za:=fun a k=>if a=l then(lkb (lst l b s) k).or (H a k)else H a k
theorem lkb_append:∀(p q:List (Nat×Ze)) (k:Nat),lkb (p++q) k=(lkb p k).or (lkb q k)
 |[],q,k=>rfl
 |(i,x)::p,q,k=>by
  simp only[QN,lkb];split
  ·rfl
  ·exact lkb_append p q k
def Zkz{e:Type}(b:Nat):∀(i:Nat) (c:List (e×List Int)) (k:Nat),lkb (Zoj b i c) k=if b+2*i<=k/\(k - b) % 2=0 then(c[(k - b) / 2 - i]?).map (fun p=>Ze.buf 3 1 p.2.length)else none
 |i,[],k=>by simp[Zoj,lkb]
 |i,p::r,k=>by
  rw[Zoj,lkb];by_cases h:b+2*i=k
  ·subst h;rw[if_pos rfl,if_pos ⟨Qi _,om⟩];have:(b+2*i - b) / 2 - i=0:=om;rw[this];rfl
  ·rw[if_neg h,Zkz b (i+1) r k];by_cases a:b+2*(i+1)<=k/\(k - b) % 2=0
   ·rw[if_pos a,if_pos ⟨om,a.2⟩];have:(k - b) / 2 - i=(k - b) / 2 - (i+1)+1:=om;rw[this,U1]
   ·rw[if_neg a];by_cases d:b+2*i<=k/\(k - b) % 2=0
    ·exfalso;exact a ⟨om,d.2⟩
    ·rw[if_neg d]
def Y4(l b:Nat)(s:Sto)(k:Nat):lkb (lst l b s) k=
  if k=b then some (.box (ZR l b s.A))else if k=b+2 then some (.map (s.N.map fun p=>(.str p.1,.int .i64 p.2)))else if k=b+3 then some (.map (ents Sg.enc l (b+5) 0 s.S))else if k=b+4 then some (.map (ents Ak.enc l (b+6) 0 s.R))
  else if k=b+1 then(if s.A=[]then none else some (.buf 33 2 s.A.length))
  else if b+5<=k/\(k - (b+5)) % 2=0 then(s.S[(k - (b+5)) / 2]?).map (fun p=>Ze.buf 3 1 p.2.length)
  else if b+6<=k/\(k - (b+6)) % 2=0 then(s.R[(k - (b+6)) / 2]?).map (fun p=>Ze.buf 3 1 p.2.length)else none:=by
 unfold lst;simp only[lkb,lkb_append,Zkz,Nat.mul_zero,UC,MV,eq_comm (a:=k)];split
 ·rfl
 split
 ·rfl
 split
 ·rfl
 split
 ·rfl
 by_cases c:b+1=k
 ·rw[if_pos c];subst c;by_cases d:s.A=[]
  ·simp[d,lkb]
  ·simp[d,lkb]
 ·rw[if_neg c];have d:lkb (if s.A=[]then []else [(b+1,Ze.buf 33 2 s.A.length)]) k=none:=by
   split
   ·rfl
   ·simp[lkb,c]
  rw[d,Option.none_or];by_cases e:b+5<=k/\(k - (b+5)) % 2=0
  ·rw[if_pos e,if_pos e];have:¬(b+6<=k/\(k - (b+6)) % 2=0):=om;rw[if_neg this,Option.or_none]
  ·rw[if_neg e,if_neg e,Option.none_or]
end Go.Abs

namespace Go.Proofs.YthajllbimoodjaaGreatDoor
open Go.Abs
def Ya(H:Za)(l b:Nat)(s:Sto):Prop:=∀k x,lkb (lst l b s) k=some x->H l k=some x
def Ya.box{H:Za}{l b:Nat}{s:Sto}(h:Ya H l b s):H l b=some (.box (ZR l b s.A)):=h b _ (by rw[Y4,if_pos rfl])
section
variable {s:Sto} {l b:Nat} {H:Za}
def Ya.num(h:Ya H l b s):H l (b+2)=some (.map (s.N.map fun p=>(.str p.1,.int .i64 p.2))):=h _ _ (by rw[Y4,if_neg om,if_pos rfl])
def Ya.sig(h:Ya H l b s):H l (b+3)=some (.map (ents Sg.enc l (b+5) 0 s.S)):=h _ _ (by rw[Y4,if_neg om,if_neg om,if_pos rfl])
def Ya.arg(h:Ya H l b s):H l (b+4)=some (.map (ents Ak.enc l (b+6) 0 s.R)):=h _ _ (by rw[Y4,if_neg om,if_neg om,if_neg om,if_pos rfl])
def Ya.put(H:Za)(l b:Nat)(s:Sto):Ya (put H l b s) l b s:=fun k x h=>by
 unfold Go.Abs.put;rw[if_pos rfl,h];rfl
def a55(n:Nat)(H:Za)(l b:Nat)(s:Sto)(e:l<n)(d:Ya H l b s):PC prog n 58 [.ptr l b 0] H (.bool true):=by
 have a:¬l=n:=om;have c:=d.box;refine aF func58 fun B=>?_
 refine nR ?_;refine nr ?_;simp only[go_sem,simprocAttr,a,c,ZR];refine⟨⟨_,_,rfl⟩,?_⟩;exact pB
def zeroCells:LA:=[.sl 2 [] .full,.nilm,.nilm,.nilm]
def Zi{n:Nat}(h:l<n)(L:List (Nat×Ze))(H:Za)(k:Nat):full n L H l k=H l k:=by unfold full;rw[if_neg om]
def Ya.full{n l b:Nat}{s:Sto}{H:Za}(a:Ya H l b s)(h:l<n)(L:List (Nat×Ze)):Ya (full n L H) l b s:=fun k x c=>by rw[Zi h];exact a k x c
def VE{P:Program}{T:TT}{n:Nat}{t h u:Nat}{v y:AV}{s:Zc}(r:Zp)(l k a:Nat)(b:LA)(e:lkv s.tmps t= .ptr l k a)(c:full n s.L s.H l k=some (.box b))(g:T h=some r)
  (d:a+r.size<=b.length) (f:r.isAgg=false->a<b.length) (m:Wk (if r.isAgg then .agg ((b.drop a).take r.size)else(b.drop a).getD 0 .dead) v) (o:Wk (lkv s.tmps u) y) (w:Below n v) (z:Below n y) (p:s.H=H):
  PostF P T n [.cell t h,.tmp u] (fun j q=>j= .tup [v,y]/\q=H) .ret s:=by
 refine⟨?_,[v,y],⟨?_,o,trivial⟩,by simp[w,z],rfl,p⟩
 ·intro x i;simp only[Ql,QA,or_false]at i;rcases i with rfl|rfl
  ·simp only[Y7];exact⟨l,k,a,b,r,e,c,g,d,f⟩
  ·simp[Y7]
 ·simp only[Zbx,e,c,g];rw[if_pos ⟨d,f⟩];exact m
def atR(A:List Am)(i:Int):Am×Int:=if 0<=i then(match A[i.toNat]? with
 |some a=>(a,0)
 |none=>(⟨[],[]⟩,6))else(⟨[],[]⟩,6)
def a27(n:Nat)(H:Za)(l b:Nat)(s:Sto)(i:Int)(m:l<n)(k:Ya H l b s)(o:Zbn s.A)(hn:0<n)(hT:Tabs H):PC prog n 28 [.ptr l b 0,.int .i64 i] H (.tup [(atR s.A i).1.enc,.int .i64 (atR s.A i).2]):=by
 have a:¬l=n:=om;have f:=k.box;refine aF func28 fun B=>?_
 refine gc ?_;refine cQ (a55 (n+1) _ l b s om (k.full m _)) ?_;refine aS ?_;refine nF ?_;have j:Wk (.agg [.str [],.sl 4 [] .full]) (Am.mk [] []).enc:=.deep (.ZlK ⟨.refl _,.nil _ _ _,trivial⟩);rcases Int.lt_or_le i 0 with h0|h0
 ·have e:atR s.A i=(⟨[],[]⟩,6):=by rw[atR,if_neg om]
  refine nq h0 ?_;refine gj ?_;rw[e];exact VE _ n 4 0 [.str [],.sl 4 [] .full] sS (by simp only[go_sem,simprocAttr,Go.Abs.full]) rfl (Qi _) sS j (by simp only[go_sem,simprocAttr];exact .refl _) (Am.blw _ _) (.int _ _) rfl
 ·have c:¬i<0:=om;by_cases g:s.A=[]
  ·have e:atR [] i=(⟨[],[]⟩,6):=by rw[atR,if_pos h0];rfl
   refine nr ?_;simp only[go_sem,simprocAttr,a,f,ZR,YA,g,c,h0];refine gj ?_;rw[e];exact VE _ n 4 0 [.str [],.sl 4 [] .full] sS (by simp only[go_sem,simprocAttr,Go.Abs.full]) rfl (Qi _) sS j (by simp only[go_sem,simprocAttr];exact .refl _) (Am.blw _ _) (.int _ _) rfl
  ·rcases Int.lt_or_le i s.A.length with h1|h1
   ·have d:i.toNat<s.A.length:=om;have e:atR s.A i=(s.A[i.toNat],0):=by rw[atR,if_pos h0,Qe d]
    have h:¬(s.A.length:Int)<=i:=om;refine nr ?_;simp only[go_sem,simprocAttr,a,f,ZR,YA,g,c,h0,h];refine nF ?_;refine nr ?_;simp only[go_sem,simprocAttr,a,f,ZR,YA,g,h0,d,Am.Zw _ _ d];refine⟨h1,?_⟩;refine cT (a59 s.A[i.toNat] (o _ (Qa d))) ?_;refine nV ?_;rw[e];exact VE _ n 4 0 s.A[i.toNat].cs sS (by simp only[go_sem,simprocAttr,Go.Abs.full]) rfl (Qi _) sS (by simp only[go_sem,simprocAttr];exact .refl _) (by simp only[go_sem,simprocAttr];exact .refl _) (Am.blw _ _) (.int _ _) rfl
   ·have e:atR s.A i=(⟨[],[]⟩,6):=by rw[atR,if_pos h0,Uw om]
    refine nr ?_;simp only[go_sem,simprocAttr,a,f,ZR,YA,g,c,h0,h1];refine gj ?_;rw[e];exact VE _ n 4 0 [.str [],.sl 4 [] .full] sS (by simp only[go_sem,simprocAttr,Go.Abs.full]) rfl (Qi _) sS j (by simp only[go_sem,simprocAttr];exact .refl _) (Am.blw _ _) (.int _ _) rfl
end
attribute [go_sem] Lt.fold Lt.cs Lt.Yu
def eTs(l:LT):AV:=.sl 4 (l.map Tm.enc) .any
def Zaf(n:Nat)(l:LT):Below n (eTs l):=ZB l
theorem Zot(l:LT):(eTs l).cells=[eTs l]:=rfl
theorem ZrJ(l:LT):(eTs l).one=true:=rfl
attribute [go_sem] Zot ZrJ
section
variable {n:Nat}
def Zcj{k:Nat}(l:List LT):Below n (.sl k (l.map eTs) .any):=Zl fun x a=>by obtain⟨u,_,rfl⟩:=Qg.1 a;exact Zaf n u
abbrev LTm:Type:=LT
structure Zbm {α:Type} (n:Nat) (H:Za) (f:Nat) (caps:LA) (enc:α->AV) (l:List α) (p:α->Bool):Prop where
 fn:∃fn c,Fun prog f fn c
 ans:∀x∈l,∀m G,n<=m->(∀l' k,l'<n->G l' k=H l' k)->PC prog m f (enc x::caps) G (.bool (p x))
 blw:∀m,n<=m->ZW (fun c=>Below m c) caps
variable {caps:LA}
def Zbm.up{c:Type}{H G:Za}{f:Nat}{b:c->AV}{l:List c}{p:c->Bool}(h:Zbm n H f caps b l p)(o:∀a k,a<n->G a k=H a k):Zbm (n+1) G f caps b l p:=
 ⟨h.fn,fun x j m i e d=>h.ans x j m i om fun a k g=>(d a k om).trans (o a k g),fun m e=>h.blw m om⟩
def ZeY.cond{b:Type}{H:Za}{f:Nat}{a:b->AV}{l:List b}{p:b->Bool}(h:ZeY f caps a l p)(e:0<n)(c:Tabs H):Zbm n H f caps a l p:=
 ⟨h.fn,fun x d m G i g=>h.on x d m G om (c.up fun k=>g 0 k e),fun m _=>h.below m⟩
def ZtP(l:List (Lt))(f:Nat)(caps:LA)(H:Za)(i:Nat):Zc:=
 ⟨[(8,.int .i64 i),(7,.int .i64 l.length),(1,.fn (.func f) caps),(0,.sl 13 (l.map Lt.enc) .any)],[],H⟩
def ZwE(l:List (Lt))(hl:l.length<=1000000)(f:Nat)(caps:LA)(p:Lt->Bool)(n:Nat)(H:Za)(a:Zbm n H f caps Lt.enc l p):PC prog n 239 [.sl 13 (l.map Lt.enc) .any,.fn (.func f) caps] H (.int .i64 (Zc8 p l)):=by
 obtain⟨⟨e,c,o⟩,a,b⟩:=a;have hfi:∀q,Inside n q (.fn (.func f) caps):=fun q=>(Below.fn _ _ fun i m=>(b n (Qi n)).mem _ (Qa m)).inside
 have hbi:∀q,Inside n q (.sl 13 (l.map Lt.enc) .any):=fun q=>(Ym l).inside
 refine aF func239 fun B=>?_
 refine gk ?_;refine ZG (ZtP l f caps H) (fun i=>∀j (h:j<l.length),j<i->p l[j]=false) l.length rfl ?_ (fun j _ h=>absurd h (Qj _)) ?_
 ·exact KK
 intro i m hq;refine ZV rfl ?_;rcases Qd i l.length with h|h
 ·refine nq h ?_;refine gi ?_;refine nq2 (getD_map Lt.enc _ _ h) h ?_;refine Yp (avs:=[Lt.enc l[i]]) rfl o (a l[i] (Qa h) (n+1) _ om fun l' k h=>Zi h _ _ _) rfl ?_;cases g:p l[i]with
  |true=>
   refine aS ?_;refine gn ?_;refine Zb ?_ (.int _ _) rfl;rw[Za4 h g hq];exact .refl _
  |false=>
   refine gI ?_;refine⟨fun j d r=>?_,?_⟩
   ·rcases Qd j i with h'|h'
    ·exact hq j d h'
    ·have:j=i:=om;subst this;exact g
   ·apply kZ;repeat' first|apply q0|exact xx|apply aI
    ·refine aS ?_;rw[iw];exact .refl _
    all_goals first|exact hfi _|exact hbi _
 ·refine nq (QC.2 h) ?_;refine gt ?_;refine Zb ?_ (.int _ _) rfl;rw[Vy (fun j d=>hq j d om)];exact .refl _
def h78(l:List (Lt))(b:l.length<=1000000)(f:Nat)(caps:LA)(p:Lt->Bool)(n:Nat)(H:Za)(a:Zbm n H f caps Lt.enc l p):PC prog n 171 [.sl 13 (l.map Lt.enc) .any,.fn (.func f) caps] H (.bool (l.any p)):=by
 refine aF func171 fun B=>?_
 refine gc ?_;refine cQ (ZwE l b f caps p (n+1) _ (a.up fun c k h=>Zi h _ _ _)) ?_;simp only[go_sem,simprocAttr];refine nV ?_;refine Zb ?_ (.bool _) rfl;simp only[go_sem,simprocAttr,ZfI];exact .refl _
def j78(l:List (Lt))(c:l.length<=1000000)(f:Nat)(caps:LA)(p:Lt->Bool)(b:ZeY f caps Lt.enc l p):Yb prog 171 [.sl 13 (l.map Lt.enc) .any,.fn (.func f) caps] (.bool (l.any p)):=
 fun n H a d=>h78 l c f caps p n H (b.cond a d)
def ZtR(l:List (LTm))(f:Nat)(caps:LA)(H:Za)(i:Nat):Zc:=
 ⟨[(8,.int .i64 i),(7,.int .i64 l.length),(1,.fn (.func f) caps),(0,.sl 1 (l.map eTs) .any)],[],H⟩
def ZwH(l:List (LTm))(hl:l.length<=1000000)(f:Nat)(caps:LA)(p:LTm->Bool)(n:Nat)(H:Za)(hp:Zbm n H f caps eTs l p):PC prog n 462 [.sl 1 (l.map eTs) .any,.fn (.func f) caps] H (.int .i64 (Zc8 p l)):=by
 obtain⟨⟨fn,c,hf⟩,hp,hbl⟩:=hp;have hfi:∀q,Inside n q (.fn (.func f) caps):=fun q=>(Below.fn _ _ fun i hi=>(hbl n (Qi n)).mem _ (Qa hi)).inside
 have hbi:∀q,Inside n q (.sl 1 (l.map eTs) .any):=fun q=>(Zcj l).inside
 refine aF func462 fun B=>?_
 refine gk ?_;refine ZG (ZtR l f caps H) (fun i=>∀j (h:j<l.length),j<i->p l[j]=false) l.length rfl ?_ (fun j _ h=>absurd h (Qj _)) ?_
 ·exact KK
 intro i hi hq;refine ZV rfl ?_;rcases Qd i l.length with h|h
 ·refine nq h ?_;refine gi ?_;refine nq2 (getD_map eTs _ _ h) h ?_;refine Yp (avs:=[eTs l[i]]) rfl hf (hp l[i] (Qa h) (n+1) _ om fun l' k h=>Zi h _ _ _) rfl ?_;cases h1:p l[i]with
  |true=>
   refine aS ?_;refine gn ?_;refine Zb ?_ (.int _ _) rfl;rw[Za4 h h1 hq];exact .refl _
  |false=>
   refine gI ?_;refine⟨fun j hj hji=>?_,?_⟩
   ·rcases Qd j i with h'|h'
    ·exact hq j hj h'
    ·have:j=i:=om;subst this;exact h1
   ·apply kZ;repeat' first|apply q0|exact xx|apply aI
    ·refine aS ?_;rw[iw];exact .refl _
    all_goals first|exact hfi _|exact hbi _
 ·refine nq (QC.2 h) ?_;refine gt ?_;refine Zb ?_ (.int _ _) rfl;rw[Vy (fun j hj=>hq j hj om)];exact .refl _
def ZwF(l:List (LTm))(hl:l.length<=1000000)(f:Nat)(caps:LA)(p:LTm->Bool)(n:Nat)(H:Za)(hp:Zbm n H f caps eTs l p):PC prog n 439 [.sl 1 (l.map eTs) .any,.fn (.func f) caps] H (.bool (l.any p)):=by
 refine aF func439 fun B=>?_
 refine gc ?_;refine cQ (ZwH l hl f caps p (n+1) _ (hp.up fun l' k h=>Zi h _ _ _)) ?_;simp only[go_sem,simprocAttr];refine nV ?_;refine Zb ?_ (.bool _) rfl;simp only[go_sem,simprocAttr,ZfI];exact .refl _
def ZwV(l:List (LTm))(hl:l.length<=1000000)(f:Nat)(caps:LA)(p:LTm->Bool)(hp:ZeY f caps eTs l p):Yb prog 439 [.sl 1 (l.map eTs) .any,.fn (.func f) caps] (.bool (l.any p)):=
 fun n H hn hT=>ZwF l hl f caps p n H (hp.cond hn hT)
def ZtS(l:List (Int))(f:Nat)(caps:LA)(H:Za)(i:Nat):Zc:=
 ⟨[(8,.int .i64 i),(7,.int .i64 l.length),(1,.fn (.func f) caps),(0,.sl 1 (l.map eInt) .any)],[],H⟩
def ZwI(l:List (Int))(hl:l.length<=1000000)(f:Nat)(caps:LA)(p:Int->Bool)(n:Nat)(H:Za)(a:Zbm n H f caps eInt l p):PC prog n 468 [.sl 1 (l.map eInt) .any,.fn (.func f) caps] H (.int .i64 (Zc8 p l)):=by
 obtain⟨⟨e,c,o⟩,a,b⟩:=a;have hfi:∀q,Inside n q (.fn (.func f) caps):=fun q=>(Below.fn _ _ fun i m=>(b n (Qi n)).mem _ (Qa m)).inside
 have hbi:∀q,Inside n q (.sl 1 (l.map eInt) .any):=fun q=>(Zgh l).inside
 refine aF func468 fun B=>?_
 refine gk ?_;refine ZG (ZtS l f caps H) (fun i=>∀j (h:j<l.length),j<i->p l[j]=false) l.length rfl ?_ (fun j _ h=>absurd h (Qj _)) ?_
 ·exact KK
 intro i m hq;refine ZV rfl ?_;rcases Qd i l.length with h|h
 ·refine nq h ?_;refine gi ?_;refine nq2 (getD_map eInt _ _ h) h ?_;refine Yp (avs:=[eInt l[i]]) rfl o (a l[i] (Qa h) (n+1) _ om fun l' k h=>Zi h _ _ _) rfl ?_;cases g:p l[i]with
  |true=>
   refine aS ?_;refine gn ?_;refine Zb ?_ (.int _ _) rfl;rw[Za4 h g hq];exact .refl _
  |false=>
   refine gI ?_;refine⟨fun j d r=>?_,?_⟩
   ·rcases Qd j i with h'|h'
    ·exact hq j d h'
    ·have:j=i:=om;subst this;exact g
   ·apply kZ;repeat' first|apply q0|exact xx|apply aI
    ·refine aS ?_;rw[iw];exact .refl _
    all_goals first|exact hfi _|exact hbi _
 ·refine nq (QC.2 h) ?_;refine gt ?_;refine Zb ?_ (.int _ _) rfl;rw[Vy (fun j d=>hq j d om)];exact .refl _
def ZwG(l:List (Int))(b:l.length<=1000000)(f:Nat)(caps:LA)(p:Int->Bool)(n:Nat)(H:Za)(a:Zbm n H f caps eInt l p):PC prog n 455 [.sl 1 (l.map eInt) .any,.fn (.func f) caps] H (.bool (l.any p)):=by
 refine aF func455 fun B=>?_
 refine gc ?_;refine cQ (ZwI l b f caps p (n+1) _ (a.up fun c k h=>Zi h _ _ _)) ?_;simp only[go_sem,simprocAttr];refine nV ?_;refine Zb ?_ (.bool _) rfl;simp only[go_sem,simprocAttr,ZfI];exact .refl _
end
theorem Zop(p:Str×Tm):(eBd p).cells=[.str p.1,.int .u8 p.2.kind,.int .i64 p.2.num,.str p.2.name,.sl 4 (p.2.args.map Tm.enc) .any]:=rfl
theorem ZpE(p:Str×Tm):AV.agg [.str p.1,.int .u8 p.2.kind,.int .i64 p.2.num,.str p.2.name,.sl 4 (p.2.args.map Tm.enc) .any]=eBd p:=rfl
attribute [go_sem] Zop ZpE
def ZwU(p:Str×Tm)(s:Str):Pure prog 381 [eBd p,.str s] (.int .i64 (Lib.compareBytes p.1 s)):=by
 intro n H;refine aF func381 fun B=>?_
 refine gc ?_;refine cP (a50 p.1 s) ?_;refine Zk rfl rfl ?_;refine Zb ?_ (.int _ _) rfl;try simp only[go_sem,simprocAttr]
 exact .refl _
def ZwS(p:Str×Tm)(s:Str):Pure prog 322 [eBd p,.str s] (.int .i64 (Lib.compareBytes p.1 s)):=by
 intro n H;refine aF func322 fun B=>?_
 refine gc ?_;refine cP (a50 p.1 s) ?_;refine Zk rfl rfl ?_;refine Zb ?_ (.int _ _) rfl;try simp only[go_sem,simprocAttr]
 exact .refl _
def ZnJ(s:Str):∀(b:Bnd) (i:Nat),i<=b.length->(∀k (h:k<b.length),k<i->Lib.compareBytes b[k].1 s<0)->(∀k (h:k<b.length),i<=k-> ¬Lib.compareBytes b[k].1 s<0)->posB s b=i
 |[],i,hi,_,_=>by simp at hi;subst hi;rfl
 |p::r,i,hi,h1,h2=>by
  unfold posB;cases i with
  |zero=>exact if_neg (h2 0 sm (Qi _))
  |succ i=>
   rw[if_pos (show Lib.compareBytes p.1 s<0 from h1 0 sm om),ZnJ s r i (by simpa using hi) (fun k h a=>h1 (k+1) (by simpa using h) om) (fun k h a=>h2 (k+1) (by simpa using h) om)]
def Zr0{s:Str}{b:Bnd}{i:Nat}(f:Ja b)(o:∀k (h:k<b.length),k<i->Lib.compareBytes b[k].1 s<0)(l:∀k (h:k<b.length),i<=k-> ¬Lib.compareBytes b[k].1 s<0):(ZK s b).isSome=true↔ ∃h:i<b.length,b[i].1=s:=by
 constructor
 ·intro h;obtain⟨v,g⟩:=Qaw.1 h;obtain⟨k,a,m⟩:=QK (ZaG g);have d:b[k].1=s:=by rw[m]
  have j:i<=k:=Nat.le_of_not_lt fun c=>by have:=o k a c;rw[d,cmpBytes_self]at this;omega
  rcases Qd i k with h'|h'
  ·have:=Gt.1 f i k om a h';rw[d]at this;exact absurd this (l i om (Qi _))
  ·have:k=i:=om;subst this;exact⟨a,d⟩
 ·rintro⟨h,e⟩;rw[Zcu f (n:=s) (v:=b[i].2) (by rw[<-e];exact Qa h)];rfl
def ZsZ(f:Nat):Prop:=(∃a c,Fun prog f a c)/\ ∀(p:Str×Tm) (s:Str),Pure prog f [eBd p,.str s] (.int .i64 (Lib.compareBytes p.1 s))
def ZnU(b:Bnd)(s:Str)(f:Nat)(H:Za)(i j:Nat):Zc:=
 ⟨[(10,.int .i64 j),(9,.int .i64 i),(8,.int .i64 b.length),(2,.fn (.func f) []),(1,.str s),(0,.sl 5 (b.map eBd) .any)],[],H⟩
def ZuX(b:Bnd)(u:Ja b)(hl:b.length<=1000000)(s:Str)(f:Nat)(r:ZsZ f):Pure prog 321 [Zu b,.str s,.fn (.func f) []] (.tup [.int .i64 (posB s b),.bool (ZK s b).isSome]):=by
 intro n H;obtain⟨⟨I,c,r⟩,z⟩:=r;refine aF func321 fun B=>?_
 refine nR ?_;refine nr ?_;simp only[go_sem,simprocAttr,Zu];refine nR ?_;repeat refine kn rfl ?_
 refine Zap (fun m A=>∃i j,i<=j/\j<=b.length/\m=j - i/\A=ZnU b s f H i j/\(∀k (h:k<b.length),k<i->Lib.compareBytes b[k].1 s<0)/\ ∀k (h:k<b.length),j<=k-> ¬Lib.compareBytes b[k].1 s<0) (m0:=b.length) (s0:=ZnU b s f H 0 b.length) rfl ?_
  ⟨0,b.length,om,Qi _,rfl,rfl,fun k _ h=>absurd h (Qj _),fun k h h'=>by omega⟩ ?_
 ·exact KK
 rintro m A ⟨i,j,E,D,rfl,rfl,x,t⟩;refine ZV rfl ?_;rcases Qd i j with h|h
 ·have C:∃m:Nat,m=(i+j) / 2:=⟨_,rfl⟩
  obtain⟨m,C⟩:=C;have G:IntKind.i64.wrap ((IntKind.u64.wrap (IntKind.i64.wrap ((i:Int)+(j:Int)))).fdiv (2^min 1 64))=(m:Int):=by
   have J:IntKind.i64.wrap ((i:Int)+(j:Int))=((i+j:Nat):Int):=by rw[iw];omega
   have F:IntKind.u64.wrap ((i+j:Nat):Int)=((i+j:Nat):Int):=by
    exact IntWalk.u64_in _ om
   rw[J,F];have K:(((i+j:Nat):Int)).fdiv (2^min 1 64)=(m:Int):=by
    rw[show(2:Int)^min 1 64=2 from rfl,Int.fdiv_eq_ediv_of_nonneg _ om];omega
   rw[K,iw]
  have d:m<b.length:=om;refine nq h ?_;refine nT ?_;refine nq G ?_;refine nq2 (getD_map eBd _ _ d) d ?_;refine Yp (avs:=[eBd b[m],.str s]) rfl r (z b[m] s _ _) rfl ?_;by_cases o:Lib.compareBytes b[m].1 s<0
  ·have e:decide (Lib.compareBytes b[m].1 s<0)=true:=by simp[o]
   refine aq e ?_;refine nT ?_;refine gd ?_;refine⟨j - (m+1),ZnU b s f H (m+1) j,om,?_,m+1,j,om,D,rfl,rfl,fun k v w=>?_,t⟩
   ·apply kZ;repeat' first|apply q0|exact xx|apply aI
    ·refine aS ?_;rw[iw];exact .refl _
    all_goals first|exact(ZH n b).inside|exact(ZaT (caps:=[]) trivial).inside|skip
   ·rcases Qd k m with h'|h'
    ·exact serN.trans (y:=b[m].1) trivial trivial trivial (Gt.1 u k m v d h') o
    ·have:k=m:=om;subst this;exact o
  ·have e:decide (Lib.compareBytes b[m].1 s<0)=false:=by simp[o]
   refine aq e ?_;refine gm ?_;refine⟨m - i,ZnU b s f H i m,om,?_,i,m,om,om,rfl,rfl,x,fun k v w=>?_⟩
   ·exact KK
   ·intro a;rcases Qd m k with h'|h'
    ·exact o (serN.trans (y:=b[k].1) trivial trivial trivial (Gt.1 u m k d v h') a)
    ·have:k=m:=om;subst this;exact o a
 ·refine nq (QC.2 h) ?_;refine gg ?_;have p:j=i:=om;subst p;have g:=ZnJ s b j D x t;have q:=Zr0 u x t;refine nR ?_;cases a:decide (j<b.length)with
  |false=>
   have e:(ZK s b).isSome=false:=by
    rw[<-Bool.not_eq_true,q];rintro⟨h,_⟩;simp at a;omega
   refine gw ?_;rw[g,e];refine ZF ?_ ?_ (.int _ _) (.bool _) rfl
   ·exact xS
   ·exact xS
  |true=>
   have l:j<b.length:=by simp at a;omega
   refine aq2 (getD_map eBd _ _ l) l ?_;refine Yp (avs:=[eBd b[j],.str s]) rfl r (z b[j] s _ _) rfl ?_;have e:(Lib.compareBytes b[j].1 s==0)=(ZK s b).isSome:=by
    rw[U7,q,beq_iff_eq];exact⟨fun h=>⟨l,cmpBytes_zero h⟩,fun⟨_,h⟩=>by rw[h,cmpBytes_self]⟩
   refine aq e ?_;refine nV ?_;rw[g];refine ZF ?_ ?_ (.int _ _) (.bool _) rfl
   ·exact xS
   ·exact xS
def cmpN228:ZsZ 381:=⟨⟨_,_,Zf func381 rfl rfl⟩,ZwU⟩
def cmpN189:ZsZ 322:=⟨⟨_,_,Zf func322 rfl rfl⟩,ZwS⟩
def tm0:Tm:=.mk 0 0 [] []
def Zhz(s:Str)(b:Bnd):Tm:=(ZK s b).getD tm0
def zero_tm:Wk (.agg [.int .u8 0,.int .i64 0,.str [],.sl 4 [] .full]) tm0.enc:=by
 rw[Tm.ZbN];exact .deep (.ZlK ⟨.refl _,.refl _,.refl _,.nil _ _ _,trivial⟩)
def ZkT{s:Str}{v:Tm}:∀{b:Bnd},Ja b->ZK s b=some v->b[posB s b]? =some (s,v)
 |[],_,h=>by cases h
 |p::r,hb,h=>by
  rw[Ja,UM]at hb;simp only[ZK]at h;split at h
  ·rename_i e;cases h;have:¬Lib.compareBytes p.1 s<0:=by rw[e,cmpBytes_self];omega
   rw[posB,if_neg this,GH,<-e]
  ·have a:=hb.1 _ (ZaG h);rw[posB,if_pos a,U1];exact ZkT hb.2 h
def Zjh(s:Str):∀b:Bnd,posB s b<=b.length
 |[]=>Qi _
 |p::r=>by
  have:=Zjh s r;unfold posB;split<;>simp only[Qm]<;>omega
theorem Zgs(s:Str)(v:Tm):∀b:Bnd,WE s v b=b.take (posB s b)++(s,v)::b.drop (posB s b)
 |[]=>rfl
 |p::r=>by
  have:=Zgs s v r;unfold WE posB;split
  ·rw[this];rfl
  ·rfl
def Zj4(s:Str)(v:Tm)(b:Bnd):(WE s v b).length=b.length+1:=by
 have:=Zjh s b;rw[Zgs];simp;omega
def ZuY(b:Bnd)(c:Ja b)(f:b.length<=1000000)(s:Str):Pure prog 325 [Zu b,.str s] (.tup [(Zhz s b).enc,.bool (ZK s b).isSome]):=by
 intro n H;refine aF func325 fun B=>?_
 refine gc ?_;refine cP (ZuX b c f s 381 cmpN228) ?_;cases h:ZK s b with
 |none=>
  refine nr ?_;simp only[go_sem,simprocAttr,Qae];refine gj ?_;have e:Zhz s b=tm0:=by rw[Zhz,h];rfl
  rw[e];refine VE _ n 4 0 [.int .u8 0,.int .i64 0,.str [],.sl 4 [] .full] sS sF rfl (Qi _) sS zero_tm (.refl _) (Tm.blw _ _) (.bool _) rfl
 |some v=>
  have a:=ZkT c h;obtain⟨d,a⟩:=Q7.1 a;have e:Zhz s b=v:=by rw[Zhz,h];rfl
  rw[e];refine nr ?_;simp only[go_sem,simprocAttr,Qaf];refine nF ?_;refine nr ?_;simp only[go_sem,simprocAttr,Zu,getD_map eBd _ _ d,d,a];refine nV ?_;refine VE _ n 4 0 v.cs sS sF rfl (Qi _) sS (by simp only[go_sem,simprocAttr];exact .refl _) (.refl _) (Tm.blw _ _) (.bool _) rfl
theorem ZrN(l:Bnd):flat (l.map eBd)=l.flatMap fun p=>AV.str p.1::p.2.cs:=by
 induction l with
 |nil=>rfl
 |cons p r ih=>rw[Qs,Yc,ih];rfl
def Zuy{n:Nat}{p:Nat->Prop}(l:Bnd):ZW (fun c=>Inside n p c) (flat (l.map eBd)):=ZM fun c a=>by
 rw[ZrN]at a;obtain⟨u,_,hu⟩:=QI.1 a;rcases Ql.1 hu with rfl|hu
 ·exact .str _
 ·exact(u.2.bcs.mem _ hu).inside
def extO:Opt:=⟨true,true,fun d=>if d=24\/d=29 then .heap else if d=26 then .pure else .auto,[]⟩
def j138(b:Bnd)(t:Ja b)(z:b.length<=900000)(s:Str)(v:Tm):Pure prog 252 [Zu b,.str s,v.enc] (Zu (WE s v b)):=by
 intro n H;have l:=Zjh s b;have d:=Zgs s v b;have h:=Zj4 s v b;refine aF func252 fun B=>?_
 refine gc ?_;refine cP (ZuX b t om s 322 cmpN189) ?_;generalize posB s b=i at l d⊢;have o:IntKind.i64.wrap ((b.length:Int)+1)=((b.length+1:Nat):Int):=by rw[iw];omega
 refine nr ?_;simp only[go_sem,simprocAttr,Zu,o];refine⟨⟨Zn om,om⟩,?_⟩;repeat refine kn rfl ?_
 refine ZT 5 v.cs [(9,.msl 5 n 19 0),(7,.int .i64 i),(5,.iptr v.cs),(0,.sl 5 (b.map eBd) .any),(1,.str s)] rfl ?_ ?_ ⟨Ze.Ze7 (fun c e=>by cases e),trivial⟩ ?_
 ·exact ZM fun c e=>(v.bcs.mem c e).inside
 ·exact⟨.inl ⟨.refl _,.msl _ _ _ _ (.inr ⟨rfl,dc⟩)⟩,.inl ⟨.refl _,.int _ _⟩,.inr ⟨0,rfl,rfl⟩,.inl ⟨.refl _,(ZH n b).inside⟩,.inl ⟨.refl _,.str _⟩,trivial⟩
 refine nD extO ?_;have f:(b.take i).length=i:=UG l;have a:∀q:Bnd,∀y∈q.map eBd,y.cells.all AV.one=true:=fun q y r=>by obtain⟨u,_,rfl⟩:=Qg.1 r;rfl
 simp only[go_sem,simprocAttr,extO,<-List.map_take,f];refine⟨l,⟨a _,Zn om,om⟩,rfl,⟨Zn om,om⟩,?_⟩;refine nr ?_;simp only[go_sem,simprocAttr,<-List.map_drop,QL,QV,<-List.map_take];refine⟨l,⟨a _,Zn om,om⟩,?_⟩;refine kK ?_;have g:flat ((WE s v b).map eBd)=flat []++flat ((b.take i).map eBd)++flat [eBd (s,v)]++flat ((b.drop i).map eBd):=by
  rw[d,QM,Qs,YJ,Yc];simp[flat]
 have m:((WE s v b).map eBd).length=i+1+(b.length - i):=by rw[Qv,h];omega
 refine ZJ (YV (tm':=[(6,.sl 5 ((WE s v b).map eBd) .any)]) (j:=19) ((WE s v b).map eBd) rfl g m (fun x w=>by obtain⟨u,_,rfl⟩:=Qg.1 w;rfl) ?_ ?_ ?_) ?_
 ·intro c e;have e:c∈flat ((WE s v b).map eBd):=by rw[g];exact e
  exact(Zuy _).mem c e
 ·intro p k;simp only[Qo]at k;subst k;exact .inr ⟨5,rfl,rfl⟩
 ·intro p k;cases k
 refine nV ?_;exact Zb (.refl _) (ZH n _) rfl
section
variable {t:Tm}
def Zr7(h:okv t=true):t.args.length<=8:=by
 rcases VD h with h|h|h
 ·rw[h.2.2.2.2];simp
 ·rw[h.2.2.2];simp
 ·omega
def Zq7{K:Nat}:∀{l:LT},(∀u∈l,u.sz<=K)->Tm.sz.szs l<=l.length*K
 |[],_=>by simp[Tm.sz.szs]
 |t::r,h=>by
  have b:=h t sm;have c:=Zq7 (l:=r) fun u a=>h u (by simp[a])
  simp only[Tm.sz.szs,Qm,Q9,QaW];omega
def okv_size:∀(d:Nat) (t:Tm),t.all okv=true->dep t<=d->7*t.sz+1<=8^d
 |0,t,_,h=>absurd h (by have:=Zni t;omega)
 |d+1,t,hv,h=>by
  have b:∀u∈t.args,u.sz<=(8^d - 1) / 7:=fun u a=>by
   have:=okv_size d u (Xx hv a) (by have:=ZiH a;omega);omega
  have e:=Zq7 b;have c:=Zr7 (YZ hv);have f:t.args.length*((8^d - 1) / 7)<=8*((8^d - 1) / 7):=QF _ c;have g:1<=8^d:=Nat.pow_pos om;rw[Tm.ZnZ,Nat.pow_succ];omega
def Zhd(h:Zt t=true):t.sz<=9817068105:=by
 have:=okv_size 12 t (Ju h) (Ziu h);omega
def X8(h:Zt t=true):t.Good:=⟨by have:=Zhd h;omega,J5 h⟩
def ZjN{b:Bnd}(d:YG b):∀t:Tm,(Ye b t).sz<=t.sz*9817068105
 | .mk k n s l=>by
  have g:∀q:LT,(∀u∈q,u∈l)->Tm.sz.szs (q.map (Ye b))<=Tm.sz.szs q*9817068105:=by
   intro q;induction q with
   |nil=>intro _;simp[Tm.sz.szs]
   |cons u q ih=>
    intro c;have m:=ih fun v a=>c v (by simp[a])
    have f:u∈l:=c u sm;have j:=ZjN d u;simp only[Qs,Tm.sz.szs];omega
  have i:=g l fun _ h=>h
  rw[Zac];cases e:(if k=3 then ZK s b else none)with
  |none=>simp only[Tm.sz];omega
  |some v=>
   have a:ZK s b=some v:=by
    split at e
    ·exact e
    ·cases e
   have:=Zhd (d.look a);simp only[Tm.sz];omega
termination_by t=>SizeOf.sizeOf t
decreasing_by
 have:=QU f;simp only[Tm.mk.sizeOf_spec];omega
def Zpt{b:Bnd}(d:YG b):∀t:Tm,t.Nm->(Ye b t).Nm
 | .mk k n s l,h=>by
  have f:∀u∈l,(Ye b u).Nm:=fun u a=>Zpt d u (h.arg u a)
  rw[Zac];cases e:(if k=3 then ZK s b else none)with
  |none=>
   cases h with|mk _ _ _ _ h2 h3 h4 h5 h6=>
   exact .mk _ _ _ _ h2 h3 h4 (by simpa using h5) fun u a=>by obtain⟨v,c,rfl⟩:=Qg.1 a;exact f v c
  |some v=>
   have c:ZK s b=some v:=by
    split at e
    ·exact e
    ·cases e
   exact J5 (d.look c)
termination_by t=>SizeOf.sizeOf t
decreasing_by
 have:=QU a;simp only[Tm.mk.sizeOf_spec];omega
def ZjM{b:Bnd}(a:YG b)(h:t.Nm)(c:t.sz<=305):(Ye b t).Good:=
 ⟨by have:=ZjN a t;omega,Zpt a t h⟩
end
def ZuV(a b:Tm)(c:Wd a)(d:Wd b):Pure prog 44 [a.enc,b.enc] (.bool (cmpT a b==0)):=by
 intro n H;refine aF func44 fun B=>?_
 refine gc ?_;refine cP (Zs3 a b c d) ?_;exact pB
def j16(a b:Tm)(c:a.Good)(d:b.Good):Pure prog 44 [a.enc,b.enc] (.bool (cmpT a b==0)):=ZuV a b (good_wd a c) (good_wd b d)
def Zrz(b:Bnd)(t:Tm):Ye b t=if((ZK t.name b).isSome&&(t.kind==3))=true then Zhz t.name b else .mk t.kind t.num t.name (t.args.map (Ye b)):=by
 cases t with|mk k n s l=>
 rw[Zac];simp only[Tm.kind,Tm.num,Tm.name,Tm.args,Zhz];by_cases a:k=3
 ·rw[if_pos a];obtain h|⟨v,h⟩:ZK s b=none\/ ∃v,ZK s b=some v:=by cases ZK s b<;>simp
  ·simp[h]
  ·simp[h,a]
 ·rw[if_neg a];simp[a]
def ZuW(b:Bnd)(k:Ja b)(h:b.length<=1000000)(t:Tm)(j:t.Good)(g:Zfn 375 [.iptr [Zu b]] Tm.enc Tm.enc t.args (Ye b)):Yb prog 313 [t.enc,Zu b] (Ye b t).enc:=by
 intro n H hn hT;have f:=j70 t.args j.len _ _ (Ye b) g;have d:=Zrz b t;refine aF func313 fun B=>?_
 refine gh ?_;refine ZT 3 [Zu b] [(4,.ptr n 4 0),(3,.iptr [Zu b]),(2,.ptr n 2 0)] rfl ?_ ?_ ?_ ?_
 ·exact⟨(ZH n b).inside,trivial⟩
 ·refine⟨.inl ⟨.refl _,.ptr _ _ _ (.inr ⟨rfl,dc⟩)⟩,.inr ⟨0,rfl,rfl⟩,.inl ⟨.refl _,.ptr _ _ _ (.inr ⟨rfl,dc⟩)⟩,trivial⟩
 ·exact⟨Ze.Zv (ZM fun c a=>(t.bcs.mem c a).inside),Ze.Zv ⟨(Below.int _ _).inside,(Below.int _ _).inside,(Below.str _).inside,inZ,trivial⟩,trivial⟩
 refine gP ?_;refine cP (ZuY b k h t.name) ?_;by_cases a:((ZK t.name b).isSome&&(t.kind==3))=true
 ·rw[if_pos a]at d;rw[d];rw[Qb]at a;refine nq2 a.1 a.2 ?_;refine gj ?_;refine YH (.inl rfl) _ n 4 0 (Zhz t.name b).cs sS sF rfl (Qi _) sS ?_ (Tm.blw _ _) rfl;exact xS
 ·rw[if_neg a]at d;rw[d];cases e:(ZK t.name b).isSome with
  |false=>
   refine nq e ?_;refine gv ?_;refine cT (f) ?_;refine ge ?_;refine YH (.inl rfl) _ n 4 0 (Tm.mk t.kind t.num t.name (t.args.map (Ye b))).cs sS (by simp only[go_sem,simprocAttr,full];rfl) rfl (Qi _) sS ?_ (Tm.blw _ _) rfl;rw[Tm.Zc3];exact .refl _
  |true=>
   have i:(t.kind==3)=false:=by rw[e,QX,Me]at a;exact a
   refine nq2 e i ?_;refine gv ?_;refine cT (f) ?_;refine ge ?_;refine YH (.inl rfl) _ n 4 0 (Tm.mk t.kind t.num t.name (t.args.map (Ye b))).cs sS (by simp only[go_sem,simprocAttr,full];rfl) rfl (Qi _) sS ?_ (Tm.blw _ _) rfl;rw[Tm.Zc3];exact .refl _
def ZwT(b:Bnd)(t:Tm)(a:t.Good)(h:Yb prog 313 [t.enc,Zu b] (Ye b t).enc):Yb prog 375 [t.enc,.iptr [Zu b]] (Ye b t).enc:=by
 intro n H hn hT;refine aF func375 fun B=>?_
 refine gc ?_;refine cT (h) ?_;refine nV ?_;refine YH (.inl rfl) _ n 3 0 (Ye b t).cs sS sF rfl (Qi _) sS ?_ (Tm.blw _ _) rfl;exact xS
def Ztu(b:Bnd)(e:Ja b)(d:b.length<=1000000)(t:Tm)(c:t.Good):Yb prog 313 [t.enc,Zu b] (Ye b t).enc:=
 ZuW b e d t c ⟨⟨_,_,Zf func375 rfl rfl⟩,fun u a=>ZwT b u (c.arg a) (Ztu b e d u (c.arg a)),fun _=>⟨Zj ⟨ZH _ b,trivial⟩,trivial⟩⟩
termination_by SizeOf.sizeOf t
decreasing_by exact Tm.Xp a
structure GB (b:Bnd):Prop where
 asc:Ja b
 good:∀q∈b,q.2.Good
section
variable {b:Bnd}
def GB.look(h:GB b){s:Str}{v:Tm}(e:ZK s b=some v):v.Good:=h.good _ (ZaG e)
def GB.ext(h:GB b){s:Str}{v:Tm}(e:ZK s b=none)(a:v.Good):GB (WE s v b):=
 ⟨Zge h.asc (WI.1 e),fun q hq=>by rcases ZbP.1 hq with rfl|hq;all_goals first|exact a|exact h.good q hq⟩
def YG.gb(h:YG b):GB b:=⟨h.asc,fun q a=>X8 (h.val q a)⟩
def mat_gb:(∀t v b c,matT t v b=some c->GB b->v.Good->GB c/\c.length<=b.length+t.sz)/\ ∀l q b c,matT.matL l q b=some c->GB b->(∀v∈q,v.Good)->GB c/\c.length<=b.length+Tm.sz.szs l:=by
 refine Zbh (fun k n s l ih v b c h f j=>?_) (fun q b c h f g=>?_) fun t r p o q b c h f g=>?_
 ·rw[matT]at h;split at h
  ·rename_i z;obtain e|⟨w,e⟩:ZK s b=none\/ ∃v,ZK s b=some v:=by cases ZK s b<;>simp
   ·rw[e]at h;simp only[Qp]at h;subst h;exact⟨f.ext e j,by rw[Zj4];simp only[Tm.sz];omega⟩
   ·rw[e]at h;simp only at h;split at h
    ·cases h;exact⟨f,om⟩
    ·cases h
  ·split at h
   ·obtain⟨a,B⟩:=ih v.args b c h f (fun u i=>j.arg i);exact⟨a,by simp only[Tm.sz];omega⟩
   ·cases h
 ·rw[matT.matL]at h;cases h;exact⟨f,om⟩
 ·cases q with
  |nil=>rw[matT.matL]at h;cases h;exact⟨f,om⟩
  |cons v q=>
   rw[matT.matL]at h;cases e:matT t v b with
   |none=>rw[e]at h;cases h
   |some d=>
    rw[e]at h;obtain⟨m,A⟩:=p v b d e f (g v sm);obtain⟨x,y⟩:=o q d c h m (fun u i=>g u (by simp[i]));exact⟨x,by simp only[Tm.sz.szs];omega⟩
def Zmm(o:Option Bnd):AV:=.tup [Zu (o.getD []),.bool o.isSome]
def Zld(l v:LT)(c:Bnd)(H:Za)(i:Nat):Zc:=
 ⟨[(16,.int .i64 i),(15,.int .i64 l.length),(14,.sl 4 (l.map Tm.enc) .any),(2,Zu c),(1,.sl 4 (v.map Tm.enc) .any)],[],H⟩
def Zq6(l:LT)(i:Nat)(h:i<l.length):Tm.sz.szs (l.drop i)=l[i].sz+Tm.sz.szs (l.drop (i+1)):=by
 rw[QB h];rfl
def ZuU(l v:LT)(b:Bnd)(D:l.length=v.length)(hl:∀t∈l,t.Good)(R:∀u∈v,u.Good)(P:GB b)(U:b.length+Tm.sz.szs l<=900000)
  (W:∀t∈l,∀u∈v,∀c,GB c->t.args.length=u.args.length->c.length+Tm.sz.szs t.args<=900000->Pure prog 255 [.sl 4 (t.args.map Tm.enc) .any,.sl 4 (u.args.map Tm.enc) .any,Zu c] (Zmm (matT.matL t.args u.args c))):
  Pure prog 255 [.sl 4 (l.map Tm.enc) .any,.sl 4 (v.map Tm.enc) .any,Zu b] (Zmm (matT.matL l v b)):=by
 intro n H;have M:=Tm.sz_len l;refine aF func255 fun B=>?_
 refine gk ?_;refine Zap (fun m L=>∃i c,i<=l.length/\m=l.length - i/\L=Zld l v c H i/\GB c/\c.length+Tm.sz.szs (l.drop i)<=900000/\matT.matL (l.drop i) (v.drop i) c=matT.matL l v b) (m0:=l.length) (s0:=Zld l v b H 0) rfl ?_
  ⟨0,b,Us _,rfl,rfl,P,U,rfl⟩ ?_
 ·exact KK
 rintro m L ⟨i,c,X,rfl,rfl,k,V,E⟩;refine ZV rfl ?_;rcases Qd i l.length with h|h
 ·have g:i<v.length:=om;have O:=hl _ (Qa h);have q:=R _ (Qa g);have K:=Zq6 l i h;have a:matT.matL (l.drop i) (v.drop i) c=match matT l[i] v[i] c with
    |none=>none
    |some d=>matT.matL (l.drop (i+1)) (v.drop (i+1)) d:=by
   rw[QB h,QB g,matT.matL];rfl
  rw[E]at a;have r:=W _ (Qa h) _ (Qa g) c k;have o:=(mat_gb.1 l[i] v[i] c)
  obtain⟨t,htl⟩:∃t,t=l[i]:=⟨_,rfl⟩
  obtain⟨u,hul⟩:∃u,u=v[i]:=⟨_,rfl⟩
  rw[<-htl]at O K a r o;rw[<-hul]at q a r o;have N:=t.Zdk;have S:=t.ZnZ;have y:IntKind.i64.wrap ((i:Int)+1)=((i+1:Nat):Int):=by rw[iw];omega
  refine nq h ?_;refine gH ?_;simp only[go_sem,simprocAttr,Tm.Zw _ _ h,h,<-htl];refine nR ?_;refine cP (ZuY c k.asc om t.name) ?_;refine kK ?_;by_cases p:t.kind=3
  ·have A:(t.kind==3)=true:=by simp[p]
   obtain e|⟨w,e⟩:ZK t.name c=none\/ ∃w,ZK t.name c=some w:=by cases ZK t.name c<;>simp
   ·have f:matT t u c=some (WE t.name u c):=by
     cases t;simp only[Tm.kind,Tm.name]at p e⊢;rw[matT,if_pos p,e]
    rw[f]at a;refine nr ?_;simp only[go_sem,simprocAttr,e,Qae,A];refine nT ?_;refine nD drawO ?_;simp only[go_sem,simprocAttr,Tm.Zw _ _ g,g,<-hul];refine cP (j138 c k.asc om t.name u) ?_;refine Zmg rfl rfl rfl ?_;refine gd ?_;refine⟨l.length - (i+1),Zld l v (WE t.name u c) H (i+1),om,?_,i+1,_,om,rfl,rfl,(o _ f k q).1,by have:=(o _ f k q).2;omega,a.symm⟩;apply kZ;repeat' first|apply q0|exact xx|apply aI
    all_goals first|exact(ZH n _).inside|skip
    refine aq y ?_;exact .refl _
   ·have Q:Zhz t.name c=w:=by rw[Zhz,e];rfl
    refine nr ?_;simp only[go_sem,simprocAttr,e,Qaf,A];refine nF ?_;refine nq A ?_;refine nT ?_;refine nD drawO ?_;simp only[go_sem,simprocAttr,Tm.Zw _ _ g,g,<-hul,Q];refine cP (j16 w u (k.look e) q) ?_;by_cases hq:cmpT w u=0
    ·have x:(cmpT w u==0)=true:=by simp[hq]
     have f:matT t u c=some c:=by
      cases t;simp only[Tm.kind,Tm.name]at p e⊢;rw[matT,if_pos p,e];simp[hq]
     rw[f]at a;refine nFq x ?_;refine Zmg rfl rfl rfl ?_;refine gd ?_;refine⟨l.length - (i+1),Zld l v (c) H (i+1),om,?_,i+1,_,om,rfl,rfl,(o _ f k q).1,by have:=(o _ f k q).2;omega,a.symm⟩;apply kZ;repeat' first|apply q0|exact xx|apply aI
     all_goals first|exact(ZH n _).inside|skip
     refine aq y ?_;exact .refl _
    ·have x:(cmpT w u==0)=false:=by simp[hq]
     have f:matT t u c=none:=by
      cases t;simp only[Tm.kind,Tm.name]at p e⊢;rw[matT,if_pos p,e];simp[hq]
     rw[f]at a;refine nTq x ?_;refine nR ?_;refine nW ?_;rw[a];exact ZF (.any _ _ _) (.refl _) (ZH n _) (.bool _) rfl
  ·have A:(t.kind==3)=false:=by simp[p]
   refine nq A ?_;refine nF ?_;refine nq A ?_;refine gu ?_;have j:matT t u c=if t.kind=u.kind/\t.num=u.num/\t.name=u.name/\t.args.length=u.args.length then matT.matL t.args u.args c else none:=by
    cases t;cases u;simp only[Tm.kind,Tm.name,Tm.num,Tm.args]at p⊢;rw[matT,if_neg p];rfl
   by_cases q1:t.kind=u.kind
   ·have z:(t.kind !=u.kind)=false:=by simp[q1]
    by_cases q2:t.num=u.num
    ·have C:(t.num !=u.num)=false:=by simp[q2]
     by_cases q3:t.name=u.name
     ·have F:(t.name==u.name)=true:=by simp[q3]
      by_cases G:t.args.length=u.args.length
      ·have I:((t.args.length:Int) !=(u.args.length:Int))=false:=by simp[G]
       rw[if_pos ⟨q1,q2,q3,G⟩]at j;refine XD tok mixed drawO rfl rfl rfl ?_;simp -implicitDefEqProofs (maxSteps:=1000000) only[go_sem,simprocAttr,Tm.Zw _ _ g,g,<-hul,z,C,F,I];refine nF ?_;refine nD drawO ?_;simp only[go_sem,simprocAttr,Tm.Zw _ _ g,g,<-hul];refine cP (r G om) ?_;obtain e|⟨d,e⟩:matT.matL t.args u.args c=none\/ ∃d,matT.matL t.args u.args c=some d:=by cases matT.matL t.args u.args c<;>simp
       ·have f:matT t u c=none:=j.trans e;rw[f]at a;simp only[go_sem,simprocAttr,Zmm,e,Qae,Qbq];refine nR ?_;refine gn ?_;rw[a];exact ZF (.any _ _ _) (.refl _) (ZH n _) (.bool _) rfl
       ·have f:matT t u c=some d:=j.trans e;rw[f]at a;simp only[go_sem,simprocAttr,Zmm,e,Qaf,Ul];refine nR ?_;refine nF ?_;refine gc ?_;refine nN ?_;refine⟨l.length - (i+1),Zld l v d H (i+1),om,?_,i+1,_,om,rfl,rfl,(o _ f k q).1,by have:=(o _ f k q).2;omega,a.symm⟩;apply kZ;repeat' first|apply q0|exact xx|apply aI
        all_goals first|exact(ZH n _).inside|(simp only[go_sem,simprocAttr,y];exact .refl _)|exact xS|(simp only[go_sem,simprocAttr];exact Tm.Zhq _ _)|(simp only[go_sem,simprocAttr];exact(Below.int _ _).inside)|(simp only[go_sem,simprocAttr];exact(ZH n _).inside)
      ·have I:((t.args.length:Int) !=(u.args.length:Int))=true:=by simp;omega
       have f:matT t u c=none:=by rw[j,if_neg (fun s=>G s.2.2.2)]
       rw[f]at a;refine XD tok mixed drawO rfl rfl rfl ?_;simp -implicitDefEqProofs (maxSteps:=1000000) only[go_sem,simprocAttr,Tm.Zw _ _ g,g,<-hul,z,C,F,I];refine gn ?_;rw[a];exact ZF (.any _ _ _) (.refl _) (ZH n _) (.bool _) rfl
     ·have F:(t.name==u.name)=false:=by simp[q3]
      have f:matT t u c=none:=by rw[j,if_neg (fun s=>q3 s.2.2.1)]
      rw[f]at a;refine XD tok mixed drawO rfl rfl rfl ?_;simp -implicitDefEqProofs (maxSteps:=1000000) only[go_sem,simprocAttr,Tm.Zw _ _ g,g,<-hul,z,C,F];refine gn ?_;rw[a];exact ZF (.any _ _ _) (.refl _) (ZH n _) (.bool _) rfl
    ·have C:(t.num !=u.num)=true:=by simp[q2]
     have f:matT t u c=none:=by rw[j,if_neg (fun s=>q2 s.2.1)]
     rw[f]at a;refine XD tok mixed drawO rfl rfl rfl ?_;simp -implicitDefEqProofs (maxSteps:=1000000) only[go_sem,simprocAttr,Tm.Zw _ _ g,g,<-hul,z,C];refine gn ?_;rw[a];exact ZF (.any _ _ _) (.refl _) (ZH n _) (.bool _) rfl
   ·have z:(t.kind !=u.kind)=true:=by simp[q1]
    have f:matT t u c=none:=by rw[j,if_neg (fun s=>q1 s.1)]
    rw[f]at a;refine XD tok mixed drawO rfl rfl rfl ?_;simp -implicitDefEqProofs (maxSteps:=1000000) only[go_sem,simprocAttr,Tm.Zw _ _ g,g,<-hul,z];refine gn ?_;rw[a];exact ZF (.any _ _ _) (.refl _) (ZH n _) (.bool _) rfl
 ·have J:i=l.length:=om;subst J;rw[Qao,show v.drop l.length=[] by rw[D];exact Qao]at E;have E:matT.matL l v b=some c:=by rw[<-E,matT.matL]
  refine nq (QC.2 h) ?_;refine gt ?_;rw[E];exact ZF (.refl _) (.refl _) (ZH n _) (.bool _) rfl
def ZuT(l v:LT)(b:Bnd)(a:l.length=v.length)(e:∀t∈l,t.Good)(d:∀u∈v,u.Good)(k:GB b)(j:b.length+Tm.sz.szs l<=900000):
  Pure prog 255 [.sl 4 (l.map Tm.enc) .any,.sl 4 (v.map Tm.enc) .any,Zu b] (Zmm (matT.matL l v b)):=
 ZuU l v b a e d k j fun t f u i c m g n=>ZuT t.args u.args c g (fun _ h=>(e t f).arg h) (fun _ h=>(d u i).arg h) m n
termination_by SizeOf.sizeOf l
decreasing_by
 have p:=QU f;have o:SizeOf.sizeOf t.args<SizeOf.sizeOf t:=by cases t;simp only[Tm.args,Tm.mk.sizeOf_spec];omega
 omega
end
end Go.Proofs.YthajllbimoodjaaGreatDoor

namespace Go.Abs
def ZbB{n N m:Nat}{tm tm':LN}{L:List (Nat×Ze)}{H:Za}{j e sz i:Nat}{cs:LA}(q:0<i)(hm:m<=i)(hb:lkb L j=some (.Zg e sz cs i))(V:∀c∈cs,Inside n (fun k=>k≠j) c)
  (h1:∀p∈tm',(Wk (lkv tm p.1) p.2/\Inside n (fun k=>k≠j) (lkv tm p.1))\/(∃G C,lkv tm p.1= .sub G n j i 0 m/\p.2= .msl C n j m)) (hL:∀p∈delb L j,p.2.Inside n (fun k=>k≠j)):
  AWk n N ⟨tm,L,H⟩ ⟨tm',setb (delb L j) j (.Zg e sz (cs.take (m*sz)) m),H⟩:=fun B E w a hs=>by
 have h:=hs.heap;obtain⟨⟨h0,v0,R,ay,S⟩,ax⟩:=h.Zg n j e sz cs i (Qq n) (by simp only[full,if_true];exact hb);rcases S with⟨ad,q1,I,q3⟩|⟨g,cap,cur,q1,I,q3,q4,q5,q6,Z,q8⟩
 ·omega
 have f:∀b o u,E.F b o=some u->(E.freeze n j none).F b o=some u:=fun b o u r=>r
 obtain⟨U,hx⟩:=h.freeze (j:=j) none hL hs.out (fun b c' e=>by cases e) (fun a v ha hv=>hv.freeze f ha);have Y:∀l' k' b,(E.freeze n j none).m l' k'=some b->b≠g:=fun l' k' b hm Q=>by
  subst Q;simp only[Env.freeze]at hm;split at hm
  ·cases hm
  ·exact h.mg _ _ _ _ _ hm I
 have W:∀l' k' b,(E.freeze n j none).g l' k'=some b-> ¬(l'=n/\k'=j)->b≠g:=fun l' k' b hm O Q=>by
  subst Q;simp only[Env.freeze]at hm;split at hm
  ·cases hm
  ·exact O (h.injg _ _ _ _ _ hm I)
 have M:g<w.heap.size:=h.lt g (.inr ⟨n,j,I⟩);have D:m*sz<=i*sz:=QF _ hm;have X:VRs (E.freeze n j none) (cs.take (m*sz)) (cur.toList.take (m*sz)):=by
  have h2:VRs (E.freeze n j none) cs (cur.toList.take (i*sz)):=⟨q8.1,fun i x y=>(q8.2 i x y).freeze f (V _ (Qa _))⟩
  have h3:=h2.take (m*sz)
  rwa [QaJ,QaY D]at h3
 have A:(E.freeze n j none).le (n+1) ((E.freeze n j none).Zr n j m (.slice (some ⟨g,0,none⟩) m cap) g []):=by
  refine⟨fun b o v hf=>?_,fun _ _ _ _ hm=>hm,fun l' k' i u _ q=>?_,rfl⟩
  ·simp only[Env.Zr];by_cases hb:b=g
   ·subst hb;rw[show(E.freeze n j none).F b o=E.F b o from rfl,Z o]at hf;cases hf
   ·rw[if_neg hb];exact hf
  ·simp only[Env.Zr];rw[if_neg (fun hc=>by rw[hc.1,hc.2.1]at q;simp[Env.freeze]at q)];exact q
 obtain⟨P,d⟩:=U.ZjR (l:=n) (j:=j) (n:=m) (g':=g) (v:=.slice (some ⟨g,0,none⟩) m cap) (nb:=.Zg e sz (cs.take (m*sz)) m) (Qq n) (by simp[Env.freeze]) rfl [] (Qi _) (fun _ _ _=>rfl) Y W M
  (fun o u r=>by simp at r) (fun o u r=>by rw[show(E.freeze n j none).F g o=E.F g o from rfl,Z o]at r;cases r)
  ⟨⟨by rw[QJ,h0];exact QaY D,_,by simp[Env.Zr],fun i q=>by simp only[Env.Zr,Env.freeze];rw[if_neg (fun h=>by omega)];simp,
   .inr ⟨g,cap,cur,rfl,by simp[Env.Zr],q3,om,q5,q6,fun o=>by simp[Env.Zr],X.mono U.norm A⟩⟩,by simp[Env.Zr,Env.freeze]⟩
 have s:Ext n E w ((E.freeze n j none).Zr n j m (.slice (some ⟨g,0,none⟩) m cap) g []) w:=by
  refine⟨hx.le.trans ⟨d.1,fun l k b hl hm=>d.2 l k b (Qal hl) hm,fun l k i u hl q=>d.3 l k i u (Qal hl) q,d.4⟩,rfl,rfl,rfl,fun _=>Qi _,Qi _,fun _ _ _=>rfl,fun b _ ho=>?_⟩;rcases ho with⟨l,k,hm⟩|⟨l,k,hg⟩
  ·simp only[Env.Zr,Env.freeze]at hm;split at hm
   ·cases hm
   ·exact .inl ⟨l,k,hm⟩
  ·simp only[Env.Zr,Env.freeze]at hg;split at hg
   ·cases hg;exact .inr ⟨n,j,I⟩
   ·exact .inr ⟨l,k,hg⟩
 refine⟨_,⟨hs.size,hs.defs.ext s,fun J=>?_,by rw[Zm];exact P,hs.out⟩,s⟩;show VR _ (lkv tm' J) _;rcases lkv_mem (tm:=tm') (t:=J)with hd|hmm
 ·rw[hd];exact .dead _
 ·have z:=hs.tmps J;rcases h1 _ hmm with⟨w1,K⟩|⟨G,C,w1,K⟩
  ·exact w1.vr ((z.freeze f K).mono U.norm d)
  ·dsimp only at w1 K z;rw[w1]at z;rw[K];generalize a.tmps.getD J undef=x at z;cases z with
   |sub _ _ _ _ _ _ g' cap' hh' hm=>
    rw[R,q1]at hh';simp only[Qp,Value.slice.injEq,Addr.mk.injEq]at hh';obtain⟨⟨rfl,_,_⟩,_,rfl⟩:=hh';simp only[Gp,MV];exact .msl _ _ _ _ _ _ (by simp[Env.Zr])
def Wi{b:Cx}{c:Code}{k:List Itm}{Q:Exit->Zc->Prop}{f:LN}{L:List (Nat×Ze)}{H:Za}(j l q:Nat)(x:Ze)(e:LN)(s:l<b.n)(d:H l q=none)(o:lkb L j=some x)(w:x.Below b.n)
  (v:ZW (fun p=>ZcX b.n j (lkv f p.1)/\Wk (ren b.n j l q (lkv f p.1)) p.2) e) (t:ZW (fun p=>ZW (fun a=>ZcX b.n j a) p.2.avs/\p.2.at_=[]/\p.2.isRec=false) (delb L j))
  (h:AKc b (.code c::k) Q ⟨e,Zb5 b.n j l q L,H.upd l q x⟩):AKc b (.code c::k) Q ⟨f,L,H⟩:=
 ZJ (ZjE j l q s d o w v.mem (fun p g=>by
  obtain⟨m,i,y⟩:=t.mem p g;exact⟨m.mem,⟨(fun r u=>absurd (i▸u) (QA)),y⟩⟩)) h
end Go.Abs

namespace Go.Proofs.YthajllbimoodjaaGreatDoor
open Go.Abs
def growO:Opt:=⟨false,false,fun d=>if d=22 then .lay true else .auto,[]⟩
def j129(n:Nat)(H:Za)(l q c:Nat)(h:l<n)(b:H l q=none)(u:c<=1000000000):
  Zh prog n 242 [.sl 1 [] .full,.int .i64 c] H fun r t=>r= .msl 1 l q 0/\t=H.upd l q (.Zg 9 1 [] 0):=by
 have o:IntKind.i64.wrap (c:Int)=c:=by rw[iw]
 have g:IntKind.i64.wrap 0=0:=rfl;refine aF func242 fun B=>?_
 refine gc ?_;refine nF ?_;refine nr ?_;simp only[go_sem,simprocAttr,g,Qbs,QaG,o];refine nr ?_;simp only[go_sem,simprocAttr,g,QaG,o];by_cases e:0<c
 ·have i:decide ((0:Int)<(c:Int))=true:=by simp;omega
  refine nTq i ?_;refine kK ?_;refine Yy tok growO rfl rfl (by kernel_rfl) ?_;simp only[go_sem,simprocAttr,growO];refine⟨⟨om,Zn om,om⟩,e,?_⟩;repeat refine kn rfl ?_
  refine ZJ (ZbB (tm':=[(0,.msl 1 n 22 0)]) (j:=22) (m:=0) e (Us _) rfl ?_ ?_ ?_) ?_
  ·intro x f;simp only[flat,QI]at f;obtain⟨y,s,f⟩:=f;rw[(Ue.1 s).2]at f;simp only[AV.cells,Qo]at f;rw[f];exact .str _
  ·intro p d;simp only[Qo]at d;subst d;exact .inr ⟨1,1,rfl,rfl⟩
  ·intro p d;cases d
  simp only[go_sem,simprocAttr,Gp,Qam];refine gh ?_;refine Wi 22 l q (.Zg 9 1 [] 0) [(4,.msl 1 l q 0)] h b rfl ?_ ?_ ?_ ?_
  ·exact⟨fun a k=>(by cases k),fun p d=>(by cases d)⟩
  ·exact⟨⟨.inr (.inr (.inr ⟨1,0,rfl⟩)),by simp[lkv,ren,Wk.refl]⟩,trivial⟩
  ·trivial
  refine nV ?_;refine⟨by simp[Y7],[.msl 1 l q 0],⟨.refl _,trivial⟩,by simp only[Qo,forall_eq];exact .msl _ _ _ _ h,rfl,rfl⟩
 ·have i:decide ((0:Int)<(c:Int))=false:=by simp;omega
  refine nFq i ?_;refine gh ?_;refine Jp 4 300 9 1 rfl rfl ?_;refine Wi 300 l q (.Zg 9 1 [] 0) [(4,.msl 1 l q 0)] h b rfl ?_ ?_ ?_ ?_
  ·exact⟨fun a k=>(by cases k),fun p d=>(by cases d)⟩
  ·exact⟨⟨.inr (.inr (.inr ⟨1,0,rfl⟩)),by simp[lkv,ren,Wk.refl]⟩,trivial⟩
  ·trivial
  refine nV ?_;refine⟨by simp[Y7],[.msl 1 l q 0],⟨.refl _,trivial⟩,by simp only[Qo,forall_eq];exact .msl _ _ _ _ h,rfl,rfl⟩
def ZvE(n:Nat)(a:List SS)(H:Za)(i:Nat):Zc:=
 ⟨[(11,.int .i64 i),(10,.int .i64 a.length),(9,.sl 1 (a.map eSs) .any),(3,.int .i64 (a.take i).flatten.length),(0,.sl 1 (a.map eSs) .any)],[],H⟩
def ZvF(n:Nat)(a:List SS)(H:Za)(i:Nat):Zc:=
 ⟨[(27,.int .i64 i),(26,.int .i64 a.length),(25,.sl 1 (a.map eSs) .any),(6,.msl 1 n 300 (a.take i).flatten.length)],[(300,.Zg 9 1 (YK (a.take i).flatten) (a.take i).flatten.length)],H⟩
def Jh{b:Type}(a:List (List b))(i:Nat)(h:i<a.length):(a.take (i+1)).flatten=(a.take i).flatten++a[i]:=by
 rw[Qn h,List.flatten_append];simp
def Wy{b:Type}(a:List (List b))(i:Nat):(a.take i).flatten.length<=a.flatten.length:=by
 conv=>rhs;rw[<-Q8 i a,List.flatten_append,Qh]
 omega
def j82(a:List SS)(hl:a.length<=1000000)(t:a.flatten.length<=1000000):Pure prog 174 [.sl 1 (a.map eSs) .any] (eSs a.flatten):=by
 intro n H;refine aF func174 fun B=>?_
 refine gz ?_;refine Zx (ZvE n a H) a.length rfl ?_ ?_
 ·exact KK
 intro i q;refine ZV rfl ?_;rcases Qd i a.length with h|h
 ·have e:=Jh a i h;have m:=Wy a (i+1);have k:(a.take (i+1)).flatten.length=(a.take i).flatten.length+a[i].length:=by rw[e,Qh]
  have l:IntKind.i64.wrap (((a.take i).flatten.length:Int)+(a[i].length:Int))=(((a.take (i+1)).flatten.length:Nat):Int):=by rw[k,iw];omega
  refine nr ?_;simp only[go_sem,simprocAttr,h];refine nT ?_;refine nq2 (getD_map eSs _ _ h) h ?_;refine nr ?_;simp only[go_sem,simprocAttr,eSs,l];refine nR ?_;have g:decide ((((a.take (i+1)).flatten.length:Nat):Int)<0)=false:=sm;refine nFq g ?_;refine gd ?_;exact KK
 ·have b:i=a.length:=om;subst b;refine nq (QC.2 h) ?_;refine gg ?_;refine nt0 ?_;refine YS (caps:=[]) (avs:=[.sl 1 [] .full,.int .i64 a.flatten.length]) rfl (Zf func242 rfl rfl) (j129 (n+1) _ n 300 a.flatten.length (Qq n) (by simp only[full,if_true];rfl) om) sS ?_;rintro r s ⟨rfl,rfl⟩;refine⟨[(300,.Zg 9 1 [] 0)],H,(Zm n _ H 300 _).symm,.refl _ _,?_⟩;refine aS ?_;refine gh ?_;refine Zx (ZvF n a H) a.length rfl ?_ ?_
  ·exact KK
  intro i q;refine ZV rfl ?_;rcases Qd i a.length with h|h
  ·have e:=Jh a i h;have m:=Wy a (i+1);have k:(a.take (i+1)).flatten.length=(a.take i).flatten.length+a[i].length:=by rw[e,Qh]
   have f:YK (a.take i).flatten++flat (a[i].map AV.str)=YK (a.take (i+1)).flatten:=by rw[show flat (a[i].map AV.str)=a[i].map AV.str from flat_aStrs _,e,YK,YK,QM]
   have c:∀y∈a[i].map AV.str,y.cells.all AV.one=true:=fun y o=>by obtain⟨u,_,rfl⟩:=Qg.1 o;rfl
   refine nq h ?_;refine nT ?_;refine nq2 (getD_map eSs _ _ h) h ?_;refine nr ?_;simp only[go_sem,simprocAttr,eSs,f,<-k];refine⟨⟨c,Zn om,om⟩,?_⟩;refine gd ?_;exact KK
  ·have b:i=a.length:=om;subst b;refine nq (QC.2 h) ?_;refine gg ?_;refine nt0 ?_;refine kK ?_;refine ZJ (YV (tm':=[(2,.sl 1 (YK a.flatten) .any)]) (j:=300) (YK a.flatten) rfl (flat_aStrs _) (by rw[YK,Qv]) (fun x hx=>by obtain⟨u,_,rfl⟩:=Qg.1 hx;rfl) (XA _).mem (fun p d=>?_) (fun p d=>?_)) ?_
   ·simp only[Qo]at d;subst d;exact .inr ⟨1,rfl,rfl⟩
   ·cases d
   refine nV ?_;exact Zb (.refl _) (ZfF n _) rfl
def nm_len:(∀t:Tm,(nmT t).length<=t.sz)/\ ∀l,(nmT.nms l).length<=Tm.sz.szs l:=by
 refine Zbh (fun k n s l ih=>?_) (Qi _) fun t r a b=>?_
 ·rw[nmT,Qh];simp only[Tm.sz];split<;>simp<;>omega
 ·rw[nmT.nms,Qh];simp only[Tm.sz.szs];omega
def Zk9{a:Type}(c:a->a->Int):∀l:List a,(X5 c l).length<=l.length
 |[]=>Qi _
 |x::l=>by
  have b:∀r:List a,(ZeB c x r).length<=r.length+1:=by
   intro r;induction r with
   |nil=>simp[ZeB]
   |cons y r ih=>unfold ZeB;split<;>(try split)<;>simp only[Qm]<;>omega
  have d:=Zk9 c l;have e:=b (X5 c l);show(ZeB c x (X5 c l)).length<=_;rw[Qm];omega
def ZeV(t:Tm):(Z8 t).length<=t.sz:=UA (Zk9 _ _) (nm_len.1 t)
def flatMap_vars_len:∀l:LT,(l.flatMap Z8).length<=Tm.sz.szs l
 |[]=>Qi _
 |t::r=>by
  have:=flatMap_vars_len r;have:=ZeV t;rw[Uk,Qh];simp only[Tm.sz.szs];omega
structure Sm (x:Lt):Prop where
 good:x.Good
 L:x.L.sz<=305
 R:x.R.sz<=305
 at_:Tm.sz.szs x.at_.args<=305
def Jd(x:Lt):LT:=if x.kind=2 then [x.L,x.R]else x.at_.args
def Sm.tv{x:Lt}(h:Sm x):(∀t∈Jd x,t.Good/\t.sz<=305)/\(Jd x).length<=305/\(ZX x).length<=610:=by
 unfold Jd ZX;have b:=h.L;have c:=h.R;have d:=h.at_;split
 ·refine⟨fun t a=>?_,sm,?_⟩
  ·simp only[Ql,QA,or_false]at a;rcases a with rfl|rfl
   ·exact⟨h.good.L,h.L⟩
   ·exact⟨h.good.R,h.R⟩
  ·have:=flatMap_vars_len [x.L,x.R];simp only[Tm.sz.szs]at this;omega
 ·refine⟨fun t a=>⟨h.good.at_.arg a,by have:=Tm.ZeT a;omega⟩,by have:=Tm.sz_len x.at_.args;omega,by have:=flatMap_vars_len x.at_.args;omega⟩
def ZwX(l:LT)(a:∀t∈l,t.Good/\t.sz<=305):Zfn 69 [] Tm.enc eSs l Z8:=
 ⟨⟨_,_,Zf func69 rfl rfl⟩,fun t b=>Abs.Pure.tabs (j56 t (a t b).1 (by have:=nm_len.1 t;have:=(a t b).2;omega)),fun _=>trivial⟩
def j41(x:Lt)(hx:Sm x):Yb prog 81 [x.enc] (eSs (ZX x)):=by
 intro n H hn hT;obtain⟨f,i,g⟩:=hx.tv;have e:ZX x=((Jd x).map Z8).flatten:=by rw[ZX,Jd,List.flatMap_def]
 have ha:=j83 (Jd x) om 69 [] Z8 (ZwX _ f);rw[e]at g⊢;have h:=j82 ((Jd x).map Z8) (by simp;omega) om;refine aF func81 fun B=>?_
 refine gz ?_;refine Zah ⟨[(3,.sl 4 ((Jd x).map Tm.enc) .any)],[],H⟩ ?_ ?_
 ·by_cases a:x.kind=2
  ·have b:(x.kind==2)=true:=by simp[a]
   have c:Jd x=[x.L,x.R]:=by rw[Jd,if_pos a]
   rw[c];refine nTq b ?_;refine nR ?_;refine⟨rfl,?_⟩;refine nN ?_;refine⟨rfl,?_⟩;apply kZ;repeat' first|apply q0|exact xx|apply aI
   all_goals first|exact .any _ _ _|(simp only[go_sem,simprocAttr];exact .any _ _ _)|exact(Zl (fun y d=>by simp only[Ql,QA,or_false]at d;rcases d with rfl|rfl<;>exact Tm.blw n _)).inside|skip
  ·have b:(x.kind==2)=false:=by simp[a]
   have c:Jd x=x.at_.args:=by rw[Jd,if_neg a]
   rw[c];refine nFq b ?_;refine nN ?_;refine⟨rfl,?_⟩;exact KK
 refine nR ?_;refine cT (ha) ?_;refine cP (h) ?_;refine nV ?_;exact Zb (.refl _) (ZfF n _) rfl
def tinyT:Tm->Bool
 | .mk k n s l=>decide (s.length<=100)&&decide (0<=k/\k<=255)&&decide (-1000<=n/\n<=1000)&&decide (l.length<=100)&&tinys l
where tinys:LT->Bool
 |[]=>true
 |t::r=>tinyT t&&tinys r
mutual
def tiny_nm:∀t:Tm,tinyT t=true->Tm.Nm t
 | .mk k n s l,h=>by
  simp only[tinyT,Qb,decide_eq_true_eq]at h;exact .mk _ _ _ _ om h.1.1.1.2 om om (tinys_nm l h.2)
def tinys_nm:∀l:LT,tinyT.tinys l=true-> ∀u∈l,Tm.Nm u
 |[],_,u,hu=>by cases hu
 |t::r,h,u,hu=>by
  simp only[tinyT.tinys,Qb]at h;rcases Ql.1 hu with e|hu
  ·rw[e];exact tiny_nm t h.1
  ·exact tinys_nm r h.2 u hu
end
def Zio(x:Lt):Bool:=tinyT x.L&&tinyT x.R&&tinyT.tinys x.at_.args&&decide (x.at_.pred.length<=100)&&decide (x.L.sz<=300/\x.R.sz<=300/\Tm.sz.szs x.at_.args<=300)&&decide (0<=x.op/\x.op<=255)
def Zsr{x:Lt}(h:Zio x=true):Sm x/\0<=x.op/\x.op<=255:=by
 simp only[Zio,Qb,decide_eq_true_eq]at h;obtain⟨⟨⟨⟨⟨c,b⟩,d⟩,e⟩,f⟩,a⟩:=h;exact⟨⟨⟨⟨om,by simp only[Am.sz];omega,tinys_nm _ d⟩,⟨om,tiny_nm _ c⟩,⟨om,tiny_nm _ b⟩⟩,om,om,om⟩,a⟩
def ZcB{t:Tm}(h:tinyT t=true)(a:t.sz<=300):t.Good:=⟨om,tiny_nm _ h⟩
def Zin(a:Am):Bool:=tinyT.tinys a.args&&decide (a.pred.length<=100)&&decide (Tm.sz.szs a.args<=300)
def ZfP{a:Am}(h:Zin a=true):a.Good:=by
 simp only[Zin,Qb,decide_eq_true_eq]at h;exact⟨om,by simp only[Am.sz];omega,tinys_nm _ h.1.1⟩
def dTm:Nat->AV->Tm
 |d+1,.agg [.int _ k,.int _ n,.str s,.sl _ xs _]=>.mk k n s (xs.map (dTm d))
 |_,_=>.mk 0 0 [] []
def dSl{a:Type}(f:AV->a):AV->List a
 | .sl _ xs _=>xs.map f
 |_=>[]
def dAm:AV->Am
 | .agg [.str p,.sl _ xs _]=>⟨p,xs.map (dTm 20)⟩
 |_=>⟨[],[]⟩
def dLt:AV->Lt
 | .agg [.int _ k,.bool g,.str p,.sl _ xs _,.int _ op,.int _ lk,.int _ ln,.str ls,.sl _ la _,.int _ rk,.int _ rn,.str rs,.sl _ ra _]=>
  ⟨k,g,⟨p,xs.map (dTm 20)⟩,op,.mk lk ln ls (la.map (dTm 20)),.mk rk rn rs (ra.map (dTm 20))⟩
 |_=>⟨0,false,⟨[],[]⟩,0,.mk 0 0 [] [],.mk 0 0 [] []⟩
def dBd:AV->Bs×Tm
 | .agg [.str s,.int _ k,.int _ n,.str m,.sl _ xs _]=>(s,.mk k n m (xs.map (dTm 20)))
 |_=>([],.mk 0 0 [] [])
def dSt:AV->Bs
 | .str s=>s
 |_=>[]
end Go.Proofs.YthajllbimoodjaaGreatDoor

namespace Go.Abs
open Go.Proofs.YthajllbimoodjaaGreatDoor
section
variable {S S':List Str}
def ZgE(h:∀n,n∈S↔n∈S')(l:List Str):Ve S l=Ve S' l:=by
 unfold Ve;congr 1
 funext n;exact decide_eq_decide.2 (h n)
def Zjq(h:∀n,n∈S↔n∈S'):XO S=XO S':=by
 funext x;unfold XO;simp only[ZgE h]
def ZkH(h:∀n,n∈S↔n∈S')(l:List Lt):Vs S l=Vs S' l:=by unfold Vs;rw[Zjq h]
def Zdv(h:∀n,n∈S↔n∈S'):X0 S=X0 S':=by funext x;unfold X0;rw[ZgE h]
def plG:Nat->List Str->List Lt->List (Stp×Lt)×List Str×List Lt
 |0,S,l=>([],S,l)
 |f+1,S,l=>match Vs S l with
  |none=>([],S,l)
  |some (s,x,r)=>let p:=plG f (ZO S (ZX x)) r;((s,x)::p.1,p.2)
def plG_planF:∀(f:Nat) (S S':List Str) (l:List Lt),(∀n,n∈S↔n∈S')->(plG f S l).1.map Prod.fst=(planF f S' l).1/\(∀n,n∈(plG f S l).2.1↔n∈(planF f S' l).2.1)/\(plG f S l).2.2=(planF f S' l).2.2
 |0,S,S',l,h=>⟨rfl,h,rfl⟩
 |f+1,S,S',l,h=>by
  unfold plG planF;rw[ZkH h l];cases Vs S' l with
  |none=>exact⟨rfl,h,rfl⟩
  |some p=>
   obtain⟨s,x,r⟩:=p;obtain⟨a,b,c⟩:=plG_planF f (ZO S (ZX x)) (S'++ZX x) r fun n=>by rw[Vw,Qr,h n]
   exact⟨by simp[a],b,c⟩
def Zg0{f:Lt->Option Stp}{s:Stp}:∀(l:List Lt) (i:Nat) (h:i<l.length),(∀j (h:j<l.length),j<i->f l[j]=none)->f l[i]=some s->ZaH f l=some (s,l[i],l.take i++l.drop (i+1))
 |x::r,0,h,_,e=>by
  simp only[Ui]at e;simp[ZaH,e]
 |x::r,i+1,h,hn,e=>by
  have a:=hn 0 sm om;simp only[Ui]at a;have:=Zg0 r i (by simpa using h) (fun j b c=>hn (j+1) (by simpa using b) om) e;simp[ZaH,a,this]
theorem Zbc{f:Lt->Option Stp}:∀(l:List Lt),(∀j (h:j<l.length),f l[j]=none)->ZaH f l=none
 |[],_=>rfl
 |x::r,hn=>by
  have a:=hn 0 sm;simp only[Ui]at a;have:=Zbc r (fun j b=>hn (j+1) (by simpa using b));simp[ZaH,a,this]
variable {s:Stp} {l:List Lt}
def ZoO(i:Nat)(h:i<l.length)(a:∀j (h:j<l.length),j<i->XO S l[j]=none)(e:XO S l[i]=some s):Vs S l=some (s,l[i],l.take i++l.drop (i+1)):=by
 unfold Vs;rw[Zg0 l i h a e];rfl
def Zmi(i:Nat)(h:i<l.length)(a:∀j (h:j<l.length),XO S l[j]=none)(b:∀j (h:j<l.length),j<i->Zay l[j]=none)(e:Zay l[i]=some s):Vs S l=some (s,l[i],l.take i++l.drop (i+1)):=by
 unfold Vs;rw[Zbc l a,Zg0 l i h b e];rfl
def Zqq(a:∀j (h:j<l.length),XO S l[j]=none)(b:∀j (h:j<l.length),Zay l[j]=none):Vs S l=none:=by
 unfold Vs;rw[Zbc l a,Zbc l b];rfl
def ZkS{x:Lt}{r:List Lt}{f:Nat}(h:Vs S l=some (s,x,r))(hf:l.length=f+1):plG l.length S l=((s,x)::(plG f (ZO S (ZX x)) r).1,(plG f (ZO S (ZX x)) r).2):=by
 rw[hf,plG,h]
theorem Zsc(h:Vs S l=none):plG l.length S l=([],S,l):=by
 cases l with
 |nil=>rfl
 |cons x r=>rw[Qm,plG,h]
end
end Go.Abs

namespace Go.Proofs.YthajllbimoodjaaGreatDoor
open Go.Abs
def ZdT{S:List Str}:∀{f c k:Nat},(∀j,j<k->newV (c+j)∈S)->newV (c+k)∉S->k<=f->Zfd S f c=c+k
 |0,c,k,_,_,hk=>by
  have:k=0:=om;subst this;rfl
 |f+1,c,0,_,h,_=>by rw[UC]at h;rw[Zfd,if_neg h];rfl
 |f+1,c,k+1,h1,h2,hk=>by
  have a:=h1 0 om;rw[UC]at a;rw[Zfd,if_pos a];have:=ZdT (S:=S) (f:=f) (c:=c+1) (k:=k) (fun j b=>by have:=h1 (j+1) om;rwa [show c+(j+1)=c+1+j by omega]at this) (by rwa [show c+(k+1)=c+1+k by omega]at h2) om;rw[this];omega
section
variable {k:Nat}
def Zcw{S:List Str}{c:Nat}(h:∀j,j<k->newV (c+j)∈S):k<=S.length:=by
 have g:((List.range k).map fun i=>newV (c+i)).length<=S.length:=by
  refine XV ?_ fun x l=>?_
  ·refine List.Pairwise.map _ (fun a b d e=>?_) Qbm;have:=Zqo e;omega
  ·obtain⟨i,f,rfl⟩:=Qg.1 l;exact h i (Gm.1 f)
 rwa [Qv,GK]at g
def Jj(d:Nat×Tm):AV:=.agg [.int .u8 2,.bool false,.str [],.sl 4 [] .full,.int .u8 1,.int .u8 3,.int .i64 0,.str (newV d.1),.sl 4 [] .full,.int .u8 d.2.kind,.int .i64 d.2.num,.str d.2.name,.sl 4 (d.2.args.map Tm.enc) .any]
structure FZs where
 n:Nat
 ds:List (Nat×Tm)
def fsH(H:Za)(l b m q:Nat)(s:FZs):Za:=(H.upd l q (.Zg 35 13 (flat (s.ds.map Jj)) s.ds.length)).upd l b (.box [.map l m,.int .i64 s.n,.msl 13 l q s.ds.length])
variable {l:Nat}
def Zpa(H:Za){l' k':Nat}(h:¬(l=l'/\k=k'))(x y:Ze):(H.upd l k x).upd l' k' y=(H.upd l' k' y).upd l k x:=by
 funext i j;simp only[Za.upd];by_cases a:i=l'/\j=k'<;>by_cases b:i=l/\j=k
 ·exact absurd ⟨b.1.symm.trans a.1,b.2.symm.trans a.2⟩ h
 ·rw[if_pos a,if_neg b,if_pos a]
 ·rw[if_neg a,if_pos b,if_pos b]
 ·rw[if_neg a,if_neg b,if_neg b,if_neg a]
section
variable {H:Za} {l b m q:Nat} {s:FZs}
def fsH_box:fsH H l b m q s l b=some (.box [.map l m,.int .i64 s.n,.msl 13 l q s.ds.length]):=Za.upd_same _ _ _ _
def Znw(h:b≠q):fsH H l b m q s l q=some (.Zg 35 13 (flat (s.ds.map Jj)) s.ds.length):=by
 unfold fsH;rw[Za.upd_ne _ _ om,Za.upd_same]
def ZlZ{c a:Nat}(d:¬(c=l/\a=b))(e:¬(c=l/\a=q)):fsH H l b m q s c a=H c a:=by
 unfold fsH;rw[Za.upd_ne _ _ d,Za.upd_ne _ _ e]
def ZrQ(h:b≠q)(s':FZs):((fsH H l b m q s).upd l q (.Zg 35 13 (flat (s'.ds.map Jj)) s'.ds.length)).upd l b (.box [.map l m,.int .i64 s'.n,.msl 13 l q s'.ds.length])=fsH H l b m q s':=by
 unfold fsH;rw[Zpa (H.upd l q (.Zg 35 13 (flat (s.ds.map Jj)) s.ds.length)) (l:=l) (k:=b) (l':=l) (k':=q) om,Za.Zaa,Za.Zaa]
def Zke(a:Nat):(fsH H l b m q s).upd l b (.box [.map l m,.int .i64 a,.msl 13 l q s.ds.length])=fsH H l b m q ⟨a,s.ds⟩:=by
 unfold fsH;rw[Za.Zaa]
def ZdJ{n:Nat}(h:l≠n)(L:List (Nat×Ze)):full n L (fsH H l b m q s)=fsH (full n L H) l b m q s:=by
 unfold fsH;rw[Yj _ _ _ _ _ _ h,Yj _ _ _ _ _ _ h]
end
variable {n:Nat}
def Zbd{P:Program}{T:TT}{t h:Nat}{v:AV}{s:Zc}{Q:AV->Za->Prop}(r:Zp)(l k a:Nat)(b:LA)(e:lkv s.tmps t= .ptr l k a)(c:full n s.L s.H l k=some (.box b))(g:T h=some r)
  (d:a+r.size<=b.length) (f:r.isAgg=false->a<b.length) (i:Wk (if r.isAgg then .agg ((b.drop a).take r.size)else(b.drop a).getD 0 .dead) v) (j:Below n v) (m:Q v s.H):
  PostF P T n [.cell t h] Q .ret s:=by
 refine⟨by simp only[Qo,forall_eq,Y7];exact⟨l,k,a,b,r,e,c,g,d,f⟩,[v],⟨?_,trivial⟩,by simpa using j,m⟩;simp only[Zbx,e,c,g];rw[if_pos ⟨d,f⟩];exact i
def Zg6(n:Nat)(d:Nat×Tm):Below n (Jj d):=Yt (by
 intro c a;simp only[Ql,QA,or_false]at a;rcases a with rfl|rfl|rfl|rfl|rfl|rfl|rfl|rfl|rfl|rfl|rfl|rfl|rfl
 all_goals first|exact .int _ _|exact .bool _|exact .str _|exact ZB _|exact YR (fun _ h=>by cases h) (fun _ _ e=>by cases e))
def Zeo{e:Nat}(ds:List (Nat×Tm)):Ze.Below n (.Zg e 13 (flat (ds.map Jj)) k):=⟨fun a ha=>by
 simp only[Ze.avs,flat,QI,Qg]at ha;obtain⟨_,⟨d,_,rfl⟩,ha⟩:=ha;have:=Zg6 n d;exact this.cells _ ha,by simp[Ze.at_]⟩
def Zjf{H:Za}{b m q:Nat}{s i:FZs}(h:l<n)(c:b≠q):ZL n (fsH H l b m q s) (fsH H l b m q i):=fun e g x j a=>by
 by_cases f:e=l/\g=b
 ·obtain⟨rfl,rfl⟩:=f;rw[fsH_box]at a;cases a;exact .inr (Ze.Zy ⟨.map _ _ h,.int _ _,.msl _ _ _ _ h,trivial⟩)
 ·by_cases d:e=l/\g=q
  ·obtain⟨rfl,rfl⟩:=d;rw[Znw c]at a;cases a;exact .inr (Zeo _)
  ·rw[ZlZ f d]at a⊢;exact .inl a
def Zxf(l:LT)(f:Nat)(a:LA)(b:LT)(n:Nat)(S:Nat->Za)(i:Nat):Zc:=
 ⟨[(10,.int .i64 i),(9,.int .i64 l.length),(8,.sl 4 (l.map Tm.enc) .any),(5,.sl 4 ((b.take i).map Tm.enc) (.buf n 200)),(1,.bfn (.func f) a)],[(200,.buf 25 4 i)],S i⟩
def ZuJ(n:Nat)(l:LT)(hl:l.length<=1000000)(f:Nat)(bs:LA)(m:Func)(c:Code)(k:Fun prog f m c)(a:LT)(t:a.length=l.length)(S:Nat->Za)
  (e:Below n (.bfn (.func f) bs)) (s:∀i (h:i<l.length) L,Zh prog (n+1) f (bs++[l[i].enc]) (full n L (S i)) fun r j=>r=(a[i]'om).enc/\j=full n L (S (i+1))) (b:∀i,i<l.length->ZL n (S i) (S (i+1))):
  Zh prog n 71 [.sl 4 (l.map Tm.enc) .any,.bfn (.func f) bs] (S 0) fun r o=>r= .sl 4 (a.map Tm.enc) .any/\o=S l.length:=by
 have hfi:∀q,Inside n q (.bfn (.func f) bs):=fun q=>e.inside
 have hxi:∀q,Inside n q (.sl 4 (l.map Tm.enc) .any):=fun q=>(ZB _).inside
 refine aF func71 fun B=>?_
 refine gz ?_;refine XL 5 200 25 4 rfl rfl ?_;refine Zx (Zxf l f bs a n S) l.length rfl ?_ ?_
 ·exact KK
 intro i u;refine ZV rfl ?_;rcases Qd i l.length with h|h
 ·have d:(a.take i).length=i:=UG om;refine nq h ?_;refine nT ?_;refine nq2 (Tm.Zw _ _ h) h ?_;refine nR ?_;refine Zte (bs:=bs) (avs:=[l[i].enc]) rfl k (s i h _) sS ?_;rintro r j ⟨rfl,rfl⟩;refine⟨_,S (i+1),rfl,b i h,?_⟩;refine aq d ?_;refine⟨by first|exact⟨rfl,dc⟩|exact rfl,⟨Zn om,om⟩,?_⟩;refine gd ?_;apply kZ;repeat' first|apply q0|exact xx|apply aI
  ·refine aS ?_;rw[iw];exact .refl _
  ·simp only[go_sem,simprocAttr,Qn (show i<a.length by omega),QM];exact .refl _
  all_goals first|exact hfi _|exact hxi _|exact Tm.YF rfl
 ·refine nq (QC.2 h) ?_;refine gg ?_;have g:i=l.length:=om;subst g;have p:a.take l.length=a:=Ud om;refine nq p ?_;refine nV ?_;refine Zq ?_ (ZB _) ⟨rfl,rfl⟩;refine aS ?_;exact .any _ _ _
def ZbU(S:List Str):∀(p q:LT) (c:Nat),flT.flTs S (p++q) c=((flT.flTs S p c).1++(flT.flTs S q (flT.flTs S p c).2.1).1,(flT.flTs S q (flT.flTs S p c).2.1).2.1,(flT.flTs S p c).2.2++(flT.flTs S q (flT.flTs S p c).2.1).2.2)
 |[],q,c=>by simp[flT.flTs]
 |t::p,q,c=>by
  have:=ZbU S p q (flT S t c).2.1;simp only[QN,flT.flTs,this,Q5]
def ZhU(S:List Str)(l:LT)(c i:Nat)(h:i<l.length):flT.flTs S (l.take (i+1)) c=((flT.flTs S (l.take i) c).1++[(flT S l[i] (flT.flTs S (l.take i) c).2.1).1],(flT S l[i] (flT.flTs S (l.take i) c).2.1).2.1,(flT.flTs S (l.take i) c).2.2++(flT S l[i] (flT.flTs S (l.take i) c).2.1).2.2):=by
 rw[Qn h,ZbU];simp[flT.flTs]
def Znt(S:List Str)(l:LT)(c i:Nat)(h:i<l.length)(g:i<(flT.flTs S l c).1.length):(flT.flTs S l c).1[i]=(flT S l[i] (flT.flTs S (l.take i) c).2.1).1:=by
 have e:flT.flTs S l c=flT.flTs S (l.take (i+1)++l.drop (i+1)) c:=by rw[Q8]
 have b:=ZbU S (l.take (i+1)) (l.drop (i+1)) c;have f:=ZhU S l c i h;have a:(flT.flTs S (l.take i) c).1.length=i:=by rw[ZbV,QJ];omega
 have d:(flT.flTs S l c).1=(flT.flTs S (l.take i) c).1++[(flT S l[i] (flT.flTs S (l.take i) c).2.1).1]++(flT.flTs S (l.drop (i+1)) (flT.flTs S (l.take (i+1)) c).2.1).1:=by
  rw[e,b,f]
 simp only[d];rw[Gx (by simp[a]),List.getElem_append_right om];simp
def ZkG(S:List Str):∀f n,Zfd S f n<=n+f
 |0,n=>Qi _
 |f+1,n=>by
  have:=ZkG S f (n+1);unfold Zfd;split<;>omega
def Zc6(S:List Str):(∀t c,(flT S t c).2.1<=c+t.sz*(S.length+2)/\(flT S t c).2.2.length<=t.sz)/\ ∀l c,(flT.flTs S l c).2.1<=c+Tm.sz.szs l*(S.length+2)/\(flT.flTs S l c).2.2.length<=Tm.sz.szs l:=by
 refine Zbh (fun k n s l ih c=>?_) (fun c=>by simp[flT.flTs,Tm.sz.szs]) fun t r e d c=>?_
 ·have b:=(Tm.mk k n s l).Zdk;by_cases a:k=5\/k=6
  ·rw[ZbT a];have:=ZkG S (S.length+1) (c+1);have h:1*(S.length+2)<=(Tm.mk k n s l).sz*(S.length+2):=QF _ b;refine⟨?_,by simpa using b⟩;show Zfd S (S.length+1) (c+1)<=_;omega
  ·rw[ZbS a];have:=ih c;simp only[Tm.sz,Q9];exact⟨by have:=this.1;omega,by have:=this.2;omega⟩
 ·have f:=e c;have g:=d (flT S t c).2.1;simp only[flT.flTs,Tm.sz.szs,Qh,Q9];omega
def ZhT(S:List Str)(l:LT)(c i:Nat):(flT.flTs S (l.take i) c).2.1<=c+Tm.sz.szs (l.take i)*(S.length+2)/\(flT.flTs S (l.take i) c).2.2.length<=Tm.sz.szs (l.take i):=(Zc6 S).2 _ _
def Zo8(t:Tm)(n l b m q c k:Nat)(a:List (Nat×Tm))(H:Za):Zc:=
 ⟨[(4,.ptr n 4 0),(3,.ptr n 3 0),(0,.ptr l b 0)],[(3,.box t.cs),(4,.box [.int .u8 0,.int .i64 0,.str [],.sl 4 [] .full])],fsH H l b m q ⟨c+1+k,a⟩⟩
def flO:Opt:=⟨true,false,fun d=>if d=64 then .heap else .auto,[]⟩
def J7(S:List Str)(l:LT)(s:FZs)(i:Nat):FZs:=⟨(flT.flTs S (l.take i) s.n).2.1,s.ds++(flT.flTs S (l.take i) s.n).2.2⟩
def fsT(S:List Str)(t:Tm)(s:FZs):FZs:=⟨(flT S t s.n).2.1,s.ds++(flT S t s.n).2.2⟩
def ZhX(S:List Str)(l:LT)(s:FZs):J7 S l s 0=s:=by simp[J7,flT.flTs]
def ZhW(S:List Str)(l:LT)(s:FZs)(i:Nat)(h:i<l.length):J7 S l s (i+1)=fsT S l[i] (J7 S l s i):=by
 unfold J7 fsT;rw[ZhU S l s.n i h];simp
structure Zm4 (S:List Str) (s:FZs) (k:Nat):Prop where
 sl:S.length<=100000
 n:s.n+k*(S.length+2)<=1000000000
 d:s.ds.length+k<=900000
def Tabs.fs{H:Za}{b m q:Nat}{s:FZs}(h:Tabs H)(a:0<l):Tabs (fsH H l b m q s):=h.up fun k=>ZlZ om om
def ZwY(S:List Str)(t:Tm)(ht:t.Good)(n:Nat)(H:Za)(l b m q:Nat)(s:FZs)(hl:l<n)(P:0<l)(v:b≠q)(U:b≠m)(ay:m≠q)(y:H l m=some (.map (encS S)))(hn:0<n)(hT:Tabs H)(I:Zm4 S s t.sz)
  (hc:∀u∈t.args,∀(n':Nat) (O:Za) (N:FZs),l<n'->O l m=some (.map (encS S))->Tabs O->Zm4 S N u.sz->Zh prog n' 72 [.ptr l b 0,u.enc] (fsH O l b m q N) fun r p=>r=(flT S u N.n).1.enc/\p=fsH O l b m q (fsT S u N)):
  Zh prog n 72 [.ptr l b 0,t.enc] (fsH H l b m q s) fun r p=>r=(flT S t s.n).1.enc/\p=fsH H l b m q (fsT S t s):=by
 have a:¬l=n:=om;have F:fsH H l b m q s l b=some (.box [.map l m,.int .i64 s.n,.msl 13 l q s.ds.length]):=fsH_box;refine aF func72 fun B=>?_
 refine nR ?_;have Y:=t.Zdk;by_cases hk:t.kind=5\/t.kind=6
 ·have f:s.n+(S.length+2)<=1000000000:=by
   have X:=I.n;have h2:1*(S.length+2)<=t.sz*(S.length+2):=QF _ Y;omega
  have aw:s.ds.length+1<=900000:=by have:=I.d;omega
  have g:flT S t s.n=(.mk 3 0 (newV (Ws S s.n)) [],Ws S s.n,[(Ws S s.n,t)]):=by
   cases t;exact ZbT hk
  have W:fsT S t s=⟨Ws S s.n,s.ds++[(Ws S s.n,t)]⟩:=by unfold fsT;rw[g]
  rw[W,g];have R:IntKind.i64.wrap ((s.n:Int)+1)=((s.n+1:Nat):Int):=by rw[iw];omega
  have K:AKc ⟨prog,tt,⟨none,B⟩,n,Tryz.f72.ntmps⟩ [.code (Zz Tryz.f72).snd.snd.snd] (PostF prog tt n Tryz.f72.results.toList fun r p=>r=(Tm.mk 3 0 (newV (Ws S s.n)) []).enc/\p=fsH H l b m q ⟨Ws S s.n,s.ds++[(Ws S s.n,t)]⟩) (Zo8 t n l b m q s.n 0 s.ds H):=by
   refine kK ?_;refine Zap (fun M st=>∃k,k<=S.length/\M=S.length+1 - k/\(∀j,j<k->newV (s.n+1+j)∈S)/\st=Zo8 t n l b m q s.n k s.ds H) (m0:=S.length+1) (s0:=Zo8 t n l b m q s.n 0 s.ds H) rfl (AWk.refl _ _ _) ⟨0,Us _,rfl,fun j hj=>absurd hj (Qj _),rfl⟩ ?_;rintro M st ⟨k,az,rfl,D,rfl⟩;refine ZV rfl ?_;have c:fsH H l b m q ⟨s.n+1+k,s.ds⟩ l b=some (.box [.map l m,.int .i64 ((s.n+1+k:Nat):Int),.msl 13 l q s.ds.length]):=fsH_box;have hT:Tabs (fsH H l b m q ⟨s.n+1+k,s.ds⟩):=Tabs.fs hT P;refine nD drawO ?_;refine aq2 a c ?_;refine cT (Zrt ((s.n+1+k:Nat):Int) om om) ?_;have av:=Lib.itoa_length_le ((s.n+1+k:Nat):Int) om om;have A:∀L,full n L (fsH H l b m q ⟨s.n+1+k,s.ds⟩) l m=some (.map (encS S)):=fun L=>by
    rw[Zi hl,ZlZ (fun e=>U e.2.symm) (fun e=>ay e.2)];exact y
   refine⟨om,rfl,?_⟩;refine ZjT (Zf func88 rfl rfl) (Zh.args (j48 (n+1) _ l m om S [newV (s.n+1+k)] sm (A _)) (args':=[.map l m,.sl 1 [.str (newV (s.n+1+k))] .full]) ⟨.refl _,.any _ _ _,trivial⟩) (by simp only[go_sem,simprocAttr];rfl) ?_;have hh:Ve S [newV (s.n+1+k)]=decide (newV (s.n+1+k)∈S):=by simp[Ve]
   by_cases hx:newV (s.n+1+k)∈S
   ·have J:∀j,j<k+1->newV (s.n+1+j)∈S:=fun j hj=>by
     rcases Qd j k with h|h
     ·exact D j h
     ·have:j=k:=om;subst this;exact hx
    have Z:=Zcw J;have V:IntKind.i64.wrap (((s.n+1+k:Nat):Int)+1)=((s.n+1+(k+1):Nat):Int):=by rw[iw];omega
    rw[hh,decide_eq_true hx];simp only[go_sem,simprocAttr];refine gH ?_;simp only[go_sem,simprocAttr,a,c,V,Zke];refine⟨.inr (Ze.Zy ⟨.map _ _ hl,.int _ _,.msl _ _ _ _ hl,trivial⟩),?_⟩;refine nN ?_;refine⟨S.length+1 - (k+1),Zo8 t n l b m q s.n (k+1) s.ds H,om,?_,k+1,Z,rfl,J,rfl⟩;unfold Zo8;exact KK
   ·have ax:Ws S s.n=s.n+1+k:=by
     unfold Ws;exact ZdT D hx om
    rw[hh,decide_eq_false hx,ax];refine aS ?_;refine gg ?_;refine nq2 a c ?_;refine cT (Zrt ((s.n+1+k:Nat):Int) om om) ?_;refine⟨om,?_⟩;have hbuf:fsH H l b m q ⟨s.n+1+k,s.ds⟩ l q=some (.Zg 35 13 (flat (s.ds.map Jj)) s.ds.length):=Znw v;have z:(s.ds++[(s.n+1+k,t)]).length=s.ds.length+1:=sm;have o:=ZrQ (H:=H) (l:=l) (m:=m) (s:=⟨s.n+1+k,s.ds⟩) v ⟨s.n+1+k,s.ds++[(s.n+1+k,t)]⟩;have w:flat ((s.ds++[(s.n+1+k,t)]).map Jj)=flat (s.ds.map Jj)++flat [Jj (s.n+1+k,t)]:=by rw[QM,YJ];rfl
    rw[z]at o;rw[w]at o;refine nD flO ?_;simp only[go_sem,simprocAttr,flO,a,c,hbuf];refine Znb (Zf func70 rfl rfl) (j49 t ht) hn hT sS ?_;have Q:∀x,(fsH H l b m q ⟨s.n+1+k,s.ds⟩).upd l q x l b=some (.box [.map l m,.int .i64 ((s.n+1+k:Nat):Int),.msl 13 l q s.ds.length]):=fun x=>by
     rw[Za.upd_ne _ _ om];exact c
    simp only[go_sem,simprocAttr,flO,a,c,hbuf,Q];have C:=Zeo (n:=n) (e:=35) (k:=s.ds.length+1) (s.ds++[(s.n+1+k,t)]);rw[w]at C;refine⟨rfl,⟨Zn om,om⟩,.inr C,.inr (Ze.Zy ⟨.map _ _ hl,.int _ _,.msl _ _ _ _ hl,trivial⟩),?_⟩;refine ge ?_;refine Zbd _ n 4 0 [.int .u8 3,.int .i64 0,.str (newV (s.n+1+k)),.sl 4 [] .full] sS (by simp only[go_sem,simprocAttr,full];rfl) rfl (Qi _) sS ?_ (Tm.blw _ _) ⟨rfl,o⟩;rw[Tm.ZbN];exact .deep (.ZlK ⟨.refl _,.refl _,.refl _,.nil _ _ _,trivial⟩)
  have go:AKc ⟨prog,tt,⟨none,B⟩,n,Tryz.f72.ntmps⟩ [.code (Zz Tryz.f72).snd.snd.fst,.code (Zz Tryz.f72).snd.snd.snd] (PostF prog tt n Tryz.f72.results.toList fun r p=>r=(Tm.mk 3 0 (newV (Ws S s.n)) []).enc/\p=fsH H l b m q ⟨Ws S s.n,s.ds++[(Ws S s.n,t)]⟩) ⟨[(4,.ptr n 4 0),(3,.ptr n 3 0),(0,.ptr l b 0)],[(3,.box t.cs),(4,.box [.int .u8 0,.int .i64 0,.str [],.sl 4 [] .full])],fsH H l b m q s⟩:=by
   refine nr ?_;simp only[go_sem,simprocAttr,a,F,R,Zke];refine⟨.inr (Ze.Zy ⟨.map _ _ hl,.int _ _,.msl _ _ _ _ hl,trivial⟩),?_⟩;refine ZJ ?_ K;unfold Zo8;exact KK
  rcases hk with hk|hk
  ·have G:(t.kind !=5)=false:=by simp;omega
   refine nq G ?_;refine gu ?_;refine ZJ ?_ go;exact KK
  ·have G:(t.kind !=5)=true:=by simp;omega
   have k6:(t.kind !=6)=false:=by simp;omega
   refine nq2 G k6 ?_;refine gu ?_;refine ZJ ?_ go;exact KK
 ·have G:(t.kind !=5)=true:=by simp;omega
  have k6:(t.kind !=6)=true:=by simp;omega
  have g:flT S t s.n=(.mk t.kind t.num t.name (flT.flTs S t.args s.n).1,(flT.flTs S t.args s.n).2.1,(flT.flTs S t.args s.n).2.2):=by
   cases t;exact ZbS hk
  have E:J7 S t.args s t.args.length=fsT S t s:=by unfold J7 fsT;rw[QV,g]
  have f:∀i (h:i<t.args.length),Zm4 S (J7 S t.args s i) t.args[i].sz:=fun i h=>by
   have X:=ZhT S t.args s.n i;have h2:=Zll t.args i h;have h3:=Zfj t.args (i+1);have h4:=t.ZnZ;have h5:(Tm.sz.szs (t.args.take i)+t.args[i].sz)*(S.length+2)<=t.sz*(S.length+2):=QF _ om;rw[Q9]at h5;refine⟨I.sl,?_,?_⟩
   ·have:=I.n;simp only[J7];omega
   ·have:=I.d;simp only[J7,Qh];omega
  rw[g];refine nq2 G k6 ?_;refine gi ?_;obtain⟨L,hL⟩:∃L:List (Nat×Ze),L=[(3,.box [.int .u8 t.kind,.int .i64 t.num,.str t.name,.sl 4 (t.args.map Tm.enc) .any]),(4,.box [.int .u8 0,.int .i64 0,.str [],.sl 4 [] .full])]:=⟨_,rfl⟩
  rw[<-hL];refine YS (caps:=[]) (avs:=[.sl 4 (t.args.map Tm.enc) .any,.bfn (.func 72) [.ptr l b 0]]) (Qc:=fun r p=>r= .sl 4 ((flT.flTs S t.args s.n).1.map Tm.enc) .any/\p=full n L (fsH H l b m q (J7 S t.args s t.args.length))) rfl (Zf func71 rfl rfl) (by
   rw[Qu];have he:=ZuJ (n+1) t.args ht.len 72 [.ptr l b 0] _ _ (Zf func72 rfl rfl) (flT.flTs S t.args s.n).1 (ZbV S t.args s.n) (fun i=>full n L (fsH H l b m q (J7 S t.args s i))) ?_ ?_ ?_
   ·have h0:full n L (fsH H l b m q (J7 S t.args s 0))=full n L (fsH H l b m q s):=by rw[ZhX]
    simp only[h0]at he;exact he
   ·exact .bfn _ _ fun i hi=>by
     simp only[Qm,Qz]at hi;have:i=0:=om;subst this;exact .ptr _ _ _ om
   ·intro i h L';have X:=hc t.args[i] (Qa h) (n+1+1) (full (n+1) L' (full n L H)) (J7 S t.args s i) om (by rw[Zi om,Zi om];exact y) ((hT.full hn).full om) (f i h);simp only[ZdJ (show l≠n+1 by omega),ZdJ (show l≠n by omega),ZhW S t.args s i h];rw[Znt S t.args s.n i h (by rw[ZbV];exact h)];exact X
   ·intro i h;simp only[ZdJ (show l≠n by omega)];exact Zjf om v) sS ?_
  rintro r p ⟨rfl,rfl⟩;refine⟨L,fsH H l b m q (J7 S t.args s t.args.length),rfl,Zjf hl v,?_⟩;rw[hL,E];refine aS ?_;refine ge ?_;refine Zbd _ n 4 0 (Tm.mk t.kind t.num t.name (flT.flTs S t.args s.n).1).cs sS (by simp only[go_sem,simprocAttr,full];rfl) rfl (Qi _) sS ?_ (Tm.blw _ _) ⟨rfl,rfl⟩;rw[Tm.Zc3];exact .refl _
def j71(S:List Str)(l b m q:Nat)(d:0<l)(a:b≠q)(e:b≠m)(f:m≠q)(t:Tm)(h:t.Good)(n:Nat)(H:Za)(s:FZs)(o:l<n)(c:H l m=some (.map (encS S)))(w:Tabs H)(x:Zm4 S s t.sz):
  Zh prog n 72 [.ptr l b 0,t.enc] (fsH H l b m q s) fun r k=>r=(flT S t s.n).1.enc/\k=fsH H l b m q (fsT S t s):=
 ZwY S t h n H l b m q s o d a e f c om w x fun u g i A j y p z v=>j71 S l b m q d a e f u (h.arg g) i A j y p z v
termination_by SizeOf.sizeOf t
decreasing_by exact Tm.Xp g
end
def Zmj(S:List Str)(c:Nat):∃k,k<=S.length/\(∀j,j<k->newV (c+1+j)∈S)/\newV (c+1+k)∉S:=by
 have a:∀f k,f+k=S.length+1->(∀j,j<k->newV (c+1+j)∈S)-> ∃k,k<=S.length/\(∀j,j<k->newV (c+1+j)∈S)/\newV (c+1+k)∉S:=by
  intro f;induction f with
  |zero=>intro k e h;have:=Zcw h;omega
  |succ f ih=>
   intro k e h;by_cases d:newV (c+1+k)∈S
   ·refine ih (k+1) om fun j b=>?_
    rcases Qd j k with h'|h'
    ·exact h j h'
    ·have:j=k:=om;subst this;exact d
   ·exact⟨k,Zcw h,h,d⟩
 exact a (S.length+1) 0 om fun j b=>absurd b (Qj _)
section
variable {S T:List Str}
def ZkI(h:∀x,x∈S↔x∈T)(c:Nat):Ws S c=Ws T c:=by
 obtain⟨k,i,d,e⟩:=Zmj S c;have a:∀j,j<k->newV (c+1+j)∈T:=fun j f=>(h _).1 (d j f)
 have b:newV (c+1+k)∉T:=fun g=>e ((h _).2 g)
 unfold Ws;rw[ZdT d e om,ZdT a b (by have:=Zcw a;omega)]
def ZoA(h:∀x,x∈S↔x∈T):(∀t c,flT S t c=flT T t c)/\ ∀l c,flT.flTs S l c=flT.flTs T l c:=by
 refine Zbh (fun k n s l ih c=>?_) (fun c=>rfl) fun t r d b c=>?_
 ·by_cases a:k=5\/k=6
  ·rw[ZbT a,ZbT a,ZkI h]
  ·rw[ZbS a,ZbS a,ih c]
 ·simp only[flT.flTs,d c,b]
def ZoB(h:∀x,x∈S↔x∈T)(x:Lt)(c:Nat):flX S x c=flX T x c:=by
 unfold flX;rw[(ZoA h).2]
theorem Zeu{S T:List Str}(h:∀x,x∈S↔x∈T):∀(l:List Lt) (c:Nat),flL S l c=flL T l c
 |[],_=>rfl
 |x::r,c=>by rw[flL,flL,ZoB h,Zeu h]
def Zaq(S:List Str):List Lt->Nat->Nat
 |[],c=>c
 |x::r,c=>Zaq S r (flX S x c).2
def Zgy(S:List Str):∀(p q:List Lt) (c:Nat),flL S (p++q) c=flL S p c++flL S q (Zaq S p c)/\Zaq S (p++q) c=Zaq S q (Zaq S p c)
 |[],q,c=>⟨rfl,rfl⟩
 |x::p,q,c=>by
  have:=Zgy S p q (flX S x c).2;simp only[QN,flL,Zaq,this,Q5,and_self]
def ZpL(S:List Str)(l:List Lt)(c i:Nat)(h:i<l.length):flL S (l.take (i+1)) c=flL S (l.take i) c++(flX S l[i] (Zaq S (l.take i) c)).1/\Zaq S (l.take (i+1)) c=(flX S l[i] (Zaq S (l.take i) c)).2:=by
 rw[Qn h];obtain⟨a,b⟩:=Zgy S (l.take i) [l[i]] c;rw[a,b];simp[flL,Zaq]
def Sm.len{x:Lt}(h:Sm x):x.at_.args.length<=305:=by have:=Tm.sz_len x.at_.args;have:=h.at_;omega
def ZrL{x:Lt}(h:Sm x)(c:Nat):(flX S x c).2<=c+305*(S.length+2)/\(flX S x c).1.length<=306:=by
 have a:=h.at_;unfold flX;split
 ·have:=(Zc6 S).2 x.at_.args c;have b:Tm.sz.szs x.at_.args*(S.length+2)<=305*(S.length+2):=QF _ a;simp only[Qm,Qv];omega
 ·simp
def ZiO{S:List Str}:∀{l:List Lt},(∀x∈l,Sm x)-> ∀c,Zaq S l c<=c+l.length*(305*(S.length+2))/\(flL S l c).length<=l.length*306
 |[],_,c=>by simp[Zaq,flL]
 |x::r,h,c=>by
  have d:=ZrL (S:=S) (h x sm) c;have b:=ZiO (S:=S) (l:=r) (fun y a=>h y (by simp[a])) (flX S x c).2;simp only[Zaq,flL,Qh,Qm,Q9,QaW];omega
def Zag(l:List Lt)(a:List Str):List Str:=ZO (ZO [] a) (l.flatMap fun x=>(XE x).flatMap Z8)
def Zka(l:List Lt)(a:List Str):flL (Zag l a) l 0=Vr l a:=by
 unfold Vr;refine Zeu (fun x=>?_) l 0;rw[Zag,Vw,Vw];simp
end
def Jg(S p q:List Str):ZO S (p++q)=ZO (ZO S p) q:=by unfold ZO;rw[Gz]
section
variable {S:List Str}
def Zna{cx:Cx}(c:cx.P=prog){o:Oper}{args:List Operand}{b:List TypeId}{tm:LN}{L:List (Nat×Ze)}{H:Za}{k:Nat}{xs:List Str}{K:Zc->Prop}(a:xs.length<=1000000)(hk:lkb L k=some (.map (encS S)))
  (ha:Yo cx.T (evT tm) args b=[.map cx.n k,.sl 1 (YK xs) .any]) (h:K ⟨Yf tm o.dst (.tup []),setb L k (.map (encS (ZO S xs))),H⟩):ZfY cx o (.func 68) args b ⟨tm,L,H⟩ K:=by
 obtain⟨P,T,φ,n,N⟩:=cx;dsimp only at c ha h;subst c;refine⟨68,_,_,[],.tup [],setb L k (.map (encS (ZO S xs))),H,rfl,Zf func68 rfl rfl,?_,.refl _ _,h⟩;rw[Qu,ha,Zm];exact j40 (n+1) _ n k (Qq n) S xs a (by simp only[full,if_true];exact hk)
def flAO:Opt:=⟨true,true,fun d=>if d=48 then .call else .auto,[]⟩
def gAt(l:List Lt)(a:List Str)(i:Nat):List Str:=ZO (ZO [] a) ((l.take i).flatMap fun x=>(XE x).flatMap Z8)
def ZpT(l:List Lt)(a:List Str)(i:Nat)(h:i<l.length):gAt l a (i+1)=ZO (gAt l a i) ((XE l[i]).flatMap Z8):=by
 unfold gAt;rw[Qn h,Uz,Jg];simp
def Zvx(n:Nat)(l:List Lt)(a:List Str)(H:Za)(i:Nat):Zc:=
 ⟨[(24,.int .i64 i),(23,.int .i64 l.length),(22,.sl 13 (l.map Lt.enc) .any),(5,.ptr n 15 0),(0,.sl 13 (l.map Lt.enc) .any)],[(13,.map (encS (gAt l a i))),(15,.box [.map n 13,.int .i64 0,.sl 13 [] .full])],H⟩
def Zvy(n:Nat)(l:List Lt)(q:LT)(S:List Str)(i:Nat)(H:Za)(j:Nat):Zc:=
 ⟨[(38,.int .i64 j),(37,.int .i64 q.length),(36,.sl 4 (q.map Tm.enc) .any),(24,.int .i64 i),(23,.int .i64 l.length),(22,.sl 13 (l.map Lt.enc) .any),(5,.ptr n 15 0),(0,.sl 13 (l.map Lt.enc) .any)],[(13,.map (encS (ZO S ((q.take j).flatMap Z8)))),(15,.box [.map n 13,.int .i64 0,.sl 13 [] .full])],H⟩
variable {x:Lt}
def Sm.tx(h:Sm x):(∀t∈XE x,t.Good/\t.sz<=305)/\(XE x).length<=307:=by
 have a:=h.len;have b:=h.at_;refine⟨fun t ht=>?_,by simp[XE];omega⟩;simp only[XE,Ql]at ht;rcases ht with rfl|rfl|ht
 ·exact⟨h.good.L,h.L⟩
 ·exact⟨h.good.R,h.R⟩
 ·exact⟨h.good.at_.arg ht,by have:=Tm.ZeT ht;omega⟩
def flY(S:List Str)(x:Lt)(c:Nat):Lt:=⟨x.kind,x.neg,⟨x.at_.pred,if x.kind=1 then(flT.flTs S x.at_.args c).1 else x.at_.args⟩,x.op,x.L,x.R⟩
def flD(S:List Str)(x:Lt)(c:Nat):List (Nat×Tm):=if x.kind=1 then(flT.flTs S x.at_.args c).2.2 else []
def flN(S:List Str)(x:Lt)(c:Nat):Nat:=if x.kind=1 then(flT.flTs S x.at_.args c).2.1 else c
def ZiP(S:List Str)(x:Lt)(c:Nat):flX S x c=(flY S x c::(flD S x c).map Zao,flN S x c):=by
 unfold flX flY flD flN;split
 ·rfl
 ·rfl
def Zsk(S:List Str)(x:Lt)(c:Nat):LA:=(flY S x c).enc::(flD S x c).map Jj
def Vj(S:List Str):List Lt->Nat->LA
 |[],_=>[]
 |x::r,c=>Zsk S x c++Vj S r (flN S x c)
theorem Zff(S:List Str):∀(p q:List Lt) (c:Nat),Vj S (p++q) c=Vj S p c++Vj S q (Zaq S p c)
 |[],q,c=>rfl
 |x::p,q,c=>by
  have:=Zff S p q (flN S x c);have e:(flX S x c).2=flN S x c:=by rw[ZiP]
  simp only[QN,Vj,Zaq,e,this,Q5]
def Zo3(S:List Str)(l:List Lt)(c i:Nat)(h:i<l.length):Vj S (l.take (i+1)) c=Vj S (l.take i) c++Zsk S l[i] (Zaq S (l.take i) c):=by
 rw[Qn h,Zff];simp[Vj]
variable {n:Nat}
def ZqG{c:Nat}:∀v∈Zsk S x c,Below n v/\ones v=true/\v.cells.length=13:=fun v hv=>by
 rcases Ql.1 hv with rfl|hv
 ·exact⟨Lt.blw n _,rfl,rfl⟩
 ·obtain⟨d,_,rfl⟩:=Qg.1 hv;exact⟨Zg6 n d,rfl,rfl⟩
def Zk3{n:Nat}{S:List Str}:∀{l:List Lt} {c:Nat},∀v∈Vj S l c,Below n v/\ones v=true/\v.cells.length=13
 |[],_,v,hv=>by cases hv
 |x::r,c,v,hv=>by
  rcases Qr.1 hv with hv|hv
  ·exact ZqG v hv
  ·exact Zk3 v hv
def wkss_append:∀{p q r s:LA},ZcF p q->ZcF r s->ZcF (p++r) (q++s)
 |[],[],_,_,_,h=>h
 |_::_,_::_,_,_,h1,h2=>⟨h1.1,wkss_append h1.2 h2⟩
 |[],_::_,_,_,h,_=>h.elim
 |_::_,[],_,_,h,_=>h.elim
def Zsl(S:List Str)(x:Lt)(c:Nat):ZcF (Zsk S x c) ((flX S x c).1.map Lt.enc):=by
 rw[ZiP];refine⟨.refl _,?_⟩;generalize flD S x c=ds;induction ds with
 |nil=>trivial
 |cons d ds ih=>exact⟨.ZlK ⟨.refl _,.refl _,.refl _,.nil _ _ _,.refl _,.refl _,.refl _,.refl _,.nil _ _ _,.refl _,.refl _,.refl _,.refl _,trivial⟩,ih⟩
def Zjp(S:List Str):∀(l:List Lt) (c:Nat),ZcF (Vj S l c) ((flL S l c).map Lt.enc)
 |[],_=>trivial
 |x::r,c=>by
  have e:(flX S x c).2=flN S x c:=by rw[ZiP]
  rw[Vj,flL,QM,e];exact wkss_append (Zsl S x c) (Zjp S r _)
def ZqF(S:List Str)(l:List Lt)(c:Nat):(Vj S l c).length=(flL S l c).length:=by
 have:=(Zjp S l c).len;simpa using this.symm
def ZeE(S:List Str)(l:List Lt)(i:Nat):AV:=if i=0 then .sl 13 [] .full else match l[i - 1]? with
 |some x=>.sl 13 ((flD S x (Zaq S (l.take (i - 1)) 0)).map Jj) .any
 |none=>.sl 13 [] .any
def ZkE(S:List Str)(l:List Lt)(i:Nat)(h:i<l.length):ZeE S l (i+1)= .sl 13 ((flD S l[i] (Zaq S (l.take i) 0)).map Jj) .any:=by
 unfold ZeE;rw[if_neg om,show i+1 - 1=i by omega,Qe h]
def ZeO(a:List (Nat×Tm)):Below n (.sl 13 (a.map Jj) .any):=Zl fun x b=>by obtain⟨d,_,rfl⟩:=Qg.1 b;exact Zg6 n d
variable {p:Nat->Prop}
def Zmf(S:List Str)(l:List Lt)(i:Nat):Inside n p (ZeE S l i):=by
 unfold ZeE;split
 ·exact inZ
 ·split
  ·exact(ZeO _).inside
  ·exact(ZeO []).inside
def ZsT(n:Nat)(l:List Lt)(S:List Str)(H:Za)(i:Nat):Zc:=
 ⟨[(53,.int .i64 i),(52,.int .i64 l.length),(51,.sl 13 (l.map Lt.enc) .any),(10,.sl 13 (Vj S (l.take i) 0) (.buf n 201)),(5,.ptr n 15 0)],
  [(13,.map (encS S)),(15,.box [.map n 13,.int .i64 (Zaq S (l.take i) 0),ZeE S l i]),(201,.buf 35 13 (Vj S (l.take i) 0).length)],H⟩
def ZiV{l:List Lt}{c:Nat}(h:p 201):Inside n p (.sl 13 (Vj S l c) (.buf n 201)):=Abs.YF (fun x a=>(Zk3 x a).1) h
def Znx(a:List (Nat×Tm)):ZW (fun c=>Inside n p c) (flat (a.map Jj)):=ZM fun c b=>((Zeo (n:=n) (e:=35) (k:=0) a).1 c b).inside
def outO:Opt:=⟨true,true,fun d=>if d=88\/d=93 then .own 201 else .auto,[201]⟩
def Zki(S:List Str):ZW (fun c=>Inside n p c) (List.map (fun x=>x.1) (encS S)++List.map (fun x=>x.2) (encS S)):=ZM fun c a=>((WC (n:=n) S).1 c a).inside
def Zez{k:Nat}(h:p k):Inside n p (.map n k):=.map _ _ (.inr ⟨rfl,h⟩)
theorem Zme(x:Lt):[x.L.enc,x.R.enc]++x.at_.args.map Tm.enc=(XE x).map Tm.enc:=rfl
def ZpS{G:Za}{l b m q:Nat}{s:FZs}(a:G l b=some (.box [.map l m,.int .i64 s.n,.msl 13 l q s.ds.length]))(c:G l q=some (.Zg 35 13 (flat (s.ds.map Jj)) s.ds.length)):fsH G l b m q s=G:=by
 unfold fsH;rw[Z7 c,Z7 a]
def Zha(h:Sm x):((XE x).flatMap Z8).length<=915:=by
 have a:=flatMap_vars_len (XE x);have b:=h.L;have d:=h.R;have c:=h.at_;simp only[XE,Tm.sz.szs]at a⊢;omega
def Zl0{l:List Lt}(b:l.length<=10)(e:∀x∈l,Sm x){a:List Str}(n:a.length<=10000):(Zag l a).length<=20000:=by
 have k:=addsN_len (S:=ZO [] a) (l:=l.flatMap fun x=>(XE x).flatMap Z8);have d:=addsN_len (S:=[]) (l:=a);have f:∀q:List Lt,(∀x∈q,Sm x)->(q.flatMap fun x=>(XE x).flatMap Z8).length<=q.length*915:=by
  intro q;induction q with
  |nil=>intro _;simp
  |cons x q ih=>
   intro h;have g:=Zha (h x sm);have i:=ih fun y c=>h y (by simp[c])
   rw[Uk,Qh,Qm];omega
 have j:=f l e;have m:l.length*915<=10*915:=QF _ b;simp only[Qz]at d;unfold Zag;omega
def j26(l:List Lt)(hl:l.length<=10)(C:∀x∈l,Sm x)(b:List Str)(U:b.length<=10000):Yb prog 31 [.sl 13 (l.map Lt.enc) .any,eSs b] (.sl 13 ((Vr l b).map Lt.enc) .any):=by
 intro n H hn hT;refine aF func31 fun B=>?_
 refine gc ?_;refine nR ?_;have av:encS (ZO [] [])=[]:=rfl;refine YS (caps:=[]) (avs:=[.map n 13,.sl 1 (YK b) .any]) rfl (Zf func68 rfl rfl) (j40 (n+1) _ n 13 (Qq n) [] b om (by simp only[full,if_true];rfl)) (by simp only[go_sem,simprocAttr];rfl) ?_;rintro r O ⟨rfl,rfl⟩;refine⟨[(13,.map (encS (ZO [] b))),(15,.box [.map n 13,.int .i64 0,.sl 13 [] .full])],H,(Zm n _ H 13 _).symm,.refl _ _,?_⟩;refine aS ?_;refine gh ?_;refine Zx (Zvx n l b H) l.length rfl ?_ ?_
 ·exact KK
 intro i W;refine ZV rfl ?_;rcases Qd i l.length with h|h
 ·obtain⟨x,hx⟩:∃x,x=l[i]:=⟨_,rfl⟩
  have e:=C _ (Qa h);have F:=ZpT l b i h;rw[<-hx]at e F;refine nq h ?_;refine gH ?_;simp only[go_sem,simprocAttr,Lt.Zw _ _ h,h,<-hx];refine nq Zme ?_;obtain⟨A,E⟩:=e.tx;refine⟨rfl,⟨Zn (by have:=e.len;omega),by have:=e.len;omega⟩,?_⟩;generalize hq:XE x=q at A E F;refine kK ?_;refine Zx (Zvy n l q (gAt l b i) i H) q.length rfl ?_ ?_
  ·exact KK
  intro j hj;refine ZV rfl ?_;rcases Qd j q.length with h'|h'
  ·have ht:=A _ (Qa h');have hv:=ZeV q[j];have az:=nm_len.1 q[j];have s:ZO (ZO (gAt l b i) ((q.take j).flatMap Z8)) (Z8 q[j])=ZO (gAt l b i) ((q.take (j+1)).flatMap Z8):=by
    rw[Qn h',Uz,Jg];simp
   refine nr ?_;simp only[go_sem,simprocAttr,h'];refine gH ?_;refine aq2 (Tm.Zw _ _ h') h' ?_;refine nD flAO ?_;simp only[go_sem,simprocAttr,flAO];refine W9 (Zf func69 rfl rfl) (j56 q[j] ht.1 om) sS ?_;simp only[go_sem,simprocAttr,flAO];refine Zna rfl (k:=13) (xs:=Z8 q[j]) (S:=ZO (gAt l b i) ((q.take j).flatMap Z8)) om rfl sS ?_;rw[s];simp only[go_sem,simprocAttr];refine gd ?_;exact KK
  ·have Q:j=q.length:=om;subst Q;rw[QV,<-F];refine nq (QC.2 h') ?_;refine gg ?_;refine gd ?_;exact KK
 ·have m:i=l.length:=om;subst m;have hS:gAt l b l.length=Zag l b:=by unfold gAt Zag;rw[QV]
  rw[hS];refine nq (QC.2 h) ?_;refine gg ?_;refine gk ?_;refine XL 10 201 35 13 rfl rfl ?_;refine Zx (ZsT n l (Zag l b) H) l.length rfl ?_ ?_
  ·exact KK
  intro i W;refine ZV rfl ?_;rcases Qd i l.length with h|h
  ·obtain⟨x,hx⟩:∃x,x=l[i]:=⟨_,rfl⟩
   have e:=C _ (Qa h);rw[<-hx]at e;refine nq h ?_;refine gH ?_;simp only[go_sem,simprocAttr,Lt.Zw _ _ h,h,<-hx];refine gh ?_;refine Za5 15 200 2 35 13 rfl rfl rfl ?_;simp only[go_sem,simprocAttr,ML,U4];refine XD tok mixed drawO rfl rfl rfl ?_;refine aS ?_;refine cT (j49 x.L e.good.L) ?_;refine cT (j49 x.R e.good.R) ?_;obtain⟨S,hSe⟩:∃S,S=Zag l b:=⟨_,rfl⟩
   obtain⟨c,hc⟩:∃c,c=Zaq S (l.take i) 0:=⟨_,rfl⟩
   have ax:S.length<=20000:=by rw[hSe];exact Zl0 hl C U
   have ay:=e.at_;have a0:c<=61006100:=by
    have w:=(ZiO (S:=S) (l:=l.take i) (fun y o=>C y (UW o)) 0).1;have Z:(l.take i).length*(305*(S.length+2))<=10*(305*20002):=Qba (by rw[QJ];omega) (Qau _ om);omega
   rw[<-hSe,<-hc];refine gh ?_;refine Zah ⟨[(53,.int .i64 i),(52,.int .i64 l.length),(51,.sl 13 (l.map Lt.enc) .any),(10,.sl 13 (Vj S (l.take i) 0) (.buf n 201)),(5,.ptr n 15 0),(12,.ptr n 12 0)],
    [(13,.map (encS S)),(201,.buf 35 13 (Vj S (l.take i) 0).length),(12,.box (flY S x c).cs),(200,.Zg 35 13 (flat ((flD S x c).map Jj)) (flD S x c).length),(15,.box [.map n 13,.int .i64 (flN S x c),.msl 13 n 200 (flD S x c).length])],H⟩ ?_ ?_
   ·by_cases f:x.kind=1
    ·have X:(x.kind==1)=true:=by simp[f]
     have N:flY S x c=⟨x.kind,x.neg,⟨x.at_.pred,(flT.flTs S x.at_.args c).1⟩,x.op,x.L,x.R⟩:=by unfold flY;rw[if_pos f]
     have G:flD S x c=(flT.flTs S x.at_.args c).2.2:=by unfold flD;rw[if_pos f]
     have K:flN S x c=(flT.flTs S x.at_.args c).2.1:=by unfold flN;rw[if_pos f]
     rw[N,G,K];refine nTq X ?_;refine nR ?_;obtain⟨L,hL⟩:∃L:List (Nat×Ze),L=[(13,.map (encS S)),(15,.box [.map n 13,.int .i64 c,.msl 13 n 200 0]),(201,.buf 35 13 (Vj S (l.take i) 0).length),(12,.box x.cs),(200,.Zg 35 13 [] 0)]:=⟨_,rfl⟩
     simp only[Lt.cs]at hL;rw[<-hL];have v:fsH (full n L H) n 15 13 200 ⟨c,[]⟩=full n L H:=ZpS (by rw[hL];simp[full,lkb]) (by rw[hL];simp[full,lkb,flat]);have Y:full n L H n 13=some (.map (encS S)):=by rw[hL];simp[full,lkb]
     have M:=x.at_.args;refine YS (caps:=[]) (avs:=[.sl 4 (x.at_.args.map Tm.enc) .any,.bfn (.func 72) [.ptr n 15 0]]) (Qc:=fun r O=>r= .sl 4 ((flT.flTs S x.at_.args c).1.map Tm.enc) .any/\O=fsH (full n L H) n 15 13 200 (J7 S x.at_.args ⟨c,[]⟩ x.at_.args.length)) rfl (Zf func71 rfl rfl) (by
      rw[Qu];have he:=ZuJ (n+1) x.at_.args (by have:=e.len;omega) 72 [.ptr n 15 0] _ _ (Zf func72 rfl rfl) (flT.flTs S x.at_.args c).1 (ZbV S _ c) (fun i=>fsH (full n L H) n 15 13 200 (J7 S x.at_.args ⟨c,[]⟩ i)) ?_ ?_ ?_
      ·simp only[ZhX,v]at he;exact he
      ·exact .bfn _ _ fun i W=>by
        simp only[Qm,Qz]at W;have:i=0:=om;subst this;exact .ptr _ _ _ om
      ·intro i h L';have w:=j71 S n 15 13 200 hn dc dc dc x.at_.args[i] (e.good.at_.arg (Qa h)) (n+1+1) (full (n+1) L' (full n L H)) (J7 S x.at_.args ⟨c,[]⟩ i) om (by rw[Zi om];exact Y) ((hT.full hn).full om) ?_
       ·simp only[ZdJ (show n≠n+1 by omega),ZhW S x.at_.args _ i h];rw[Znt S x.at_.args c i h (by rw[ZbV];exact h)];exact w
       ·have w:=ZhT S x.at_.args c i;have Z:=Zll x.at_.args i h;have h3:=Zfj x.at_.args (i+1);have h5:(Tm.sz.szs (x.at_.args.take i)+x.at_.args[i].sz)*(S.length+2)<=305*(S.length+2):=QF _ om;rw[Q9]at h5;have h6:305*(S.length+2)<=305*20002:=Qau _ om;exact⟨om,by simp only[J7];omega,by simp only[J7,QG];omega⟩
      ·intro i h;exact Zjf om dc) sS ?_
     rintro r O ⟨rfl,rfl⟩;have z:J7 S x.at_.args ⟨c,[]⟩ x.at_.args.length=⟨(flT.flTs S x.at_.args c).2.1,(flT.flTs S x.at_.args c).2.2⟩:=by unfold J7;rw[QV];rfl
     refine⟨setb (setb L 200 (.Zg 35 13 (flat ((flT.flTs S x.at_.args c).2.2.map Jj)) (flT.flTs S x.at_.args c).2.2.length)) 15 (.box [.map n 13,.int .i64 (flT.flTs S x.at_.args c).2.1,.msl 13 n 200 (flT.flTs S x.at_.args c).2.2.length]),H,by rw[z];unfold fsH;rw[Zm,Zm],.refl _ _,?_⟩;rw[hL];refine gO ?_;refine⟨rfl,?_⟩;exact KK
    ·have X:(x.kind==1)=false:=by simp[f]
     have N:flY S x c=x:=by unfold flY;rw[if_neg f]
     have G:flD S x c=[]:=by unfold flD;rw[if_neg f]
     have K:flN S x c=c:=by unfold flN;rw[if_neg f]
     rw[N,G,K];refine nFq X ?_;refine nR ?_;refine cT (j70 x.at_.args (by have:=e.len;omega) 70 [] id ⟨⟨_,_,Zf func70 rfl rfl⟩,fun u U=>j49 u (e.good.at_.arg U),fun _=>trivial⟩) ?_;refine nN ?_;refine⟨rfl,?_⟩;rw[QbF];exact KK
   have t:∀p∈([(53,.int .i64 i),(52,.int .i64 l.length),(51,.sl 13 (l.map Lt.enc) .any),(10,.sl 13 (Vj S (l.take i) 0) (.buf n 201)),(5,.ptr n 15 0),(12,.ptr n 12 0)]:LN),p.1≠60/\Wk p.2 p.2/\Inside n (fun k=>k≠200) p.2:=by
    intro p g;simp only[Ql,QA,or_false]at g;rcases g with rfl|rfl|rfl|rfl|rfl|rfl
    ·exact⟨sm,.refl _,.int _ _⟩
    ·exact⟨sm,.refl _,.int _ _⟩
    ·exact⟨sm,.refl _,(Ym l).inside⟩
    ·exact⟨sm,.refl _,ZiV dc⟩
    ·exact⟨sm,.refl _,.ptr _ _ _ (.inr ⟨rfl,dc⟩)⟩
    ·exact⟨sm,.refl _,.ptr _ _ _ (.inr ⟨rfl,dc⟩)⟩
   refine ZJ (YU (tm':=[(53,.int .i64 i),(52,.int .i64 l.length),(51,.sl 13 (l.map Lt.enc) .any),(10,.sl 13 (Vj S (l.take i) 0) (.buf n 201)),(5,.ptr n 15 0),(12,.ptr n 12 0)]) (av':=.sl 13 ((flD S x c).map Jj) .any) (j0:=15) (i:=2) (j:=200) 60 (show 60<Tryz.f31.ntmps by decide) ((flD S x c).map Jj) dc rfl rfl (.inl ⟨13,rfl,rfl⟩) rfl rfl (by rw[Qv]) (fun y o=>by obtain⟨d,_,rfl⟩:=Qg.1 o;rfl) (Znx _).mem ?_ ?_) ?_
   ·intro p g;have w:=t p g;simp only[Ql,QA,or_false]at g;rcases g with rfl|rfl|rfl|rfl|rfl|rfl<;>exact w
   ·exact(show ZW (fun p:Nat×Ze=>p.2.Inside n (fun k=>k≠200)) [(13,.map (encS S)),(201,.buf 35 13 (Vj S (l.take i) 0).length),(12,.box (flY S x c).cs),(15,.box [.map n 13,.int .i64 (flN S x c),.dead])] from
     ⟨(WC S).inside,⟨fun a ha=>(by cases ha),fun p g=>(by cases g)⟩,Ze.Zv (ZM fun a ha=>((flY S x c).bcs.mem a ha).inside),Ze.Zv ⟨.map _ _ (.inr ⟨rfl,dc⟩),.int _ _,.dead,trivial⟩,trivial⟩).mem
   simp only[go_sem,simprocAttr,setb,delb,ML,U4];have au:(flY S x c).cs.length=13:=rfl;refine kK ?_;refine nD outO ?_;simp only[go_sem,simprocAttr,outO,QS,Nat.reduceBEq,Uj,UE,Nat.reduceEqDiff];have D:Vj S (l.take (i+1)) 0=Vj S (l.take i) 0++[(flY S x c).enc]++(flD S x c).map Jj:=by
    rw[Zo3 S l 0 i h,<-hx,<-hc,Q5];rfl
   have I:Zaq S (l.take (i+1)) 0=flN S x c:=by
    rw[(ZpL S l 0 i h).2,<-hx,<-hc,ZiP]
   have J:ZeE S l (i+1)= .sl 13 ((flD S x c).map Jj) .any:=by rw[ZkE S l i h,<-hx,<-hc]
   have aq:(Vj S (l.take i) 0).length<=3060:=by
    rw[ZqF];have w:=(ZiO (S:=S) (l:=l.take i) (fun y o=>C y (UW o)) 0).2;have Z:(l.take i).length<=10:=by rw[QJ];omega
    omega
   have aw:(flD S x c).length<=305:=by
    unfold flD;split
    ·have:=((Zc6 S).2 x.at_.args c).2;omega
    ·simp
   have V:(Vj S (l.take i) 0++[(flY S x c).enc]).length=(Vj S (l.take i) 0).length+1:=sm;have P:(Vj S (l.take i) 0++[(flY S x c).enc]++(flD S x c).map Jj).length=(Vj S (l.take i) 0++[(flY S x c).enc]).length+(flD S x c).length:=by simp only[Qh,Qv]
   refine⟨rfl,⟨Zn om,om⟩,⟨V.symm,fun y o=>by obtain⟨d,_,rfl⟩:=Qg.1 o;rfl,Zn om,om⟩,?_⟩;refine gd ?_;unfold ZsT;rw[I,J,D,P];have hob:∀p:Nat->Prop,p 201->Inside n p (.sl 13 (Vj S (l.take i) 0++[(flY S x c).enc]++(flD S x c).map Jj) (.buf n 201)):=fun p h=>by rw[<-D];exact ZiV h
   exact KK
  ·have m:i=l.length:=om;subst m;refine nq (QC.2 h) ?_;refine gg ?_;refine gE ?_;refine Zb ?_ (Ym _) rfl;rw[<-Zka];refine aS ?_;exact .deep (WkS.slL (Zjp _ l 0))
end
def ZU{a b:Type} [DecidableEq a](k:a):List (a×b)->Nat->Option Nat
 |[],_=>none
 |p::r,i=>if p.1=k then some i else ZU k r (i+1)
theorem Zet{d g:Type} [DecidableEq d](c:d->AV)(m:∀a b,(c a).kls=(c b).kls->a=b)(k:d)(f:d×g->AV×AV)(j:∀p,(f p).1=c p.1):∀(l:List (d×g)) (i:Nat),XQ (c k).kls ((l.map f).map fun p=>p.1.kls) i=ZU k l i
 |[],_=>rfl
 |p::r,i=>by
  simp only[Qs,XQ,ZU,j];by_cases h:p.1=k
  ·rw[if_pos h,if_pos (by rw[h])]
  ·rw[if_neg h,if_neg (fun e=>h (m _ _ e).symm),Zet c m k f j r (i+1)]
theorem ZaZ{d:Type} [DecidableEq d](c:d->AV)(g:∀a b,(c a).kls=(c b).kls->a=b)(k:d)(l b:Nat):∀(f:List (d×List Int)) (i j:Nat),XQ (c k).kls ((ents c l b j f).map fun p=>p.1.kls) i=ZU k f i
 |[],_,_=>rfl
 |p::r,i,j=>by
  simp only[ents,Qs,XQ,ZU];by_cases h:p.1=k
  ·rw[if_pos h,if_pos (by rw[h])]
  ·rw[if_neg h,if_neg (fun e=>h (g _ _ e).symm),ZaZ c g k l b r (i+1) (j+1)]
def ZnA(a b:Bs)(h:(AV.str a).kls=(AV.str b).kls):a=b:=by
 simp[AV.kls,AV.cells,klAll,AV.kl]at h;exact h
def Zmb(a b:Sg)(h:a.enc.kls=b.enc.kls):a=b:=by
 simp[AV.kls,AV.cells,klAll,AV.kl,Sg.enc]at h;cases a;cases b;simp at h;simp[h]
def Zma(a b:Ak)(h:a.enc.kls=b.enc.kls):a=b:=by
 simp[AV.kls,AV.cells,klAll,AV.kl,Ak.enc]at h;obtain⟨⟨p,n⟩,c,t⟩:=a;obtain⟨⟨f,e⟩,g,d⟩:=b;simp at h;simp[h]
def Zde(p:Bs×Int):AV×AV:=(.str p.1,.int .i64 p.2)
def a26(n:Nat)(H:Za)(l b:Nat)(s:Sto)(a:Am)(o:l<n)(h:Ya H l b s)(k:a.Good)(hn:0<n)(hT:Tabs H):PC prog n 128 [.ptr l b 0,a.enc] H (.bool (YO a&&(ZU (JC a) s.N 0).isSome)):=by
 have d:¬l=n:=om;have m:=h.box;have c:=h.num;have j:XQ (AV.str (JC a)).kls ((s.N.map Zde).map fun p=>p.1.kls) 0=ZU (JC a) s.N 0:=Zet AV.str ZnA (JC a) Zde (fun _=>rfl) s.N 0;have e:∀p,p∈s.N.map Zde->Yv tt 9 p.1=true:=fun p f=>by
  obtain⟨q,_,rfl⟩:=Qg.1 f;exact ZeC _
 change H l (b+2)=some (Ze.map (s.N.map Zde))at c;generalize s.N.map Zde=es at j e c;refine aF func128 fun B=>?_
 refine gc ?_;refine cQ (a55 (n+1) _ l b s om (h.full o _)) ?_;refine aS ?_;refine cT (a14 a k) ?_;cases g:YO a with
 |false=>
  refine nTq g ?_;refine nR ?_;refine Zk rfl rfl ?_;refine Zb ?_ (.bool _) rfl;try simp only[go_sem,simprocAttr,QW]
  exact .refl _
 |true=>
 refine Zr6 rfl rfl (by simp only[go_sem,simprocAttr,g]) ?_;refine nD drawO ?_;simp only[go_sem,simprocAttr,d,m,c,ZR];refine cT (a57 a k g) ?_;simp only[go_sem,simprocAttr,d,m,c,ZR,lookA,Xv,j];refine⟨fun p f=>e p f,?_⟩;cases r:ZU (JC a) s.N 0 with
 |none=>
  refine nR ?_;exact pB
 |some i=>
  refine nR ?_;exact pB
def Zed(m:Nat)(H a:Za):Prop:=∀l k,l<m->H l k=a l k
def Zed.full{m n:Nat}{H a:Za}(h:Zed m H a)(c:m<=n)(L:List (Nat×Ze)):Zed m (Go.Abs.full n L H) a:=fun l k b=>by
 rw[Zi om];exact h l k b
structure ZvZ {α:Type} (m:Nat) (H0:Za) (f:Nat) (caps:LA) (ea:α->AV) (l:List α) (g:α->Am):Prop where
 fn:∃fn c,Fun prog f fn c
 on:∀x∈l,∀n H,m<=n->Zed m H H0->PC prog n f (ea x::caps) H (g x).enc
 below:∀n,m<=n->ZW (fun c=>Below n c) caps
def ZvG(l:List Int)(o:Own)(f:Nat)(a:LA)(g:Int->Am)(n:Nat)(H:Za)(i:Nat):Zc:=
 ⟨[(10,.int .i64 i),(9,.int .i64 l.length),(8,.sl 1 (l.map eInt) o),(5,.sl 2 (((l.take i).map g).map Am.enc) (.buf n 200)),(1,.fn (.func f) a)],[(200,.buf 33 2 i)],H⟩
def Zwi(l:List Int)(hl:l.length<=1000000)(o:Own)(m:Nat)(p:Za)(f:Nat)(caps:LA)(g:Int->Am)(d:ZvZ m p f caps eInt l g)(ho:∀n,m<=n->Below n (.sl 1 (l.map eInt) o))(n:Nat)(H:Za)(a:m<=n)(t:Zed m H p):
  PC prog n 412 [.sl 1 (l.map eInt) o,.fn (.func f) caps] H (.sl 2 ((l.map g).map Am.enc) .any):=by
 obtain⟨⟨k,c,s⟩,d,e⟩:=d;have hfi:∀q,Inside n q (.fn (.func f) caps):=fun q=>(Below.fn _ _ fun i r=>(e n a).mem _ (Qa r)).inside
 have hoi:∀q,Inside n q (.sl 1 (l.map eInt) o):=fun q=>(ho n a).inside
 refine aF func412 fun B=>?_
 refine gz ?_;refine XL 5 200 33 2 rfl rfl ?_;refine Zx (ZvG l o f caps g n H) l.length rfl ?_ ?_
 ·exact KK
 intro i r;refine ZV rfl ?_;rcases Qd i l.length with h|h
 ·have b:(l.take i).length=i:=UG om;refine nq h ?_;refine nT ?_;refine nq2 (getD_map eInt _ _ h) h ?_;refine nR ?_;refine Yp (avs:=[eInt l[i]]) rfl s (d l[i] (Qa h) _ _ (by show m<=n+1;omega) (t.full a _)) rfl ?_;refine aq b ?_;refine⟨by first|exact⟨rfl,dc⟩|exact rfl,⟨Zn om,om⟩,?_⟩;refine gd ?_;apply kZ;repeat' first|apply q0|exact xx|apply aI
  ·refine aS ?_;rw[iw];exact .refl _
  ·simp only[go_sem,simprocAttr,Qn h,QM];exact .refl _
  all_goals first|exact hfi _|exact hoi _
 ·refine nq (QC.2 h) ?_;refine gg ?_;have j:i=l.length:=om;subst j;refine gE ?_;refine Zb ?_ (Xj _) rfl;refine aS ?_;exact .any _ _ _
def ZgZ(A:List Am)(a:List Int):List Am:=a.map fun i=>A.getD i.toNat ⟨[],[]⟩
def a98(n:Nat)(H:Za)(l b q j:Nat)(s:Sto)(i:Int)(v:l<n)(u:q<n)(p:Ya H l b s)(d:H q j=some (.box [.ptr l b 0]))(r:Zbn s.A)(hn:0<n)(hT:Tabs H)(m:0<=i)(k:i<s.A.length):
  PC prog n 413 [eInt i,.ptr q j 0] H (s.A.getD i.toNat ⟨[],[]⟩).enc:=by
 have f:¬l=n:=om;have c:¬q=n:=om;have o:=p.box;have a:i.toNat<s.A.length:=om;have t:s.A≠[]:=fun e=>by rw[e]at a;simp at a
 have h:¬s.A=[]:=t;have g:s.A.getD i.toNat ⟨[],[]⟩=s.A[i.toNat]:=by rw[Qk,Qe a];rfl
 refine aF func413 fun B=>?_
 refine nR ?_;refine nr ?_;simp only[go_sem,simprocAttr,f,c,o,d,ZR,YA,h,m,k,a,Am.Zw _ _ a];refine cT (a59 s.A[i.toNat] (r _ (Qa a))) ?_;refine nV ?_;rw[g];exact YH (.inl rfl) _ n 3 0 s.A[i.toNat].cs sS (by simp only[go_sem,simprocAttr,Go.Abs.full]) rfl (Qi _) sS (by simp only[go_sem,simprocAttr];exact .refl _) (Am.blw _ _) rfl
def a61(n:Nat)(H:Za)(l b:Nat)(s:Sto)(c:List Int)(o:Own)(q:l<n)(t:Ya H l b s)(u:Zbn s.A)(v:0<n)(r:Tabs H)(d:∀i∈c,0<=i/\i<s.A.length)(e:c.length<=1000000)(j:Below n (.sl 1 (c.map eInt) o)):
  PC prog n 380 [.ptr l b 0,.sl 1 (c.map eInt) o] H (.sl 2 ((ZgZ s.A c).map Am.enc) .any):=by
 refine aF func380 fun B=>?_
 refine gc ?_;refine cQ (Zwi c e o (n+1) _ _ [.ptr n 2 0] (fun i=>s.A.getD i.toNat ⟨[],[]⟩) ⟨⟨_,_,Zf func413 rfl rfl⟩,fun i g m p f a=>?_,fun m f=>⟨.ptr _ _ _ om,trivial⟩⟩ (fun m f=>j.mono om) (n+1) _ (Qi _) (fun _ _ _=>rfl)) ?_
 ·refine a98 m p l b n 2 s i om om (fun k x h=>?_) ?_ u om ?_ (d i g).1 (d i g).2
  ·rw[a _ _ om,Zi q];exact t k x h
  ·rw[a _ _ om];simp only[go_sem,simprocAttr,Go.Abs.full]
  ·exact r.up (fun k=>by rw[a _ _ om];exact Zi v _ _ _)
 simp only[go_sem,simprocAttr];refine nV ?_;refine Zb ?_ (Xj _) rfl;simp only[go_sem,simprocAttr,ZgZ];exact .refl _
def Y3{a:Type} [DecidableEq a](k:a)(b:List (a×List Int)):List Int:=match ZU k b 0 with
 |some j=>(b[j]?.map Prod.snd).getD []
 |none=>[]
def JO{a c:Type} [DecidableEq a]{k:a}:∀{b:List (a×c)} {i j:Nat},ZU k b i=some j->i<=j/\j<i+b.length
 |[],_,_,h=>by cases h
 |p::r,i,j,h=>by
  simp only[ZU]at h;split at h
  ·cases h;simp
  ·have:=JO h;simp only[Qm];omega
theorem Jm{e:Type}(a:e->AV)(l b:Nat):∀(c:List (e×List Int)) (i j:Nat) (h:j<c.length) (d:AV×AV),(ents a l b i c).getD j d=(a c[j].1,.sl 1 (c[j].2.map eInt) (.buf l (b+2*(i+j))))
 |p::r,i,0,_,d=>rfl
 |p::r,i,j+1,h,d=>by
  have:=Jm a l b r (i+1) j (by simpa using h) d;simp only[ents,QaZ,Mc];rw[this];congr 3;omega
def ZbO{c:Type}(a:c->AV)(l b:Nat):∀(d:List (c×List Int)) (i:Nat) (p:AV×AV),p∈ents a l b i d-> ∃k,p.1=a k
 |q::r,i,p,h=>by
  simp only[ents,Ql]at h;rcases h with rfl|h
  ·exact⟨q.1,rfl⟩
  ·exact ZbO a l b r (i+1) p h
def Y1{n k:Nat}{o:Own}(l:List Int)(h:∀a j,o= .buf a j->a<n):Below n (.sl k (l.map eInt) o):=
 .sl k _ o (fun i d c b=>by
  have:=ZbI (n:=n) .i64 l _ (Qa d);exact this.cells _ (Qa b)) h
def a30(n:Nat)(H:Za)(l b:Nat)(s:Sto)(g:Sg)(u:l<n)(t:Ya H l b s)(y:Zbn s.A)(C:0<n)(z:Tabs H)(d:∀i∈Y3 g s.S,0<=i/\i<s.A.length)(a:(Y3 g s.S).length<=1000000):
  PC prog n 324 [.ptr l b 0,g.enc] H (.sl 2 ((ZgZ s.A (Y3 g s.S)).map Am.enc) .any):=by
 have q:¬l=n:=om;have x:=t.box;have c:=t.sig;have o:XQ g.enc.kls ((ents Sg.enc l (b+5) 0 s.S).map fun p=>p.1.kls) 0=ZU g s.S 0:=ZaZ Sg.enc Zmb g l (b+5) s.S 0 0;have f:∀p,p∈ents Sg.enc l (b+5) 0 s.S->Yv tt 211 p.1=true:=fun p D=>by
  obtain⟨k,m⟩:=ZbO _ _ _ _ _ _ D;rw[m];exact Zl9 _ _
 have w:=fun j h=>Jm Sg.enc l (b+5) s.S 0 j h (.dead,.dead)
 generalize ents Sg.enc l (b+5) 0 s.S=es at o f c w;simp only[Sg.enc]at o;refine aF func324 fun B=>?_
 refine gc ?_;refine cQ (a55 (n+1) _ l b s om (t.full u _)) ?_;refine aS ?_;refine nF ?_;cases m:ZU g s.S 0 with
 |none=>
  have e:Y3 g s.S=[]:=by rw[Y3,m]
  rw[e]at d a;rw[m]at o;refine nD drawO ?_;simp only[go_sem,simprocAttr,q,x,c,ZR,lookA,Xv,o];refine⟨f,?_⟩;refine ZjT (Zf func380 rfl rfl) (Zh.args (a61 (n+1) _ l b s [] .full om (t.full u _) y om (z.full C) d a (Y1 [] (fun _ _ e=>by cases e))) (args':=[.ptr l b 0,.Xd]) ⟨.refl _,.sem fun _ _ h=>h.Zi7,trivial⟩) (by simp only[go_sem,simprocAttr,XI]) ?_;refine gw ?_;rw[e];exact Zb (.refl _) (Xj _) rfl
 |some j=>
  have E:=JO m;have r:j<s.S.length:=om;have e:Y3 g s.S=s.S[j].2:=by rw[Y3,m];simp[Qe r]
  rw[e]at d a;rw[m]at o;have v:=w j r;refine nD drawO ?_;simp only[go_sem,simprocAttr,q,x,c,ZR,lookA,Xv,o,v];refine⟨f,?_⟩;refine cQ (a61 (n+1) _ l b s s.S[j].2 (.buf l (b+5+2*(0+j))) om (t.full u _) y om (z.full C) d a (Y1 _ (fun _ _ e=>by cases e;omega))) ?_;refine gw ?_;rw[e];exact Zb (.refl _) (Xj _) rfl
structure Zpl (m:Nat) (H0:Za) (f:Nat) (caps:LA) (l:List Bnd) (g:Bnd->List Bnd×Int):Prop where
 fn:∃fn c,Fun prog f fn c
 on:∀x∈l,∀n H,m<=n->Zed m H H0->PC prog n f (Zu x::caps) H (.tup [.sl 1 ((g x).1.map Zu) .any,eInt (g x).2])
 below:∀n,m<=n->ZW (fun c=>Below n c) caps
theorem flat_bnds:∀l:List Bnd,flat (l.map Zu)=l.map Zu
 |[]=>rfl
 |x::l=>by rw[Qs,Yc,flat_bnds l];rfl
def Zds(g:Bnd->List Bnd×Int)(l:List Bnd)(i:Nat):List Bnd×Int:=(l.take i).foldl (fun p b=>WZ p (g b)) ([],0)
def Zod(g:Bnd->List Bnd×Int)(l:List Bnd)(i:Nat)(h:i<l.length):Zds g l (i+1)=WZ (Zds g l i) (g l[i]):=by
 unfold Zds;rw[Qn h,Gz];rfl
def Zpq(g:Bnd->List Bnd×Int)(l:List Bnd)(i:Nat):(Zds g l i).1.length<=20001:=by
 unfold Zds;generalize l.take i=q;have:∀(q:List Bnd) (p:List Bnd×Int),p.1.length<=20001->(q.foldl (fun p b=>WZ p (g b)) p).1.length<=20001:=by
  intro q;induction q with
  |nil=>intro p h;exact h
  |cons x q ih=>
   intro p h;refine ih _ ?_;simp only[WZ,Zgo];split
   ·simp;omega
   ·omega
 exact this q _ sm
def ZbW{n:Nat}{p:Nat->Prop}(l:List Bnd):ZW (fun c=>Inside n p c) (l.map Zu):=ZM fun c a=>by obtain⟨u,_,rfl⟩:=Qg.1 a;exact(ZH n u).inside
def ZqZ(n l b:Nat)(d:List Bnd)(f:Nat)(c:LA)(a:List Bnd×Int)(H:Za)(i:Nat):Zc:=
 ⟨[(16,.int .i64 i),(15,.int .i64 d.length),(14,.sl 1 (d.map Zu) .any),(6,.int .i64 a.2),(5,.msl 1 n 200 a.1.length),(1,.fn (.func f) c),(0,.ptr l b 0)],[(200,.Zg 93 1 (a.1.map Zu) a.1.length)],H⟩
def j130(n:Nat)(H:Za)(l b:Nat)(hl:l<n)(Z O W:AV)(a:List Bnd)(ax:a.length<=1000000)(J:H l b=some (.box [Z,O,.sl 1 (a.map Zu) .any,W]))(C:Below n Z/\Below n O/\Below n W)(f:Nat)(caps:LA)(g:Bnd->List Bnd×Int)(V:Zpl n H f caps a g)(hg:∀x∈a,(g x).1.length<=1000000):
  Zh prog n 243 [.ptr l b 0,.fn (.func f) caps] H fun r H'=>r=eInt (Go.Abs.XA g a).2/\H'=H.upd l b (.box [Z,O,.sl 1 ((Go.Abs.XA g a).1.map Zu) .any,W]):=by
 have F:¬l=n:=om;obtain⟨⟨D,c,V⟩,Q,G⟩:=V;have hfi:∀q,Inside n q (.fn (.func f) caps):=fun q=>(Below.fn _ _ fun i hi=>(G n (Qi _)).mem _ (Qa hi)).inside
 refine aF func243 fun B=>?_
 refine gc ?_;refine nR ?_;refine nq2 F J ?_;refine kK ?_;refine Jp 5 200 93 1 rfl rfl ?_;refine Zx (fun i=>ZqZ n l b a f caps (Zds g a i) H i) a.length rfl ?_ ?_
 ·exact KK
 intro i hi;refine ZV rfl ?_;have hal:=Zpq g a i;rcases Qd i a.length with h|h
 ·have o:=Zod g a i h;have Y:=hg _ (Qa h);refine nq h ?_;refine nT ?_;refine nq2 (getD_map Zu _ _ h) h ?_;refine nR ?_;refine Yp (avs:=[Zu a[i]]) rfl V (Q a[i] (Qa h) _ _ (Uc _) (fun l' k N=>Zi N _ _ _)) rfl ?_;refine aS ?_;obtain⟨r,hr⟩:∃r,r=g a[i]:=⟨_,rfl⟩
  rw[<-hr]at o Y⊢;generalize ay:Zds g a i=acc at hal o;obtain⟨A,e⟩:=acc;dsimp only at hal;have s:Zds g a (i+1)=(Zgo (A++r.1),if r.2=3\/e=0 then r.2 else e):=o;have E:IntKind.i64.wrap ((i:Int)+1)=((i+1:Nat):Int):=by rw[iw];omega
  have K:∀y∈r.1.map Zu,y.cells.all AV.one=true:=fun y hy=>by obtain⟨u,_,rfl⟩:=Qg.1 hy;rfl
  refine kK ?_;refine Zah ⟨[(31,.bool (decide (r.2=3\/e=0))),(10,.int .i64 r.2),(9,.sl 1 (r.1.map Zu) .any),(16,.int .i64 i),(15,.int .i64 a.length),(14,.sl 1 (a.map Zu) .any),(6,.int .i64 e),(5,.msl 1 n 200 A.length),(1,.fn (.func f) caps),(0,.ptr l b 0)],[(200,.Zg 93 1 (A.map Zu) A.length)],H⟩ ?_ ?_
  ·cases t:(r.2==3)with
   |true=>
    have d:decide (r.2=3\/e=0)=true:=by simp at t;simp[t]
    rw[d];refine nr ?_;simp only[go_sem,simprocAttr,eInt,t];refine nN ?_;refine⟨rfl,?_⟩;exact KK
   |false=>
    have d:decide (r.2=3\/e=0)=(e==0):=by
     simp only[beq_eq_false_iff_ne]at t;by_cases v:e=0<;>simp[t,v]
    rw[d];refine nr ?_;simp only[go_sem,simprocAttr,eInt,t];refine nN ?_;refine⟨rfl,?_⟩;exact KK
  generalize w:(if r.2=3\/e=0 then r.2 else e)=e' at s;refine kK ?_;refine Zah ⟨[(9,.sl 1 (r.1.map Zu) .any),(16,.int .i64 i),(15,.int .i64 a.length),(14,.sl 1 (a.map Zu) .any),(6,.int .i64 e'),(5,.msl 1 n 200 A.length),(1,.fn (.func f) caps),(0,.ptr l b 0)],[(200,.Zg 93 1 (A.map Zu) A.length)],H⟩ ?_ ?_
  ·by_cases v:r.2=3\/e=0
   ·have d:decide (r.2=3\/e=0)=true:=by simp[v]
    rw[if_pos v]at w;subst w;refine nTq d ?_;refine gd ?_;refine⟨rfl,?_⟩;exact KK
   ·have d:decide (r.2=3\/e=0)=false:=by simp[v]
    rw[if_neg v]at w;subst w;refine nFq d ?_;refine nN ?_;refine⟨rfl,?_⟩;exact KK
  have S:A.map Zu++flat (r.1.map Zu)=(A++r.1).map Zu:=by rw[flat_bnds,QM]
  have I:A.length+r.1.length=(A++r.1).length:=by rw[Qh]
  refine nq2 S I ?_;have X:(A++r.1).length<=1020001:=by rw[Qh];omega
  refine⟨⟨K,Zn om,om⟩,?_⟩;generalize A++r.1=q at s X⊢;refine nR ?_;by_cases hq:20000<q.length
  ·have d:decide ((20000:Int)<(q.length:Int))=true:=by simp;omega
   have P:Zgo q=q.take 20001:=by unfold Zgo;rw[if_pos hq]
   have U:(q.take 20001).length=20001:=UG om;rw[P]at s;refine nTq d ?_;refine nR ?_;refine⟨om,?_⟩;refine kK ?_;refine ZJ (ZbB (tm':=[(16,.int .i64 i),(15,.int .i64 a.length),(14,.sl 1 (a.map Zu) .any),(6,.int .i64 e'),(5,.msl 1 n 200 20001),(1,.fn (.func f) caps),(0,.ptr l b 0)]) (j:=200) (m:=20001) (show 0<q.length by omega) om rfl (ZbW q).mem ?_ ?_) ?_
   ·intro p z;simp only[Ql,QA,or_false]at z;rcases z with rfl|rfl|rfl|rfl|rfl|rfl|rfl
    ·exact .inl ⟨.refl _,.int _ _⟩
    ·exact .inl ⟨.refl _,.int _ _⟩
    ·exact .inl ⟨.refl _,(ZI _).inside⟩
    ·exact .inl ⟨.refl _,.int _ _⟩
    ·exact .inr ⟨1,1,rfl,rfl⟩
    ·exact .inl ⟨.refl _,hfi _⟩
    ·exact .inl ⟨.refl _,.ptr _ _ _ (.inl hl)⟩
   ·intro p z;cases z
   simp only[go_sem,simprocAttr,setb,delb,Gs,<-List.map_take];refine gd ?_;rw[s];unfold ZqZ;rw[U];apply kZ;repeat' first|apply q0|exact xx|apply aI
   all_goals first|exact hfi _|exact(ZI _).inside|exact .ptr _ _ _ (.inl hl)|exact Zh1 (.inr ⟨rfl,rfl⟩)|exact ZbW _|(simp only[go_sem,simprocAttr,E];exact .refl _)
  ·have d:decide ((20000:Int)<(q.length:Int))=false:=by simp;omega
   have P:Zgo q=q:=by unfold Zgo;rw[if_neg hq]
   rw[P]at s;refine nFq d ?_;refine gd ?_;rw[s];unfold ZqZ;apply kZ;repeat' first|apply q0|exact xx|apply aI
   all_goals first|exact hfi _|exact(ZI _).inside|exact .ptr _ _ _ (.inl hl)|exact Zh1 (.inr ⟨rfl,rfl⟩)|exact ZbW _|(simp only[go_sem,simprocAttr,E];exact .refl _)
 ·have R:i=a.length:=om;subst R;have L:Go.Abs.XA g a=((Zds g a a.length).1,if(Zds g a a.length).2=0/\20000<(Zds g a a.length).1.length then 5 else(Zds g a a.length).2):=by
   unfold Go.Abs.XA Zds;rw[QV]
  rw[L];generalize Zds g a a.length=acc at hal⊢;obtain⟨A,e⟩:=acc;dsimp only at hal⊢;refine nq (QC.2 h) ?_;refine gg ?_;refine kK ?_;refine Zah ⟨[(48,.bool (decide (e=0/\20000<A.length))),(6,.int .i64 e),(5,.msl 1 n 200 A.length),(0,.ptr l b 0)],[(200,.Zg 93 1 (A.map Zu) A.length)],H⟩ ?_ ?_
  ·cases t:(e==0)with
   |true=>
    have M:e=0:=by simpa using t
    have d:decide (e=0/\20000<A.length)=decide ((20000:Int)<(A.length:Int)):=by simp only[M,true_and];apply decide_eq_decide.2;omega
    rw[d];refine nq t ?_;refine nN ?_;refine⟨rfl,?_⟩;exact KK
   |false=>
    have M:¬e=0:=by simpa using t
    have d:decide (e=0/\20000<A.length)=false:=by simp[M]
    rw[d];refine nq t ?_;refine nN ?_;refine⟨rfl,?_⟩;exact KK
  refine kK ?_;refine Zah ⟨[(6,.int .i64 (if e=0/\20000<A.length then 5 else e)),(5,.msl 1 n 200 A.length),(0,.ptr l b 0)],[(200,.Zg 93 1 (A.map Zu) A.length)],H⟩ ?_ ?_
  ·by_cases v:e=0/\20000<A.length
   ·have d:decide (e=0/\20000<A.length)=true:=by simp[v]
    rw[if_pos v];refine nTq d ?_;refine gd ?_;refine⟨rfl,?_⟩;exact KK
   ·have d:decide (e=0/\20000<A.length)=false:=by simp[v]
    rw[if_neg v];refine nFq d ?_;refine nN ?_;refine⟨rfl,?_⟩;exact KK
  generalize (if e=0/\20000<A.length then 5 else e)=e';refine ZJ (YV (tm':=[(6,.int .i64 e'),(5,.sl 1 (A.map Zu) .any),(0,.ptr l b 0)]) (j:=200) (A.map Zu) rfl (flat_bnds A) sm (fun x hx=>by obtain⟨u,_,rfl⟩:=Qg.1 hx;rfl) (ZbW A).mem ?_ ?_) ?_
  ·intro p z;simp only[Ql,QA,or_false]at z;rcases z with rfl|rfl|rfl
   ·exact .inl ⟨.refl _,.int _ _⟩
   ·exact .inr ⟨1,rfl,rfl⟩
   ·exact .inl ⟨.refl _,.ptr _ _ _ (.inl hl)⟩
  ·intro p z;cases z
  simp only[go_sem,simprocAttr,delb];refine nr ?_;refine aq2 F J ?_;refine⟨.inr (Ze.Zy ⟨C.1,C.2.1,ZI A,C.2.2,trivial⟩),?_⟩;refine ge ?_;exact Zq (.refl _) (.int _ _) ⟨rfl,rfl⟩
def Zw7(c:Int):Bool:=c==0
def Zw8(c:Int):Bool:=c !=0
def Zw9(c:Int):Bool:=decide (c<0)
def Zxa(c:Int):Bool:=decide (c<=0)
def Zxb(c:Int):Bool:=decide (c>0)
def Zxc(c:Int):Bool:=decide (c ≥ 0)
def ZwL(c:Int):Pure prog 315 [.int .i64 c] (.bool (Zw7 c)):=by
 intro n H;refine aF func315 fun B=>?_
 refine gc ?_;exact pB
def ZwM(c:Int):Pure prog 316 [.int .i64 c] (.bool (Zw8 c)):=by
 intro n H;refine aF func316 fun B=>?_
 refine gc ?_;exact pB
def ZwN(c:Int):Pure prog 317 [.int .i64 c] (.bool (Zw9 c)):=by
 intro n H;refine aF func317 fun B=>?_
 refine gc ?_;exact pB
def ZwO(c:Int):Pure prog 318 [.int .i64 c] (.bool (Zxa c)):=by
 intro n H;refine aF func318 fun B=>?_
 refine gc ?_;exact pB
def ZwP(c:Int):Pure prog 319 [.int .i64 c] (.bool (Zxb c)):=by
 intro n H;refine aF func319 fun B=>?_
 refine gc ?_;exact pB
def ZwQ(c:Int):Pure prog 320 [.int .i64 c] (.bool (Zxc c)):=by
 intro n H;refine aF func320 fun B=>?_
 refine gc ?_;exact pB
def j101(f:Int)(k:0<=f/\f<=255)(a b:Tm)(i:a.Good)(h:b.Good):Pure prog 248 [.int .u8 f,a.enc,b.enc] (.bool (Wl f a b)):=by
 intro n H;have o:∀x:Int,0<=x->x<=255->IntKind.i64.wrap x=x:=fun x r q=>iw
 have c:ZjO tt 364=some (7,⟨.func,1,8,[.nilf]⟩):=rfl;have d:sliceOf tt 364=none:=rfl;refine aF func248 fun B=>?_
 refine nR ?_;refine nq c ?_;by_cases l:1<=f/\f<=6
 ·have p:f=1\/f=2\/f=3\/f=4\/f=5\/f=6:=om;rcases p with rfl|rfl|rfl|rfl|rfl|rfl
  ·have g:decide (IntKind.i64.wrap 1<7)=true:=dc;refine dq4 c d g trivial ?_;refine cP (a53 a b i h) ?_;refine Yp (avs:=[.int .i64 (cmpT a b)]) rfl (Zf func315 rfl rfl) (ZwL (cmpT a b) _ _) rfl ?_;refine aS ?_;exact pB
  ·have g:decide (IntKind.i64.wrap 2<7)=true:=dc;refine dq4 c d g trivial ?_;refine cP (a53 a b i h) ?_;refine Yp (avs:=[.int .i64 (cmpT a b)]) rfl (Zf func316 rfl rfl) (ZwM (cmpT a b) _ _) rfl ?_;refine aS ?_;exact pB
  ·have g:decide (IntKind.i64.wrap 3<7)=true:=dc;refine dq4 c d g trivial ?_;refine cP (a53 a b i h) ?_;refine Yp (avs:=[.int .i64 (cmpT a b)]) rfl (Zf func317 rfl rfl) (ZwN (cmpT a b) _ _) rfl ?_;refine aS ?_;exact pB
  ·have g:decide (IntKind.i64.wrap 4<7)=true:=dc;refine dq4 c d g trivial ?_;refine cP (a53 a b i h) ?_;refine Yp (avs:=[.int .i64 (cmpT a b)]) rfl (Zf func318 rfl rfl) (ZwO (cmpT a b) _ _) rfl ?_;refine aS ?_;exact pB
  ·have g:decide (IntKind.i64.wrap 5<7)=true:=dc;refine dq4 c d g trivial ?_;refine cP (a53 a b i h) ?_;refine Yp (avs:=[.int .i64 (cmpT a b)]) rfl (Zf func319 rfl rfl) (ZwP (cmpT a b) _ _) rfl ?_;refine aS ?_;exact pB
  ·have g:decide (IntKind.i64.wrap 6<7)=true:=dc;refine dq4 c d g trivial ?_;refine cP (a53 a b i h) ?_;refine Yp (avs:=[.int .i64 (cmpT a b)]) rfl (Zf func320 rfl rfl) (ZwQ (cmpT a b) _ _) rfl ?_;refine aS ?_;exact pB
 ·have e:Wl f a b=false:=by
   unfold Wl;rw[if_neg om,if_neg om,if_neg om,if_neg om,if_neg om,if_neg om]
  rw[e];by_cases m:f=0
  ·subst m;refine nD drawO ?_;refine aq2 c d ?_;exact pB
  ·have j:decide (0<f)=true:=by simp;omega
   have g:decide (IntKind.i64.wrap f<7)=false:=by rw[o f k.1 k.2];simp;omega
   refine dq4 c d j g ?_;exact pB
def j133(e f:Int):Pure prog 246 [eInt e,eInt f] (eInt (J6 e f)):=by
 intro n H;refine aF func246 fun B=>?_
 refine nR ?_;cases a:(e==3)with
 |true=>
  have d:e=3:=by simpa using a
  refine nq a ?_;refine gj ?_;have b:J6 e f=e:=by rw[J6,if_pos (.inl d)]
  rw[b];exact Zb (.refl _) (.int _ _) rfl
 |false=>
  have d:¬e=3:=by simpa using a
  cases c:(f==0)with
  |true=>
   have b:J6 e f=e:=by rw[J6,if_pos (.inr (by simpa using c))]
   refine nq2 a c ?_;refine gj ?_;rw[b];exact Zb (.refl _) (.int _ _) rfl
  |false=>
   have g:¬f=0:=by simpa using c
   have b:J6 e f=f:=by rw[J6,if_neg om]
   refine nq2 a c ?_;refine gF ?_;rw[b];exact Zb (.refl _) (.int _ _) rfl

def grT(t:Tm):Bool:=t.all fun u=>!(u.kind==3)
def ZdC(t:Tm):LT×Int:=if Xr t&&grT t then match expandS t with
  |some l=>(l,0)
  |none=>([],5)
 else([],2)
def Fa2.get{b a:Type}{R:b->a->Prop}:∀{p:List b} {q:List a},Fa2 R p q-> ∀i (h:i<p.length),∃c:i<q.length,R p[i] q[i]
 |_,_,.cons h t,0,_=>⟨sm,h⟩
 |_,_,.cons h t,i+1,hi=>by
  obtain⟨c,d⟩:=t.get i (by simpa using hi);exact⟨by simpa using c,d⟩
def ExpOK:Prop:=∀t:Tm,t.Good->Yb prog 314 [t.enc] (.tup [.sl 4 ((ZdC t).1.map Tm.enc) .any,eInt (ZdC t).2])
/-! No term has more than a thousand expansions. -/
theorem ZjZ{a:Type}:∀(b:List (List a)),(Z9 b).length=b.foldr (fun p n=>p.length*n) 1
 |[]=>rfl
 |p::r=>by
  have c:∀q:List a,(q.flatMap fun x=>(Z9 r).map (x:: ·)).length=q.length*(Z9 r).length:=by
   intro q;induction q with
   |nil=>simp
   |cons x q ih=>rw[Uk,Qh,ih,Qv,Qm,Q9];omega
  rw[Z9,c,ZjZ r];rfl
def cntS_some:∀(a:List LT) (n m:Nat),a.foldlM (fun n p=>if 1000<n*p.length then none else some (n*p.length)) n=some m->n*a.foldr (fun p n=>p.length*n) 1=m/\(n<=1000->m<=1000)
 |[],n,m,h=>by simp at h;subst h;simp
 |p::r,n,m,h=>by
  rw[MP]at h;by_cases b:1000<n*p.length
  ·rw[if_pos b]at h;cases h
  ·rw[if_neg b]at h;obtain⟨c,d⟩:=cntS_some r (n*p.length) m h;refine⟨?_,fun _=>d om⟩;rw[List.foldr_cons,<-Nat.mul_assoc];exact c
def Zqg{l:List Int}{r:LT}(h:ZoK l=some r):r.length<=1000:=by
 unfold ZoK at h;split at h
 ·cases h
 ·rename_i a;cases h;rw[Qv];omega
section
variable {t:Tm}
def Zc5{l:LT}(h:expandS t=some l):l.length<=1000:=by
 cases t with|mk k n s a=>
 cases a with
 |nil=>rw[ZaW]at h;cases h;simp
 |cons u r=>
  obtain⟨d,e,b⟩:=Ze3 h sm;split at b
  ·unfold WG at b;split at b
   ·cases b;simp
   ·split at b
    ·cases b
    ·rename_i f;cases b;rw[Qv,GK];omega
  ·split at b
   ·exact Zqg b
   ·unfold Zey at b;split at b
    ·cases b;simp
    ·cases c:Zom d with
     |none=>rw[c]at b;cases b
     |some m=>
      rw[c]at b;simp only[UY,Qp]at b;rw[<-b,Qv,ZjZ];have:=cntS_some d 1 m c;exact UA (Nat.le_of_eq ((QaW _).symm.trans this.1)) (this.2 dc)
def ZfH(t:Tm)(b:Bnd):(Xm t b).1.length<=1000:=by
 unfold Xm;split
 ·split
  ·rename_i l h;exact Zc5 h
  ·simp
 ·simp
structure BT (b:Bnd) (t:Tm):Prop where
 gb:YG b
 len:b.length<=100000
 good:t.Good
 sz:t.sz<=305
 dom:∀n∈nmT t,n∈ZP b
variable {b:Bnd}
def BT.app(h:BT b t):(Ye b t).Good:=ZjM h.gb h.good.nm h.sz
def BT.gr(h:BT b t):grT (Ye b t)=true:=Zc0 h.gb t h.dom
def BT.exp(h:BT b t):∀v∈(Xm t b).1,v.Good:=fun v a=>X8 (ZdD h.gb h.dom a)
def BT.ZdC{b:Bnd}{t:Tm}(h:BT b t)(a:Xr (Ye b t)=true):ZdC (Ye b t)=Xm t b:=by
 unfold Go.Proofs.YthajllbimoodjaaGreatDoor.ZdC Xm;rw[a,h.gr];rfl
def j132(c:ExpOK)(b:Bnd)(t:Tm)(h:BT b t):Yb prog 245 [t.enc,Zu b] (.tup [.sl 4 ((Xm t b).1.map Tm.enc) .any,eInt (Xm t b).2]):=by
 intro n H hn hT;refine aF func245 fun B=>?_
 refine gc ?_;refine cT (Ztu b h.gb.asc (by have:=h.len;omega) t h.good) ?_;refine nR ?_;refine cT (a72 (Ye b t) h.app) ?_;cases a:Xr (Ye b t)with
 |false=>
  have e:Xm t b=([],3):=by unfold Xm;rw[if_neg (by simp[a])]
  rw[e];refine aS ?_;refine gj ?_;exact ZF (.any _ _ _) (.refl _) (ZB []) (.int _ _) rfl
 |true=>
  refine aS ?_;refine gv ?_;refine cT (c (Ye b t) h.app) ?_;rw[h.ZdC a];refine nV ?_;refine ZF ?_ ?_ (ZB _) (.int _ _) rfl
  ·exact xS
  ·exact xS
def j134(x:Lt)(a:0<=x.op/\x.op<=255)(v w:Tm)(c:v.Good)(b:w.Good):Pure prog 247 [w.enc,.iptr x.cs,.iptr v.cs] (.bool (Wl x.op v w)):=by
 intro n H;refine aF func247 fun B=>?_
 refine gc ?_;refine cP (j101 x.op a v w c b) ?_;exact pB
def Zpl.of{m:Nat}{H0:Za}(hm:0<m)(hT:Tabs H0){f:Nat}{caps:LA}{l:List Bnd}{g:Bnd->List Bnd×Int}(hf:∃fn c,Fun prog f fn c)(h:∀x∈l,Yb prog f (Zu x::caps) (.tup [.sl 1 ((g x).1.map Zu) .any,eInt (g x).2]))
  (hb:∀n,m<=n->ZW (fun c=>Below n c) caps):Zpl m H0 f caps l g:=
 ⟨hf,fun x hx n H hn hH=>h x hx n H om (hT.up fun k=>hH 0 k hm),hb⟩
def Zvp(b:Bnd)(x:Lt)(l r:LT)(H:Za)(i:Nat):Zc:=
 ⟨[(36,.int .i64 i),(35,.int .i64 l.length),(34,.sl 4 (l.map Tm.enc) .any),(7,.sl 4 (r.map Tm.enc) .any),(1,.iptr x.cs),(0,Zu b)],[],H⟩
def j131(F:ExpOK)(b:Bnd)(x:Lt)(t:0<=x.op/\x.op<=255)(E:BT b x.L)(G:BT b x.R):Yb prog 244 [Zu b,.iptr x.cs] (.tup [.sl 1 ((JZ x b).1.map Zu) .any,eInt (JZ x b).2]):=by
 intro n H hn hT;have hxi:∀p,Inside n p (.iptr x.cs):=fun p=>(Zj (ZM fun c o=>x.bcs.mem c o)).inside
 have z:Wk (.sl 1 [] .full) (.sl 1 (([]:List Bnd).map Zu) .any):=.any _ _ _;refine aF func244 fun B=>?_
 refine gc ?_;refine cT (j132 F b x.L E) ?_;refine nR ?_;refine cT (j132 F b x.R G) ?_;have d:=E.exp;have a:=G.exp;have g:=ZfH x.L b;have k:=ZfH x.R b;have D:JZ x b=if(Xm x.L b).2≠0\/(Xm x.R b).2≠0 then([],J6 (Xm x.L b).2 (Xm x.R b).2)else(if(Xm x.L b).1.any (fun v=>(Xm x.R b).1.any (Wl x.op v))then [b]else [],0):=rfl
 rw[D];generalize Xm x.L b=pl at d g⊢;generalize Xm x.R b=pr at a k⊢;obtain⟨l,e⟩:=pl;obtain⟨r,f⟩:=pr;dsimp only at d g a k⊢;by_cases he:e=0
 ·have s:(e !=0)=false:=by simp[he]
  by_cases q:f=0
  ·have u:(f !=0)=false:=by simp[q]
   rw[if_neg (by simp[he,q])];refine nr ?_;simp only[go_sem,simprocAttr,eInt,s,u];refine gv ?_;repeat refine kn rfl ?_
   refine ZG (Zvp b x l r H) (fun i=>∀j (h:j<l.length),j<i->r.any (Wl x.op l[j])=false) l.length rfl ?_ (fun j _ h=>absurd h (Qj _)) ?_
   ·exact KK
   intro i M hq;refine ZV rfl ?_;rcases Qd i l.length with h|h
   ·have A:=d _ (Qa h);refine nq h ?_;refine nT ?_;refine nq2 (Tm.Zw _ _ h) h ?_;refine kK ?_;refine ZT 10 (l[i]).cs [(10,.iptr (l[i]).cs),(36,.int .i64 i),(35,.int .i64 l.length),(34,.sl 4 (l.map Tm.enc) .any),(7,.sl 4 (r.map Tm.enc) .any),(1,.iptr x.cs),(0,Zu b)] rfl ?_ ?_ trivial ?_
    ·exact ZM fun c o=>((l[i]).bcs.mem c o).inside
    ·exact⟨.inr ⟨0,rfl,rfl⟩,.inl ⟨.refl _,.int _ _⟩,.inl ⟨.refl _,.int _ _⟩,.inl ⟨.refl _,(ZB _).inside⟩,.inl ⟨.refl _,(ZB _).inside⟩,.inl ⟨.refl _,hxi _⟩,.inl ⟨.refl _,(ZH n b).inside⟩,trivial⟩
    refine nR ?_;refine cT (a46 r om 247 [.iptr x.cs,.iptr (l[i]).cs] (Wl x.op l[i]) ⟨⟨_,_,Zf func247 rfl rfl⟩,fun w J=>Abs.Pure.tabs (j134 x t l[i] w A (a w J)),fun m=>⟨Zj (ZM fun c o=>x.bcs.mem c o),Zj (l[i]).bcs,trivial⟩⟩) ?_;cases ha:r.any (Wl x.op l[i])with
    |true=>
     have y:(l.any fun v=>r.any (Wl x.op v))=true:=GR.2 ⟨l[i],Qa h,ha⟩;rw[if_pos y];refine gi ?_;refine⟨rfl,?_⟩;refine nW ?_;exact ZF (.any _ _ _) (.refl _) (ZI [b]) (.int _ _) rfl
    |false=>
     refine gm ?_;refine⟨fun j C I=>?_,?_⟩
     ·rcases Qd j i with h'|h'
      ·exact hq j C h'
      ·have:j=i:=om;subst this;exact ha
     ·exact KK
   ·have y:¬(l.any fun v=>r.any (Wl x.op v))=true:=by
     rw[Me,QaH];intro v K;obtain⟨j,C,rfl⟩:=QK K;rw[hq j C om];simp
    rw[if_neg y];refine nq (QC.2 h) ?_;refine gt ?_;exact ZF z (.refl _) (ZI []) (.int _ _) rfl
  ·have u:(f !=0)=true:=by simp[q]
   rw[if_pos (.inr q)];refine nr ?_;simp only[go_sem,simprocAttr,eInt,s,u];refine gi ?_;refine cP (j133 e f) ?_;refine nV ?_;exact ZF z (.refl _) (ZI []) (.int _ _) rfl
 ·have s:(e !=0)=true:=by simp[he]
  rw[if_pos (.inl he)];refine nr ?_;simp only[go_sem,simprocAttr,eInt,s];refine gi ?_;refine cP (j133 e f) ?_;refine nV ?_;exact ZF z (.refl _) (ZI []) (.int _ _) rfl
def Zo9(x:Lt)(b:Bnd):(JZ x b).1.length<=1:=by
 simp only[JZ];split
 ·simp
 ·split<;>simp
def prB(b d:AV)(a:List Bnd)(c:AV):Ze:=.box [b,d,.sl 1 (a.map Zu) .any,c]
def j89(t:ExpOK)(n:Nat)(H:Za)(s:Tabs H)(u:0<n)(l b:Nat)(p:l<n)(i f h:AV)(a:List Bnd)(g:a.length<=1000000)(o:H l b=some (prB i f a h))(d:Below n i/\Below n f/\Below n h)(x:Lt)(k:0<=x.op/\x.op<=255)
  (q:∀c∈a,BT c x.L/\BT c x.R):Zh prog n 180 [.ptr l b 0,x.enc] H fun r v=>r=eInt (Go.Abs.XA (JZ x) a).2/\v=H.upd l b (prB i f (Go.Abs.XA (JZ x) a).1 h):=by
 have j:l≠n:=om;refine aF func180 fun B=>?_
 refine gh ?_;refine ZT 3 x.cs [(0,.ptr l b 0),(3,.iptr x.cs)] rfl ?_ ?_ trivial ?_
 ·exact ZM fun c e=>(x.bcs.mem c e).inside
 ·exact⟨.inl ⟨.refl _,.ptr _ _ _ (.inl p)⟩,.inr ⟨0,rfl,rfl⟩,trivial⟩
 refine nR ?_;refine YS (caps:=[]) (avs:=[.ptr l b 0,.fn (.func 244) [.iptr x.cs]]) rfl (Zf func243 rfl rfl) (j130 (n+1) _ l b om i f h a g (by rw[Zi p];exact o) ⟨d.1.mono om,d.2.1.mono om,d.2.2.mono om⟩ 244 [.iptr x.cs] (JZ x)
  (.of om (s.full u) ⟨_,_,Zf func244 rfl rfl⟩ (fun c e=>j131 t c x k (q c e).1 (q c e).2) fun m _=>⟨Zj (ZM fun c e=>x.bcs.mem c e),trivial⟩) (fun c e=>by have:=Zo9 x c;omega)) sS ?_
 rintro r w ⟨rfl,rfl⟩;refine⟨[],H.upd l b (prB i f (Go.Abs.XA (JZ x) a).1 h),(Yj n _ H l b _ j).symm,.upd (Ze.Zy ⟨d.1,d.2.1,ZI _,d.2.2,trivial⟩),?_⟩;refine gw ?_;exact Zq (.refl _) (.int _ _) ⟨rfl,rfl⟩
def j137(b:Bnd)(c:Ja b)(a:b.length<=900000)(s:Str)(v:Tm):Pure prog 251 [v.enc,.iptr [Zu b],.iptr [.str s]] (Zu (WE s v b)):=by
 intro n H;refine aF func251 fun B=>?_
 refine gc ?_;refine cP (j138 b c a s v) ?_;refine nV ?_;exact Zb (.refl _) (ZH n _) rfl
def ZbH(s:Str)(t:Tm)(b:Bnd):List Bnd×Int:=((Xm t b).1.map fun v=>WE s v b,(Xm t b).2)
def j135(f:ExpOK)(b:Bnd)(s:Str)(t:Tm)(c:BT b t):Yb prog 249 [Zu b,.iptr t.cs,.iptr [.str s]] (.tup [.sl 1 ((ZbH s t b).1.map Zu) .any,eInt (ZbH s t b).2]):=by
 intro n H hn hT;have a:=ZfH t b;have d:ZbH s t b=((Xm t b).1.map fun v=>WE s v b,(Xm t b).2):=rfl;have g:=j132 f b t c;refine aF func249 fun B=>?_
 refine gh ?_;refine ZT 3 [Zu b] [(3,.iptr [Zu b]),(1,.iptr t.cs),(2,.iptr [.str s])] rfl ?_ ?_ trivial ?_
 ·exact⟨(ZH n b).inside,trivial⟩
 ·exact⟨.inr ⟨0,rfl,rfl⟩,.inl ⟨.refl _,(Zj t.bcs).inside⟩,.inl ⟨.refl _,(Zj (cs:=[.str s]) ⟨.str _,trivial⟩).inside⟩,trivial⟩
 refine nR ?_;refine cT (g) ?_;rw[d];generalize Xm t b=p at a⊢;obtain⟨l,e⟩:=p;dsimp only at a⊢;refine nR ?_;refine cT (j136 l om 251 [.iptr [Zu b],.iptr [.str s]] (fun v=>WE s v b) ⟨⟨_,_,Zf func251 rfl rfl⟩,fun v h=>Abs.Pure.tabs (j137 b c.gb.asc (by have:=c.len;omega) s v),fun m=>⟨Zj ⟨ZH m b,trivial⟩,Zj ⟨.str _,trivial⟩,trivial⟩⟩) ?_;refine nV ?_;exact ZF (.refl _) (.refl _) (ZI _) (.int _ _) rfl
def j91(u:ExpOK)(n:Nat)(H:Za)(q:Tabs H)(v:0<n)(l b:Nat)(o:l<n)(i f h:AV)(a:List Bnd)(g:a.length<=1000000)(k:H l b=some (prB i f a h))(d:Below n i/\Below n f/\Below n h)(s:Str)(t:Tm)(p:∀c∈a,BT c t):
  Zh prog n 182 [.ptr l b 0,.str s,t.enc] H fun r w=>r=eInt (Go.Abs.XA (ZbH s t) a).2/\w=H.upd l b (prB i f (Go.Abs.XA (ZbH s t) a).1 h):=by
 have j:l≠n:=om;refine aF func182 fun B=>?_
 refine gh ?_;refine ZT 4 [.str s] [(0,.ptr l b 0),(4,.iptr [.str s]),(5,.ptr n 5 0)] rfl ⟨.str _,trivial⟩ ?_ ⟨Ze.Zv (ZM fun c e=>(t.bcs.mem c e).inside),trivial⟩ ?_
 ·exact⟨.inl ⟨.refl _,.ptr _ _ _ (.inl o)⟩,.inr ⟨0,rfl,rfl⟩,.inl ⟨.refl _,.ptr _ _ _ (.inr ⟨rfl,dc⟩)⟩,trivial⟩
 refine aS ?_;refine ZT 5 t.cs [(0,.ptr l b 0),(4,.iptr [.str s]),(5,.iptr t.cs)] rfl ?_ ?_ trivial ?_
 ·exact ZM fun c e=>(t.bcs.mem c e).inside
 ·exact⟨.inl ⟨.refl _,.ptr _ _ _ (.inl o)⟩,.inl ⟨.refl _,(Zj (cs:=[.str s]) ⟨.str _,trivial⟩).inside⟩,.inr ⟨0,rfl,rfl⟩,trivial⟩
 refine nR ?_;refine YS (caps:=[]) (avs:=[.ptr l b 0,.fn (.func 249) [.iptr t.cs,.iptr [.str s]]]) rfl (Zf func243 rfl rfl) (j130 (n+1) _ l b om i f h a g (by rw[Zi o];exact k) ⟨d.1.mono om,d.2.1.mono om,d.2.2.mono om⟩ 249 [.iptr t.cs,.iptr [.str s]] (ZbH s t)
  (.of om (q.full v) ⟨_,_,Zf func249 rfl rfl⟩ (fun c e=>j135 u c s t (p c e)) fun m _=>⟨Zj t.bcs,Zj ⟨.str _,trivial⟩,trivial⟩) (fun c e=>by have:=ZfH t c;simp only[ZbH,Qv];omega)) sS ?_
 rintro r x ⟨rfl,rfl⟩;refine⟨[],H.upd l b (prB i f (Go.Abs.XA (ZbH s t) a).1 h),(Yj n _ H l b _ j).symm,.upd (Ze.Zy ⟨d.1,d.2.1,ZI _,d.2.2,trivial⟩),?_⟩;refine gw ?_;exact Zq (.refl _) (.int _ _) ⟨rfl,rfl⟩
end
def Zks(p:Bs)(m c:Int)(t:Bs):Yv tt 215 (.agg [.str p,.int .i64 m,.int .i64 c,.str t])=true:=by
 simp only[Yv,AV.cells,klAll,AV.kl];rfl
def a32(n:Nat)(H:Za)(l b:Nat)(s:Sto)(r:Sg)(c:Int)(v:Tm)(E:v.Good)(D:l<n)(w:Ya H l b s)(I:Zbn s.A)(hn:0<n)(hT:Tabs H)(f:∀i∈Y3 (⟨r,c,txt v⟩:Ak) s.R,0<=i/\i<s.A.length)(d:(Y3 (⟨r,c,txt v⟩:Ak) s.R).length<=1000000):
  PC prog n 323 [.ptr l b 0,r.enc,.int .i64 c,v.enc] H (.sl 2 ((if Zt v=true then ZgZ s.A (Y3 (⟨r,c,txt v⟩:Ak) s.R)else []).map Am.enc) .any):=by
 generalize C:(⟨r,c,txt v⟩:Ak)=g at*;have m:¬l=n:=om;have x:=w.box;have a:=w.arg;have t:XQ g.enc.kls ((ents Ak.enc l (b+6) 0 s.R).map fun p=>p.1.kls) 0=ZU g s.R 0:=ZaZ Ak.enc Zma g l (b+6) s.R 0 0;have o:∀p,p∈ents Ak.enc l (b+6) 0 s.R->Yv tt 215 p.1=true:=fun p J=>by
  obtain⟨k,q⟩:=ZbO _ _ _ _ _ _ J;rw[q];exact Zks _ _ _ _
 have G:=fun j h=>Jm Ak.enc l (b+6) s.R 0 j h (.dead,.dead)
 generalize ents Ak.enc l (b+6) 0 s.R=es at t o a G;have z:g.enc= .agg [.str r.p,.int .i64 r.n,.int .i64 c,.str (txt v)]:=by rw[<-C];rfl
 rw[z]at t;refine aF func323 fun B=>?_
 refine gc ?_;refine cQ (a55 (n+1) _ l b s om (w.full D _)) ?_;refine aS ?_;refine cT (a37 v E) ?_;cases y:Zt v with
 |false=>
  refine nTq y ?_;refine ge ?_;exact Zb (.any _ _ _) (Xj []) rfl
 |true=>
 refine nFq y ?_;rw[if_pos rfl];cases q:ZU g s.R 0 with
 |none=>
  have e:Y3 g s.R=[]:=by rw[Y3,q]
  rw[e]at f d;rw[q]at t;refine nD drawO ?_;simp only[go_sem,simprocAttr,m,x,a,ZR];refine cT (a58 v E y) ?_;simp only[go_sem,simprocAttr,m,x,a,ZR,Zks,lookA,Xv,t];refine⟨o,?_⟩;refine ZjT (Zf func380 rfl rfl) (Zh.args (a61 (n+1) _ l b s [] .full om (w.full D _) I om (hT.full hn) f d (Y1 [] (fun _ _ e=>by cases e))) (args':=[.ptr l b 0,.Xd]) ⟨.refl _,.sem fun _ _ h=>h.Zi7,trivial⟩) (by simp only[go_sem,simprocAttr,XI]) ?_;refine gw ?_;rw[e];exact Zb (.refl _) (Xj _) rfl
 |some j=>
  have K:=JO q;have u:j<s.R.length:=om;have e:Y3 g s.R=s.R[j].2:=by rw[Y3,q];simp[Qe u]
  rw[e]at f d;rw[q]at t;have F:=G j u;refine nD drawO ?_;simp only[go_sem,simprocAttr,m,x,a,ZR];refine cT (a58 v E y) ?_;simp only[go_sem,simprocAttr,m,x,a,ZR,Zks,lookA,Xv,t,F];refine⟨o,?_⟩;refine cQ (a61 (n+1) _ l b s s.R[j].2 (.buf l (b+6+2*(0+j))) om (w.full D _) I om (hT.full hn) f d (Y1 _ (fun _ _ e=>by cases e;omega))) ?_;simp only[go_sem,simprocAttr];refine nV ?_;rw[e];exact Zb (.refl _) (Xj _) rfl
def YW(H:Za)(l b:Nat):Prop:=∀k,b<=k->H l k=none
def sto0:Sto:=⟨[],[],[],[]⟩
def Zxd(H:Za)(l b:Nat)(h:YW H l b):(((H.upd l (b+2) (.map [])).upd l (b+3) (.map [])).upd l (b+4) (.map [])).upd l b (.box [.sl 2 [] .full,.map l (b+2),.map l (b+3),.map l (b+4)])=put H l b sto0:=by
 funext g k;unfold put;by_cases a:g=l
 ·subst a;rw[if_pos rfl,Y4];simp only[Za.upd,sto0,ZR,YA,UJ,ents,true_and,if_true,List.getElem?_nil,Qby];by_cases e:k=b
  ·subst e;simp
  ·by_cases c:k=b+2
   ·subst c;simp
   ·by_cases f:k=b+3
    ·subst f;simp
    ·by_cases d:k=b+4
     ·subst d;simp
     ·simp[e,c,f,d]
 ·rw[if_neg a];simp[Za.upd,a]
def Wi{b:Cx}{c:Code}{k:List Itm}{Q:Exit->Zc->Prop}{f:LN}{L:List (Nat×Ze)}{H:Za}(j l q:Nat)(x:Ze)(e:LN)(s:l<b.n)(d:H l q=none)(o:lkb L j=some x)(w:x.Below b.n)
  (v:ZW (fun p=>ZcX b.n j (lkv f p.1)/\Wk (ren b.n j l q (lkv f p.1)) p.2) e) (t:ZW (fun p=>ZW (fun a=>ZcX b.n j a) p.2.avs/\p.2.at_=[]/\p.2.isRec=false) (delb L j))
  (h:AKc b (.code c::k) Q ⟨e,Zb5 b.n j l q L,H.upd l q x⟩):AKc b (.code c::k) Q ⟨f,L,H⟩:=
 ZJ (ZjE j l q s d o w v.mem (fun p g=>by
  obtain⟨m,i,y⟩:=t.mem p g;exact⟨m.mem,⟨(fun r u=>absurd (i▸u) (QA)),y⟩⟩)) h
def a22(n:Nat)(H:Za)(l b:Nat)(hl:l<n)(f:YW H l b):Zh prog n 37 [] H (fun r o=>r= .ptr l b 0/\o=put H l b sto0):=by
 refine aF func37 fun B=>?_
 refine gk ?_;refine ZJ (s':=⟨[(0,.ptr n 5 0)],[(1,.map []),(2,.map []),(3,.map []),(5,.box [.sl 2 [] .full,.map n 1,.map n 2,.map n 3])],H⟩) ?_ ?_
 ·exact KK
 have c:¬l=n:=om;have hsl:∀q,Inside n q (.sl 2 [] .full):=fun q=>Xn (fun x hx=>by cases hx)
 have hmb:Ze.Below n (.map []):=⟨by simp[Ze.avs],by simp[Ze.at_]⟩
 have d:∀j,ZcX n j (.sl 2 [] .full):=fun j=>.inl (hsl _)
 have m:∀j k,k≠j->ZcX n j (.map n k):=fun j k h=>.inl (.map _ _ (.inr ⟨rfl,h⟩))
 have a:∀j k,ZcX n j (.map l k):=fun j k=>.inl (.map _ _ (.inl hl))
 have g:∀j k,k≠j->ZcX n j (.ptr n k 0):=fun j k h=>.inl (.ptr _ _ _ (.inr ⟨rfl,h⟩))
 refine Wi 1 l (b+2) _ [(0,.ptr n 5 0)] hl (f _ om) rfl hmb ⟨⟨g _ _ dc,by simp[lkv,ren];exact .refl _⟩,trivial⟩ ⟨⟨trivial,rfl,rfl⟩,⟨trivial,rfl,rfl⟩,⟨⟨d _,.inr (.inr (.inl rfl)),m _ _ dc,m _ _ dc,trivial⟩,rfl,rfl⟩,trivial⟩ ?_;simp only[go_sem,simprocAttr,Zb5,delb,Ze.J9,ren];refine Wi 2 l (b+3) _ [(0,.ptr n 5 0)] hl (by simp[Za.upd];exact f _ om) rfl hmb ⟨⟨g _ _ dc,by simp[lkv,ren];exact .refl _⟩,trivial⟩ ⟨⟨trivial,rfl,rfl⟩,⟨⟨d _,a _ _,.inr (.inr (.inl rfl)),m _ _ dc,trivial⟩,rfl,rfl⟩,trivial⟩ ?_;simp only[go_sem,simprocAttr,Zb5,delb,Ze.J9,ren,c,false_and,if_false];refine Wi 3 l (b+4) _ [(0,.ptr n 5 0)] hl (by simp[Za.upd];exact f _ om) rfl hmb ⟨⟨g _ _ dc,by simp[lkv,ren];exact .refl _⟩,trivial⟩ ⟨⟨⟨d _,a _ _,a _ _,.inr (.inr (.inl rfl)),trivial⟩,rfl,rfl⟩,trivial⟩ ?_;simp only[go_sem,simprocAttr,Zb5,delb,Ze.J9,ren,c,false_and,if_false];refine Wi 5 l b _ [(0,.ptr l b 0)] hl (by simp[Za.upd];exact f _ om) rfl (Ze.Zy ⟨.sl _ _ _ (fun i h=>absurd h (Qj _)) (fun _ _ e=>by cases e),.map _ _ hl,.map _ _ hl,.map _ _ hl,trivial⟩) ⟨⟨.inr (.inl ⟨0,rfl⟩),by simp[lkv,ren];exact .refl _⟩,trivial⟩ trivial ?_;simp only[go_sem,simprocAttr,Zb5,delb,Ze.J9,ren,c,false_and,if_false];refine nV ?_;exact⟨by simp[Y7],[.ptr l b 0],⟨.refl _,trivial⟩,by simp only[Qo,forall_eq];exact .ptr _ _ _ hl,rfl,Zxd H l b f⟩
section
variable {κ:Type} [DecidableEq κ]
def XZ(k:κ)(x:Int)(a:List (κ×List Int)):List (κ×List Int):=match ZU k a 0 with
 |some j=>a.set j (k,Y3 k a++[x])
 |none=>a++[(k,[x])]
theorem ZdA(a:κ->AV)(l b:Nat):∀(c:List (κ×List Int)) (i:Nat),(ents a l b i c).length=c.length
 |[],_=>rfl
 |p::r,i=>by simp only[ents,Qm,ZdA a l b r]
def Ze2(a:κ->AV)(l b:Nat)(p:κ×List Int):∀(c:List (κ×List Int)) (i:Nat),ents a l b i (c++[p])=ents a l b i c++[(a p.1,.sl 1 (intsOf p.2) (.buf l (b+2*(i+c.length))))]
 |[],i=>by simp[ents]
 |q::r,i=>by
  simp only[QN,ents,Ze2 a l b p r (i+1),Qm];rw[show i+1+r.length=i+(r.length+1) by omega]
theorem ZdB(a:κ->AV)(l b:Nat)(p:κ×List Int):∀(c:List (κ×List Int)) (i j:Nat),ents a l b i (c.set j p)=(ents a l b i c).set j (a p.1,.sl 1 (intsOf p.2) (.buf l (b+2*(i+j))))
 |[],i,j=>rfl
 |q::r,i,0=>by simp[ents]
 |q::r,i,j+1=>by
  simp only[ML,ents,ZdB a l b p r (i+1) j];rw[show i+1+j=i+(j+1) by omega]
def Zkt{k:κ}{b:Type}:∀{a:List (κ×b)} {i j:Nat},ZU k a i=some j-> ∃h:j - i<a.length,(a[j - i]).1=k
 |[],_,_,h=>by cases h
 |p::r,i,j,h=>by
  simp only[ZU]at h;split at h
  ·rename_i e;cases h;exact⟨sm,by simpa using e⟩
  ·obtain⟨d,c⟩:=Zkt h;have f:=(JO h).1;have e:j - i=(j - (i+1))+1:=om;refine⟨by rw[e];simp only[Qm];omega,?_⟩;simp only[e,Mc];exact c
def Zcr{k:κ}{a:List (κ×List Int)}{j:Nat}(h:ZU k a 0=some j):∃hj:j<a.length,a[j]=(k,Y3 k a):=by
 obtain⟨b,c⟩:=Zkt h;refine⟨b,?_⟩;have:Y3 k a=a[j].2:=by
  unfold Y3;rw[h];simp[Qe (show j<a.length from b)]
 rw[this];exact Qbr c rfl
def Bd(a:List (κ×List Int))(m:Nat):Prop:=∀p∈a,p.2.length<=m
def Bd.ix{k:κ}{es:List (κ×List Int)}{m:Nat}(h:Bd es m):(Y3 k es).length<=m:=by
 unfold Y3;cases hk:ZU k es 0 with
 |none=>simp
 |some j=>
  have a:=JO hk;have:j<es.length:=om;simp only[Qe this,Ut,Ul];exact h _ (Qa this)
def Bd.add{k:κ}{x:Int}{es:List (κ×List Int)}{m:Nat}(h:Bd es m):Bd (XZ k x es) (m+1):=by
 intro p hp;unfold XZ at hp;split at hp
 ·rcases Qar hp with hp|rfl
  ·exact Qbh (h p hp)
  ·have:=h.ix (k:=k);simp;exact this
 ·rcases Qr.1 hp with hp|hp
  ·exact Qbh (h p hp)
  ·simp only[Qo]at hp;subst hp;simp
def JD{n l b:Nat}(enc:κ->AV)(hl:l<n)(he:∀k,Below n (enc k)):∀(es:List (κ×List Int)) (i:Nat),∀p∈ents enc l b i es,Below n p.1/\Below n p.2
 |[],_,p,h=>by cases h
 |q::r,i,p,h=>by
  simp only[ents,Ql]at h;rcases h with rfl|h
  ·exact⟨he _,Y1 _ (fun _ _ e=>by cases e;exact hl)⟩
  ·exact JD enc hl he r (i+1) p h
end
section
variable {n:Nat}
def Xk{c:List (AV×AV)}(h:∀p∈c,Below n p.1/\Below n p.2):Ze.Below n (.map c):=by
 refine⟨fun a ha=>?_,by simp[Ze.at_]⟩;rcases Qr.1 ha with ha|ha<;>obtain⟨p,b,rfl⟩:=Qg.1 ha
 ·exact(h p b).1
 ·exact(h p b).2
def Wh(n e a b:Nat):Ze.Below n (.buf e a b):=⟨by simp[Ze.avs],by simp[Ze.at_]⟩
def Ak.blw(n:Nat)(k:Ak):Below n k.enc:=Yt (by simp only[Ql,QA,or_false,forall_eq_or_imp,forall_eq];exact⟨.str _,.int _ _,.int _ _,.str _⟩)
def ZhJ(N:List (Bs×Int)):∀p∈N.map Zde,Below n p.1/\Below n p.2:=fun p a=>by
 obtain⟨q,_,rfl⟩:=Qg.1 a;exact⟨.str _,.int _ _⟩
def Zgf{l b:Nat}(a:l<n)(A:List Am):Ze.Below n (.box (ZR l b A)):=by
 refine Ze.Zy ⟨?_,.map _ _ a,.map _ _ a,.map _ _ a,trivial⟩;unfold YA;split
 ·exact .sl _ _ _ (fun i h=>absurd h (Qj _)) (fun _ _ e=>by cases e)
 ·exact YR (mB fun u=>u.blw n) (fun _ _ e=>by cases e;exact a)
section
variable {H:Za} {l b:Nat} {s:Sto}
def Zd3(a:YW H l b){k:Nat}(c:b<=k):put H l b s l k=lkb (lst l b s) k:=by
 unfold put;rw[if_pos rfl,a k c,Option.or_none]
def Zsi(d:YW H l b)(N:List (Bs×Int)):(put H l b s).upd l (b+2) (.map (N.map Zde))=put H l b ⟨s.A,N,s.S,s.R⟩:=by
 funext c k;unfold Za.upd put;by_cases a:c=l
 ·subst a;simp only[true_and,if_true,Y4];by_cases h:k=b+2
  ·subst h;simp[Zde]
  ·simp[h]
 ·simp[a]
theorem Zbe(H:Za)(l b:Nat)(s:Sto)(a k:Nat):put H l b s a k=if a=l then(lkb (lst l b s) k).or (H a k)else H a k:=rfl
def Zk1(hf:YW H l b)(p:Sg×List Int)(m:Ze):
  (((put H l b s).upd l (b+3) m).upd l (b+5+2*s.S.length) (.buf 3 1 p.2.length)).upd l (b+3) (.map (ents Sg.enc l (b+5) 0 (s.S++[p])))=put H l b ⟨s.A,s.N,s.S++[p],s.R⟩:=by
 funext l' k;simp only[Za.upd,Zbe];by_cases hl:l'=l
 ·subst hl;simp only[true_and,if_true,Y4];by_cases h:k=b+3
  ·subst h;simp
  ·simp only[h,if_false];by_cases c:k=b+5+2*s.S.length
   ·subst c;rw[if_pos rfl,if_neg om,if_neg om,if_neg om,if_neg om,if_pos om];have:(b+5+2*s.S.length - (b+5)) / 2=s.S.length:=om;rw[this];simp
   ·rw[if_neg c];by_cases a:b+5<=k/\(k - (b+5)) % 2=0
    ·rw[if_pos a,if_pos a];have:(k - (b+5)) / 2≠s.S.length:=om;have e:(s.S++[p])[(k - (b+5)) / 2]? =s.S[(k - (b+5)) / 2]?:=by
      rcases Qd ((k - (b+5)) / 2) s.S.length with h4|h4
      ·rw[UF h4]
      ·rw[Uw (by simp;omega),Uw h4]
     rw[e]
    ·rw[if_neg a,if_neg a]
 ·simp[hl]
def Zk2(hf:YW H l b)(p:Sg×List Int)(j:Nat)(d:j<s.S.length)(m:Ze):
  (((put H l b s).upd l (b+3) m).upd l (b+5+2*j) (.buf 3 1 p.2.length)).upd l (b+3) (.map (ents Sg.enc l (b+5) 0 (s.S.set j p)))=put H l b ⟨s.A,s.N,s.S.set j p,s.R⟩:=by
 funext l' k;simp only[Za.upd,Zbe];by_cases hl:l'=l
 ·subst hl;simp only[true_and,if_true,Y4];by_cases h:k=b+3
  ·subst h;simp
  ·simp only[h,if_false];by_cases c:k=b+5+2*j
   ·subst c;rw[if_pos rfl,if_neg om,if_neg om,if_neg om,if_neg om,if_pos om];have:(b+5+2*j - (b+5)) / 2=j:=om;rw[this];simp[d]
   ·rw[if_neg c];by_cases a:b+5<=k/\(k - (b+5)) % 2=0
    ·rw[if_pos a,if_pos a];rw[QaV om]
    ·rw[if_neg a,if_neg a]
 ·simp[hl]
def ZkZ(hf:YW H l b)(p:Ak×List Int)(m:Ze):
  (((put H l b s).upd l (b+4) m).upd l (b+6+2*s.R.length) (.buf 3 1 p.2.length)).upd l (b+4) (.map (ents Ak.enc l (b+6) 0 (s.R++[p])))=put H l b ⟨s.A,s.N,s.S,s.R++[p]⟩:=by
 funext l' k;simp only[Za.upd,Zbe];by_cases hl:l'=l
 ·subst hl;simp only[true_and,if_true,Y4];by_cases h:k=b+4
  ·subst h;simp
  ·simp only[h,if_false];by_cases c:k=b+6+2*s.R.length
   ·subst c;rw[if_pos rfl,if_neg om,if_neg om,if_neg om,if_neg om,if_neg om,if_pos om];have:(b+6+2*s.R.length - (b+6)) / 2=s.R.length:=om;rw[this];simp
   ·rw[if_neg c];by_cases a:b+6<=k/\(k - (b+6)) % 2=0
    ·rw[if_pos a,if_pos a];have:(k - (b+6)) / 2≠s.R.length:=om;have e:(s.R++[p])[(k - (b+6)) / 2]? =s.R[(k - (b+6)) / 2]?:=by
      rcases Qd ((k - (b+6)) / 2) s.R.length with h4|h4
      ·rw[UF h4]
      ·rw[Uw (by simp;omega),Uw h4]
     rw[e]
    ·rw[if_neg a,if_neg a]
 ·simp[hl]
def Zk0(hf:YW H l b)(p:Ak×List Int)(j:Nat)(d:j<s.R.length)(m:Ze):
  (((put H l b s).upd l (b+4) m).upd l (b+6+2*j) (.buf 3 1 p.2.length)).upd l (b+4) (.map (ents Ak.enc l (b+6) 0 (s.R.set j p)))=put H l b ⟨s.A,s.N,s.S,s.R.set j p⟩:=by
 funext l' k;simp only[Za.upd,Zbe];by_cases hl:l'=l
 ·subst hl;simp only[true_and,if_true,Y4];by_cases h:k=b+4
  ·subst h;simp
  ·simp only[h,if_false];by_cases c:k=b+6+2*j
   ·subst c;rw[if_pos rfl,if_neg om,if_neg om,if_neg om,if_neg om,if_neg om,if_pos om];have:(b+6+2*j - (b+6)) / 2=j:=om;rw[this];simp[d]
   ·rw[if_neg c];by_cases a:b+6<=k/\(k - (b+6)) % 2=0
    ·rw[if_pos a,if_pos a];rw[QaV om]
    ·rw[if_neg a,if_neg a]
 ·simp[hl]
def Zo2(hf:YW H l b)(a:Am):
  ((put H l b s).upd l (b+1) (.buf 33 2 (s.A.length+1))).upd l b (.box (ZR l b (s.A++[a])))=put H l b ⟨s.A++[a],s.N,s.S,s.R⟩:=by
 funext l' k;simp only[Za.upd,Zbe];by_cases hl:l'=l
 ·subst hl;simp only[true_and,if_true,Y4];by_cases h:k=b
  ·subst h;simp
  ·simp only[h,if_false];by_cases c:k=b+1
   ·subst c;rw[if_pos rfl,if_neg om,if_neg om,if_neg om,if_pos rfl,if_neg sm];simp
   ·simp only[if_neg c]
 ·simp[hl]
end
end
def X9(a:Am):List Ak:=a.args.zipIdx.map fun p=>⟨a.sg,p.2,txt p.1⟩
def ZcG(s:Sto)(a:Am):Sto:=⟨s.A++[a],s.N++[(JC a,(s.A.length:Int))],XZ a.sg s.A.length s.S,(X9 a).foldl (fun R k=>XZ k (s.A.length:Int) R) s.R⟩
def Jf(s:Sto)(a:Am):Sto×Bool×Int:=
 if YO a=false then(s,false,2)else if(ZU (JC a) s.N 0).isSome=true then(s,false,0)else if s.A.length=2000 then(s,false,5)else(ZcG s a,true,0)
structure Fit (s:Sto):Prop where
 A:s.A.length<=2000
 S:Bd s.S 100000
 R:Bd s.R 100000
 g:Zbn s.A
section
variable {κ:Type}
def Zgv [DecidableEq κ](c:κ->AV)(e:∀a b,(c a).kls=(c b).kls->a=b)(k:κ)(l b:Nat)(d:List (κ×List Int)):Xv (c k) (ents c l b 0 d)=ZU k d 0:=ZaZ c e k l b d 0 0
theorem Zl7{b:Type} [DecidableEq κ]{k:κ}{a:List (κ×b)}(h:(ZU k a 0).isSome=false):ZU k a 0=none:=by
 cases c:ZU k a 0 with
 |none=>rfl
 |some j=>rw[c]at h;cases h
def op9:Opt:=⟨true,true,fun _=>.auto,[7]⟩
def op15:Opt:=⟨true,true,fun d=>if d=68 then .heap else .auto,[10]⟩
def opS(l q:Nat)(a:Bool):Opt:=⟨true,false,fun d=>if d=55 then(if a then .place l q false else .heap)else .auto,[]⟩
def opR(l q:Nat)(a:Bool):Opt:=⟨true,false,fun d=>if d=79 then(if a then .place l q false else .heap)else .auto,[]⟩
def opA(l q:Nat)(a:Bool):Opt:=⟨true,false,fun d=>if d=91 then(if a then .place l q false else .heap)else .auto,[]⟩
def Rat(s:Sto)(a:Am)(i:Nat):List (Ak×List Int):=((X9 a).take i).foldl (fun R k=>XZ k (s.A.length:Int) R) s.R
def Zvw(n l b:Nat)(s:Sto)(a:Am)(H:Za)(i:Nat):Zc:=
 ⟨[(60,.int .i64 i),(58,.sl 4 (a.args.map Tm.enc) .any),(59,.int .i64 a.args.length),(0,.ptr l b 0),(3,.ptr n 3 0),(6,.int .i64 s.A.length),(7,.ptr n 7 0)],[(3,.box a.cs),(7,.box a.sg.cs)],
  put H l b ⟨s.A,s.N,s.S,Rat s a i⟩⟩
variable {l b:Nat} {H:Za}
def ZqD{s:Sto}{k:Nat}(h:k<b):put H l b s l k=H l k:=by
 rw[Zbe,if_pos rfl,Y4,if_neg om,if_neg om,if_neg om,if_neg om,if_neg om,if_neg om,if_neg om];rfl
def WQ{s:Sto}{a k:Nat}(h:a≠l):put H l b s a k=H a k:=by
 rw[Zbe,if_neg h]
def Tabs.put{H:Za}{l b:Nat}(f:Tabs H)(e:YW H l b)(s:Sto):Tabs (Go.Abs.put H l b s):=by
 have a:∀k x,H 0 k=some x->Go.Abs.put H l b s 0 k=H 0 k:=fun k x d=>by
  by_cases h:0=l
  ·subst h;refine ZqD ?_;rcases Qd k b with h1|h1
   ·exact h1
   ·rw[e k h1]at d;cases d
  ·exact WQ h
 obtain⟨m,t,g,h1,c⟩:=f;exact⟨m,t,g,by rw[a _ _ h1];exact h1,by rw[a _ _ c];exact c⟩
variable {j:Nat}
def Znn [DecidableEq κ](c:κ->AV)(n:∀a b,(c a).kls=(c b).kls->a=b)(k:κ)(l b:Nat)(d:List (κ×List Int))(m:Zp)(h:ZU k d 0=some j):
  Zfp m (c k) (ents c l b 0 d)=(.tup [.sl 1 (intsOf (Y3 k d)) (.buf l (b+2*j)),.int .i64 j],ents c l b 0 d):=by
 obtain⟨i,e⟩:=Zcr h;have g:=Jm c l b d 0 j i (.dead,.dead);rw[e,Qy]at g;unfold Zfp;rw[Zgv c n,h];simp only[g];refine Qbr rfl ?_;have f:=ZdB c l b d[j] d 0 j;rw[QbC,e,Qy]at f;exact f.symm
def Znm [DecidableEq κ](c:κ->AV)(f:∀a b,(c a).kls=(c b).kls->a=b)(k:κ)(l b:Nat)(d:List (κ×List Int))(e:Zp)(h:ZU k d 0=none):
  Zfp e (c k) (ents c l b 0 d)=(.tup [XI e,.int .i64 d.length],ents c l b 0 d++[(c k,XI e)]):=by
 unfold Zfp;rw[Zgv c f,h,ZdA]
def ZhY{α:Type}(es:List α)(m:Nat)(h:es.length=m)(x d:α):(es++[x]).getD m d=x:=by
 subst h;rw[Qk];simp
def Zla{α:Type}(es:List α)(m:Nat)(h:es.length=m)(x q:α):(es++[x]).set m q=es++[q]:=by
 subst h;simp
def ZhO [DecidableEq κ](a:κ->AV)(l b:Nat)(c:List (κ×List Int))(k:κ)(x:Int):ents a l b 0 c++[(a k,.sl 1 [.int .i64 x] (.buf l (b+2*c.length)))]=ents a l b 0 (c++[(k,[x])]):=by
 rw[Ze2,Qy];rfl
def Q23(n:Nat)(a:Za):Exit->Zc->Prop:=PostF prog tt n Tryz.f38.results.toList fun r G=>r=AV.tup [AV.bool true,eInt 0]/\G=a
def ZpR(s:Sto)(hf:YW H l b)(X:Ze):((put H l b s).upd l (b+3) X) l (b+5+2*s.S.length)=none:=by
 rw[Za.upd_ne _ _ om,Zd3 hf om,Y4,if_neg om,if_neg om,if_neg om,if_neg om,if_neg om,if_pos om];have:(b+5+2*s.S.length - (b+5)) / 2=s.S.length:=om;rw[this];simp
def ZpQ(s:Sto)(hf:YW H l b)(X:Ze):((put H l b s).upd l (b+4) X) l (b+6+2*s.R.length)=none:=by
 rw[Za.upd_ne _ _ om,Zd3 hf om,Y4,if_neg om,if_neg om,if_neg om,if_neg om,if_neg om,if_neg om,if_pos om];have:(b+6+2*s.R.length - (b+6)) / 2=s.R.length:=om;rw[this];simp
def Zr9(s:Sto)(a:j<s.S.length)(X:Ze):((put H l b s).upd l (b+3) X) l (b+5+2*j)=some (.buf 3 1 s.S[j].2.length):=by
 rw[Za.upd_ne _ _ om];refine Ya.put H l b s _ _ ?_;rw[Y4,if_neg om,if_neg om,if_neg om,if_neg om,if_neg om,if_pos om];have:(b+5+2*j - (b+5)) / 2=j:=om;rw[this,Qe a];rfl
def Zr8(s:Sto)(a:j<s.R.length)(X:Ze):((put H l b s).upd l (b+4) X) l (b+6+2*j)=some (.buf 3 1 s.R[j].2.length):=by
 rw[Za.upd_ne _ _ om];refine Ya.put H l b s _ _ ?_;rw[Y4,if_neg om,if_neg om,if_neg om,if_neg om,if_neg om,if_neg om,if_pos om];have:(b+6+2*j - (b+6)) / 2=j:=om;rw[this,Qe a];rfl
def ZcM(p:List Int)(x:Int):intsOf p++[.int .i64 x]=intsOf (p++[x]):=by simp[intsOf]
def ZgG(p:List Int):(intsOf p).length=p.length:=by simp[intsOf]
def Zwe(n:Nat)(H:Za)(l b:Nat)(s:Sto)(a:Am)(f:l<n)(r:YW H l b)(y:s.A.length<=2000)(w:a.Good)(hn:0<n)(q:Tabs H)(B:Base)(t:LN)(j:lkv t 0= .ptr l b 0)(k:lkv t 3= .ptr n 3 0)(L:List (Nat×Ze))(o:lkb L 3=some (.box a.cs)):
  AKc ⟨prog,tt,⟨none,B⟩,n,Tryz.f38.ntmps⟩ [.code (Zz Tryz.f38).snd.snd.snd.snd.snd.snd] (Q23 n (put H l b ⟨s.A++[a],s.N,s.S,s.R⟩)) ⟨t,L,put H l b s⟩:=by
 have d:¬l=n:=om;have p:=Ya.put H l b s;have m:=p.box;have hT:=q.put r s;have i:=Zo2 (s:=s) r a;unfold Q23;by_cases g:s.A=[]
 ·have v:put H l b s l (b+1)=none:=by rw[Zd3 r om,Y4,if_neg om,if_neg om,if_neg om,if_neg om,if_pos rfl,if_pos g]
  have h:∀Y,((put H l b s).upd l (b+1) Y) l b=(put H l b s) l b:=fun Y=>Za.upd_ne _ _ om
  generalize put H l b s=G at*;refine kK ?_;refine Vf tok mixed (opA l (b+1) true) rfl rfl (by kernel_rfl) (by kernel_rfl) ?_;simp only[go_sem,simprocAttr,opA,QS,Nat.reduceBEq,Uj,UE,Nat.reduceEqDiff,d,m,j,k,o,ZR,YA,g];refine cT (a59 a w) ?_;simp only[go_sem,simprocAttr,opA,QS,Nat.reduceBEq,Uj,UE,Nat.reduceEqDiff,d,m,j,k,o,ZR,YA,g,v,h];refine⟨dc,⟨om,Zn om⟩,.inr (Wh _ _ _ _),.inr ?_,?_⟩
  ·refine Ze.Zy ⟨YR (fun x hx=>?_) (fun _ _ e=>by cases e;exact f),.map _ _ f,.map _ _ f,.map _ _ f,trivial⟩;simp only[Qo]at hx;subst hx;exact a.blw n
  have c:(G.upd l (b+1) (.buf 33 2 1)).upd l b (.box [.sl 2 [a.enc] (.buf l (b+1)),.map l (b+2),.map l (b+3),.map l (b+4)])=put H l b ⟨s.A++[a],s.N,s.S,s.R⟩:=by
   rw[<-i,g];rfl
  rw[c,g];refine ge ?_;exact ZF (.refl _) (.refl _) (.bool _) (.int _ _) rfl
 ·have v:put H l b s l (b+1)=some (.buf 33 2 s.A.length):=Ya.put H l b s _ _ (by rw[Y4,if_neg om,if_neg om,if_neg om,if_neg om,if_pos rfl,if_neg g]);have h:∀Y,((put H l b s).upd l (b+1) Y) l b=(put H l b s) l b:=fun Y=>Za.upd_ne _ _ om
  generalize put H l b s=G at*;refine kK ?_;refine Vf tok mixed (opA l (b+1) false) rfl rfl (by kernel_rfl) (by kernel_rfl) ?_;simp only[go_sem,simprocAttr,opA,QS,Nat.reduceBEq,Uj,UE,Nat.reduceEqDiff,d,m,j,k,o,ZR,YA,g];refine cT (a59 a w) ?_;simp only[go_sem,simprocAttr,opA,QS,Nat.reduceBEq,Uj,UE,Nat.reduceEqDiff,d,m,j,k,o,ZR,YA,g,v,h];refine⟨dc,⟨Zn om,om⟩,.inr (Wh _ _ _ _),.inr ?_,?_⟩
  ·refine Ze.Zy ⟨YR (fun x hx=>?_) (fun _ _ e=>by cases e;exact f),.map _ _ f,.map _ _ f,.map _ _ f,trivial⟩;rcases Qr.1 hx with hx|hx
   ·obtain⟨u,_,rfl⟩:=Qg.1 hx;exact u.blw n
   ·simp only[Qo]at hx;subst hx;exact a.blw n
  have c:(G.upd l (b+1) (.buf 33 2 (s.A.length+1))).upd l b (.box [.sl 2 (s.A.map Am.enc++[a.enc]) (.buf l (b+1)),.map l (b+2),.map l (b+3),.map l (b+4)])=put H l b ⟨s.A++[a],s.N,s.S,s.R⟩:=by
   rw[<-i];simp[ZR,YA]
  rw[c];refine ge ?_;exact ZF (.refl _) (.refl _) (.bool _) (.int _ _) rfl
def Zhc{a:Am}{t:Tm}(h:YO a=true)(b:t∈a.args):Zt t=true:=by
 simp only[YO,Qb,Qw]at h;exact h.2 t b
def ZmR{a:Am}(h:YO a=true):a.args.length<=8:=by
 simp only[YO,Qb,decide_eq_true_eq]at h;omega
def ZlF{s:Sto}{a:Am}{m:Nat}(h:Bd s.R m):∀i,Bd (Rat s a i) (m+i)
 |0=>by rw[Rat,Qam,QbD];exact h
 |i+1=>by
  rcases Qd i (X9 a).length with hi|hi
  ·rw[Rat,ZgB _ _ _ _ hi];exact(ZlF h i).add
  ·have:=ZlF (a:=a) h i;rw[Rat,Ud om];rw[Rat,Ud hi]at this;exact fun p b=>Qbh (this p b)
def Zad(a:Am):(X9 a).length=a.args.length:=by simp[X9]
def ZlL(a:Am)(i:Nat)(h:i<a.args.length):(X9 a)[i]'(by rw[Zad];exact h)=⟨a.sg,i,txt a.args[i]⟩:=by simp[X9]
def Zp9(p:Bs)(m c:Int)(t:Bs):Yv tt 215 (.agg [.str p,.int .i64 m,.int .i64 c,.str t])=true:=Zks p m c t
def Zwd(n:Nat)(H:Za)(l b:Nat)(s:Sto)(a:Am)(hl:l<n)(O:YW H l b)(aw:s.A.length<=2000)(hR:Bd s.R 100000)(ha:a.Good)(az:YO a=true)(hn:0<n)(U:Tabs H)(B:Base):
  AKc ⟨prog,tt,⟨none,B⟩,n,Tryz.f38.ntmps⟩ [.code (Zz Tryz.f38).snd.snd.snd.snd.snd] (Q23 n (put H l b ⟨s.A++[a],s.N,s.S,Rat s a a.args.length⟩))
   ⟨[(0,.ptr l b 0),(3,.ptr n 3 0),(6,.int .i64 s.A.length),(7,.ptr n 7 0)],[(3,.box a.cs),(7,.box a.sg.cs)],put H l b s⟩:=by
 have w:¬l=n:=om;have a0:=ha.len;obtain⟨Q,hQ⟩:∃Q,Q=Q23 n (put H l b ⟨s.A++[a],s.N,s.S,Rat s a a.args.length⟩):=⟨_,rfl⟩
 rw[<-hQ];have a2:s=⟨s.A,s.N,s.S,Rat s a 0⟩:=rfl;refine ZbY rfl ?_;refine Zah (Zvw n l b s a H a.args.length) ?_ ?_
 ·refine gh ?_;refine Zx (Zvw n l b s a H) a.args.length rfl ?_ ?_
  ·exact KK
  intro i hi;refine ZV rfl ?_;rcases Qd i a.args.length with h|h
  ·refine nq h ?_;refine nT ?_;refine nq2 (Tm.Zw _ _ h) h ?_;refine kK ?_;have L:=Ya.put H l b ⟨s.A,s.N,s.S,Rat s a i⟩;have hb:=L.box;have o:=L.arg;have hT:=U.put O ⟨s.A,s.N,s.S,Rat s a i⟩;have Z:=ZlF (a:=a) hR i;simp only at o;have V:Zt a.args[i]=true:=Zhc az (Qa h);have t:Rat s a (i+1)=XZ ⟨a.sg,i,txt a.args[i]⟩ s.A.length (Rat s a i):=by
    rw[Rat,ZgB _ _ _ _ (by rw[Zad];exact h),ZlL a i h];rfl
   refine Vf tok mixed op15 rfl rfl (by kernel_rfl) (by kernel_rfl) ?_;simp only[go_sem,simprocAttr,op15,QS,Nat.reduceBEq,Uj,UE,Nat.reduceEqDiff,w];refine Zgj (Zf func125 rfl rfl) (fun G hG=>a58 _ (ha.arg (Qa h)) V _ _ (UR _) (hT.up (fun k=>?_))) sS ?_
   ·rw[hG 0 k (fun e=>absurd e (Qa1 hn))];exact Zi hn _ _ _
   simp only[go_sem,simprocAttr,op15,QS,Nat.reduceBEq,Uj,UE,Nat.reduceEqDiff,w];have D:∃c0,ZR l b s.A=[c0,.map l (b+2),.map l (b+3),.map l (b+4)]:=⟨_,rfl⟩
   obtain⟨c0,ax⟩:=D;simp only[ax]at hb;obtain⟨k,hkk0⟩:∃k:Ak,k=⟨a.sg,i,txt a.args[i]⟩:=⟨_,rfl⟩
   have M:k.enc= .agg [.str a.sg.p,.int .i64 a.sg.n,.int .i64 i,.str (txt a.args[i])]:=by rw[hkk0];rfl
   rw[<-hkk0]at t;generalize a1:Rat s a i=R at*;have K:∀p,p∈ents Ak.enc l (b+6) 0 R->Yv tt 215 p.1=true:=fun p hp=>by
    obtain⟨k,E⟩:=ZbO _ _ _ _ _ _ hp;rw[E];exact Zks _ _ _ _
   have y:=JD (b:=b+6) Ak.enc hl (Ak.blw n) R 0;have m:=ZdA Ak.enc l (b+6) R 0;have W:∀G:Za,∀X,(G.upd l (b+4) X) l (b+4)=some X:=fun G X=>Za.upd_same _ _ _ _
   have P:∀(G:Za) (X Y) (j:Nat),((G.upd l (b+4) X).upd l (b+6+2*j) Y) l (b+4)=some X:=fun G X Y j=>by
    rw[Za.upd_ne _ _ om,Za.upd_same]
   cases E:ZU k R 0 with
   |none=>
    have c:=fun re=>Znm Ak.enc Zma k l (b+6) R re E
    have J:=ZhO Ak.enc l (b+6) R k s.A.length;have I:=fun X=>ZpQ ⟨s.A,s.N,s.S,R⟩ O (l:=l) X
    have f:=ZkZ (s:=⟨s.A,s.N,s.S,R⟩) O (k,[(s.A.length:Int)]);have r:XZ k (s.A.length:Int) R=R++[(k,[(s.A.length:Int)])]:=by rw[XZ,E]
    have au:=fun x d=>ZhY (α:=AV×AV) _ _ m x d
    have hsl:=fun x q=>Zla (α:=AV×AV) _ _ m x q
    have g:=Ak.blw n k;simp only[M]at c J g;simp only at I f;generalize ents Ak.enc l (b+6) 0 R=es at*;generalize put H l b ⟨s.A,s.N,s.S,R⟩=G at*;refine kK ?_;refine Vf tok mixed (opR l (b+6+2*R.length) true) rfl rfl (by kernel_rfl) (by kernel_rfl) ?_;simp only[go_sem,simprocAttr,opR,QS,Nat.reduceBEq,Uj,UE,Nat.reduceEqDiff,w,hb,o,c,I,P,W,XI,m,Zp9,au,hsl];refine⟨dc,fun p hp=>K p hp,.inr (Xk fun p hp=>?_),⟨om,Zn om⟩,.inr (Wh _ _ _ _),by simp[m],.inr (Xk fun p hp=>?_),?_⟩
    ·rcases Qr.1 hp with hp|hp
     ·exact y p hp
     ·simp only[Qo]at hp;subst hp;exact⟨g,.sl _ _ _ (fun i h=>absurd h (Qj _)) (fun _ _ e=>by cases e)⟩
    ·rcases Qr.1 hp with hp|hp
     ·exact y p hp
     ·simp only[Qo]at hp;subst hp;exact⟨g,Y1 [(s.A.length:Int)] (fun _ _ e=>by cases e;exact hl)⟩
    rw[J];have v:=f (.map (es++[(AV.agg [AV.str a.sg.p,AV.int .i64 a.sg.n,AV.int .i64 i,AV.str (txt a.args[i])],AV.sl 1 [] .full)]));simp only[Qm,Qz,Qy]at v;rw[v,<-r,<-t];refine gd ?_;apply kZ;repeat' first|apply q0|exact xx|apply aI
    all_goals first|exact Inside.ptr _ _ _ (.inl hl)|skip
    refine aS ?_;rw[iw];exact .refl _
   |some j=>
    obtain⟨hj,av⟩:=Zcr E;have c:=fun re=>Znn Ak.enc Zma k l (b+6) R re E
    have C:=Jm Ak.enc l (b+6) R 0 j hj (.dead,.dead);have z:=fun X=>Zr8 (l:=l) (b:=b) (H:=H) ⟨s.A,s.N,s.S,R⟩ (j:=j) hj X
    have aq:=Z.ix (k:=k);have r:XZ k (s.A.length:Int) R=R.set j (k,Y3 k R++[(s.A.length:Int)]):=by rw[XZ,E]
    have u:=ZdB Ak.enc l (b+6) (k,Y3 k R++[(s.A.length:Int)]) R 0 j;have f:=Zk0 (s:=⟨s.A,s.N,s.S,R⟩) O (k,Y3 k R++[(s.A.length:Int)]) j hj;simp only[av,Qy]at z C u;have g:=Ak.blw n k;simp only[M]at c C u g;simp only[Qh,Qm,Qz,Qy]at f;have F:∀p∈(ents Ak.enc l (b+6) 0 R).set j (AV.agg [AV.str a.sg.p,AV.int .i64 a.sg.n,AV.int .i64 i,AV.str (txt a.args[i])],.sl 1 (intsOf (Y3 k R++[(s.A.length:Int)])) (.buf l (b+6+2*j))),Below n p.1/\Below n p.2:=fun p hp=>by
     rcases Qar hp with hp|rfl
     ·exact y p hp
     ·exact⟨g,Y1 _ (fun _ _ e=>by cases e;exact hl)⟩
    generalize Y3 k R=ix at*;generalize ents Ak.enc l (b+6) 0 R=es at*;generalize put H l b ⟨s.A,s.N,s.S,R⟩=G at*;refine kK ?_;refine Vf tok mixed (opR 0 0 false) rfl rfl (by kernel_rfl) (by kernel_rfl) ?_;simp only[go_sem,simprocAttr,opR,QS,Nat.reduceBEq,Uj,UE,Nat.reduceEqDiff,w,hb,o,c,z,P,W,XI,m,Zp9,C,ZgG,ZcM];refine⟨dc,fun p hp=>K p hp,.inr (Xk y),⟨Zn om,om⟩,.inr (Wh _ _ _ _),om,.inr (Xk F),?_⟩;rw[<-u,f,<-r,<-t];refine gd ?_;apply kZ;repeat' first|apply q0|exact xx|apply aI
    all_goals first|exact Inside.ptr _ _ _ (.inl hl)|skip
    refine aS ?_;rw[iw];exact .refl _
  ·refine nq (QC.2 h) ?_;refine gJ ?_;refine⟨rfl,?_⟩;have ay:i=a.args.length:=om;subst ay;exact KK
 ·rw[hQ];exact Zwe n H l b ⟨s.A,s.N,s.S,Rat s a a.args.length⟩ a hl O aw ha hn U B _ rfl rfl _ rfl
def a23(n:Nat)(H:Za)(l b:Nat)(s:Sto)(a:Am)(hl:l<n)(hf:YW H l b)(hs:Fit s)(ha:a.Good)(hn:0<n)(hT:Tabs H):
  Zh prog n 38 [.ptr l b 0,a.enc] (put H l b s) (fun r H'=>r= .tup [.bool (Jf s a).2.1,eInt (Jf s a).2.2]/\H'=put H l b (Jf s a).1):=by
 have g:¬l=n:=om;have a7:¬n=l:=om;have f:=Ya.put H l b s;have t:=f.box;have U:=hT.put hf s;have v:∀p,p∈s.N.map Zde->Yv tt 9 p.1=true:=fun p hp=>by
  obtain⟨q,_,rfl⟩:=Qg.1 hp;exact ZeC _
 obtain⟨G,hG⟩:∃G,G=put H l b s:=⟨_,rfl⟩
 rw[<-hG]at f t U⊢;have aq:=hT
 replace hT:=U
 refine aF func38 fun B=>?_
 refine gc ?_;refine cQ (a55 (n+1) _ l b s om (f.full hl _)) ?_;refine aS ?_;refine gv ?_;refine cT (a14 a ha) ?_;cases J:YO a with
 |false=>
  refine nTq J ?_;refine ge ?_;have e:Jf s a=(s,false,2):=by simp[Jf,J]
  rw[e];exact ZF (.refl _) (.refl _) (.bool _) (.int _ _) hG
 |true=>
 refine nFq J ?_;refine nR ?_;refine cQ (a26 (n+1) _ l b s a om (f.full hl _) ha om (hT.full hn)) ?_;cases h2:(ZU (JC a) s.N 0).isSome with
 |true=>
  refine aq2 J h2 ?_;refine gj ?_;have e:Jf s a=(s,false,0):=by simp[Jf,J,h2]
  rw[e];exact ZF (.refl _) (.refl _) (.bool _) (.int _ _) hG
 |false=>
 refine aq2 J h2 ?_;refine nF ?_;have a6:(if s.A=[]then(AV.sl 2 [] .full)else .sl 2 (s.A.map Am.enc) (.buf l (b+1)))=YA l b s.A:=rfl;have a0:=Zl7 h2;cases h3:((s.A.length:Int)==2000)with
 |true=>
  by_cases hA:s.A=[]
  ·rw[hA]at h3;cases h3
  refine nr ?_;simp only[go_sem,simprocAttr,g,t,ZR,YA,hA,h3];refine gj ?_;have e:Jf s a=(s,false,5):=by simp[Jf,J,h2,nat_eq h3]
  rw[e];exact ZF (.refl _) (.refl _) (.bool _) (.int _ _) hG
 |false=>
 have e:Jf s a=(ZcG s a,true,0):=by simp[Jf,J,h2,nat_ne h3]
 rw[e]
 have V:∃xs o,ZR l b s.A=[.sl 2 xs o,.map l (b+2),.map l (b+3),.map l (b+4)]/\xs.length=s.A.length:=by
  by_cases hA:s.A=[]
  ·exact⟨[],.full,by simp[ZR,YA,hA],by simp[hA]⟩
  ·exact⟨s.A.map Am.enc,.buf l (b+1),by simp[ZR,YA,hA],sm⟩
 obtain⟨xs,ow,az,K⟩:=V;rw[az]at t;refine nq4 g t K h3 ?_;refine nF ?_;repeat refine kn rfl ?_
 refine Vf tok mixed op9 rfl rfl (by kernel_rfl) (by kernel_rfl) ?_;simp only[go_sem,simprocAttr,op9,QS,Nat.reduceBEq,Uj,UE,Nat.reduceEqDiff,g,t,K];refine W9 (Zf func129 rfl rfl) (a56 a) sS ?_;simp only[go_sem,simprocAttr,op9,QS,Nat.reduceBEq,Uj,UE,Nat.reduceEqDiff,g,t,K];refine nD drawO ?_;simp only[go_sem,simprocAttr,g,t,K];refine cT (a57 a ha J) ?_;have F:=f.num;change G l (b+2)=some (Ze.map (s.N.map Zde))at F;simp only[go_sem,simprocAttr,g,t,F];refine⟨fun p hp=>v p hp,?_⟩;have O:Zat (AV.str (JC a)) (AV.int IntKind.i64 s.A.length) (s.N.map Zde)=(s.N++[(JC a,(s.A.length:Int))]).map Zde:=by
  have:Xv (AV.str (JC a)) (s.N.map Zde)=none:=(Zet AV.str ZnA (JC a) Zde (fun _=>rfl) s.N 0).trans a0;unfold Zat;rw[this];simp[Zde]
 rw[O];refine⟨.inr (Xk (ZhJ _)),?_⟩;rw[hG,Zsi hf]
 obtain⟨u,hN1⟩:∃u,u=s.N++[(JC a,(s.A.length:Int))]:=⟨_,rfl⟩
 rw[<-hN1];clear f t hT v F O hG U;obtain⟨G1,hG1⟩:∃G1,G1=put H l b ⟨s.A,u,s.S,s.R⟩:=⟨_,rfl⟩
 have hT:=aq.put hf ⟨s.A,u,s.S,s.R⟩;have f:=Ya.put H l b ⟨s.A,u,s.S,s.R⟩;rw[<-hG1]at hT f⊢;have t:=f.box;have w:=f.sig;simp only at t w;rw[az]at t;have ay:∀X,(G1.upd l (b+3) X) l (b+3)=some X:=fun X=>Za.upd_same _ _ _ _
 have C:=Zwd n H l b ⟨s.A,u,XZ a.sg s.A.length s.S,s.R⟩ a hl hf hs.A hs.R ha J hn aq B;have av:(⟨s.A++[a],u,XZ a.sg s.A.length s.S,Rat ⟨s.A,u,XZ a.sg s.A.length s.S,s.R⟩ a a.args.length⟩:Sto)=ZcG s a:=by
  rw[ZcG,Rat,Ud (by rw[Zad];exact Qi _),hN1]
 simp only at C;rw[av]at C;have v:∀p,p∈ents Sg.enc l (b+5) 0 s.S->Yv tt 211 p.1=true:=fun p hp=>by
  obtain⟨k,W⟩:=ZbO _ _ _ _ _ _ hp;rw[W];exact Zl9 _ _
 have M:=JD (b:=b+5) Sg.enc hl (Sg.blw n) s.S 0;have y:=ZdA Sg.enc l (b+5) s.S 0;have ay:∀G:Za,∀X,(G.upd l (b+3) X) l (b+3)=some X:=fun G X=>Za.upd_same _ _ _ _
 have au:∀(G:Za) (X Y) (j:Nat),((G.upd l (b+3) X).upd l (b+5+2*j) Y) l (b+3)=some X:=fun G X Y j=>by
  rw[Za.upd_ne _ _ om,Za.upd_same]
 have a8:=hs.A;have a1:=hs.S;obtain⟨k,hk0⟩:∃k:Sg,k=a.sg:=⟨_,rfl⟩
 have Z:k.enc= .agg [.str a.sg.p,.int .i64 a.sg.n]:=by rw[hk0];rfl
 rw[<-hk0]at C;have L:=Sg.blw n k;rw[Z]at L;cases W:ZU k s.S 0 with
 |none=>
  have m:=fun re=>Znm Sg.enc Zmb k l (b+5) s.S re W
  have aw:=ZhO Sg.enc l (b+5) s.S k s.A.length;have Q:=fun X=>ZpR ⟨s.A,u,s.S,s.R⟩ hf (l:=l) X
  have c:=Zk1 (s:=⟨s.A,u,s.S,s.R⟩) hf (k,[(s.A.length:Int)]);have D:XZ k (s.A.length:Int) s.S=s.S++[(k,[(s.A.length:Int)])]:=by rw[XZ,W]
  have a4:=fun x d=>ZhY (α:=AV×AV) _ _ y x d
  have hsl:=fun x q=>Zla (α:=AV×AV) _ _ y x q
  simp only[Z]at m aw;simp only at Q c;rw[<-hG1]at Q c;generalize a3:ents Sg.enc l (b+5) 0 s.S=es at*;clear hG1;refine kK ?_;refine Vf tok mixed (opS l (b+5+2*s.S.length) true) rfl rfl (by kernel_rfl) (by kernel_rfl) ?_;simp only[go_sem,simprocAttr,opS,QS,Nat.reduceBEq,Uj,UE,Nat.reduceEqDiff,g,t,w,m,Q,au,ay,XI,y,a4,hsl];refine⟨dc,fun p hp=>v p hp,.inr (Xk fun p hp=>?_),⟨om,Zn om⟩,.inr (Wh _ _ _ _),by simp[y],.inr (Xk fun p hp=>?_),?_⟩
  ·rcases Qr.1 hp with hp|hp
   ·exact M p hp
   ·simp only[Qo]at hp;subst hp;exact⟨L,.sl _ _ _ (fun i h=>absurd h (Qj _)) (fun _ _ e=>by cases e)⟩
  ·rcases Qr.1 hp with hp|hp
   ·exact M p hp
   ·simp only[Qo]at hp;subst hp;exact⟨L,Y1 [(s.A.length:Int)] (fun _ _ e=>by cases e;exact hl)⟩
  rw[aw];have I:=c (.map (es++[(AV.agg [AV.str a.sg.p,AV.int .i64 a.sg.n],AV.sl 1 [] .full)]));simp only[Qm,Qz,Qy]at I;rw[I,<-D];refine ZJ ?_ C;exact KK
 |some j=>
  obtain⟨hj,a2⟩:=Zcr W;have m:=fun re=>Znn Sg.enc Zmb k l (b+5) s.S re W
  have P:=Jm Sg.enc l (b+5) s.S 0 j hj (.dead,.dead);have z:=fun X=>Zr9 (l:=l) (b:=b) (H:=H) ⟨s.A,u,s.S,s.R⟩ (j:=j) hj X
  have a5:=a1.ix (k:=k);have D:XZ k (s.A.length:Int) s.S=s.S.set j (k,Y3 k s.S++[(s.A.length:Int)]):=by rw[XZ,W]
  have E:=ZdB Sg.enc l (b+5) (k,Y3 k s.S++[(s.A.length:Int)]) s.S 0 j;have c:=Zk2 (s:=⟨s.A,u,s.S,s.R⟩) hf (k,Y3 k s.S++[(s.A.length:Int)]) j hj;simp only[a2,Qy]at z P E;simp only[Z]at m P E;simp only[Qh,Qm,Qz,Qy]at c;have ax:∀p∈(ents Sg.enc l (b+5) 0 s.S).set j (AV.agg [AV.str a.sg.p,AV.int .i64 a.sg.n],.sl 1 (intsOf (Y3 k s.S++[(s.A.length:Int)])) (.buf l (b+5+2*j))),Below n p.1/\Below n p.2:=fun p hp=>by
   rcases Qar hp with hp|rfl
   ·exact M p hp
   ·exact⟨L,Y1 _ (fun _ _ e=>by cases e;exact hl)⟩
  rw[<-hG1]at z c;generalize Y3 k s.S=ix at*;generalize a3:ents Sg.enc l (b+5) 0 s.S=es at*;clear hG1;refine kK ?_;refine Vf tok mixed (opS 0 0 false) rfl rfl (by kernel_rfl) (by kernel_rfl) ?_;simp only[go_sem,simprocAttr,opS,QS,Nat.reduceBEq,Uj,UE,Nat.reduceEqDiff,g,t,w,m,z,au,ay,XI,y,P,ZgG,ZcM];refine⟨dc,fun p hp=>v p hp,.inr (Xk M),⟨Zn om,om⟩,.inr (Wh _ _ _ _),om,.inr (Xk ax),?_⟩;rw[<-E,c,<-D];refine ZJ ?_ C;exact KK
end
def Jb(s:Sto)(l:List Am):Sto:=l.foldl (fun s a=>(Jf s a).1) s
def plc(p:Am->Bool):Nat->List Am->List Int
 |_,[]=>[]
 |i,a::r=>if p a=true then(i:Int)::plc p (i+1) r else plc p (i+1) r
def Zg1(p:Am->Bool)(a:Am):∀(A:List Am) (i:Nat),plc p i (A++[a])=plc p i A++(if p a=true then [((i+A.length:Nat):Int)]else [])
 |[],i=>by simp only[QG,plc,Qz,UC]
 |b::A,i=>by
  simp only[QN,plc,Zg1 p a A (i+1),Qm];rw[show i+1+A.length=i+(A.length+1) by omega];split<;>simp
def Zmp(p:Am->Bool):∀(A:List Am) (i:Nat),∀x∈plc p i A,(i:Int)<=x/\x<i+A.length
 |[],_,x,h=>by simp[plc]at h
 |b::A,i,x,h=>by
  simp only[plc]at h;have a:x∈plc p (i+1) A->(i:Int)<=x/\x<i+(b::A).length:=fun h=>by
   have:=Zmp p A (i+1) x h;simp only[Qm];omega
  split at h
  ·rcases Ql.1 h with rfl|h
   ·simp only[Qm];omega
   ·exact a h
  ·exact a h
def Zjg(p:Am->Bool):∀(A:List Am) (i:Nat),(plc p i A).length<=A.length
 |[],_=>Qi _
 |b::A,i=>by
  have:=Zjg p A (i+1);simp only[plc];split<;>simp only[Qm]<;>omega
theorem ZkR(p:Am->Bool):∀(A a:List Am),(plc p a.length A).map (fun j=>(a++A).getD j.toNat ⟨[],[]⟩)=A.filter p
 |[],_=>rfl
 |b::A,a=>by
  have ih:=ZkR p A (a++[b]);simp only[Qh,Qm,Qz,Qy,Q5,QN,QG]at ih;simp only[plc,List.filter_cons];split
  ·rw[Qs,ih];congr 1
   simp
  ·exact ih
def Zij(p:Am->Bool)(A:List Am):ZgZ A (plc p 0 A)=A.filter p:=ZkR p A []
def nums:Nat->List Am->List (Bs×Int)
 |_,[]=>[]
 |i,a::r=>(JC a,(i:Int))::nums (i+1) r
def Zif(a:Am):∀(A:List Am) (i:Nat),nums i (A++[a])=nums i A++[(JC a,((i+A.length:Nat):Int))]
 |[],i=>by simp[nums]
 |b::A,i=>by
  simp only[QN,nums,Zif a A (i+1),Qm];rw[show i+1+A.length=i+(A.length+1) by omega]
def ZgL(t:Bs):∀(A:List Am) (i j:Nat),(ZU t (nums i A) j).isSome=true↔ ∃a∈A,JC a=t
 |[],_,_=>by simp[nums,ZU]
 |b::A,i,j=>by
  simp only[nums,ZU];split
  ·rename_i h;simp[h]
  ·rename_i h;rw[ZgL t A (i+1) (j+1)];simp[h]
section
variable {κ:Type} [DecidableEq κ]
def Zh9{k:κ}{β:Type}:∀{es:List (κ×β)} {i:Nat},ZU k es i=none↔k∉es.map Prod.fst
 |[],_=>by simp[ZU]
 |p::r,i=>by
  simp only[ZU,Qs,Ql,not_or];split
  ·rename_i h;simp[h]
  ·rename_i h;rw[Zh9 (es:=r)];simp[Ne.symm h]
def Zia{k k':κ}{β:Type}(x:β):∀(es:List (κ×β)) (i j:Nat),ZU k es i=some (i+j)->ZU k' (es.set j (k,x)) i=ZU k' es i
 |[],_,_,h=>by cases h
 |p::r,i,0,h=>by
  simp only[ZU]at h;split at h
  ·rename_i a;subst a;simp only[U4,ZU]
  ·have:=(JO h).1;omega
 |p::r,i,j+1,h=>by
  simp only[ZU]at h;split at h
  ·simp only[Qp]at h;omega
  ·rw[show i+(j+1)=i+1+j by omega]at h;simp only[ML,ZU,Zia x r (i+1) j h]
def ZcN{k b:κ}{c:Type}(x:c)(a:b≠k):∀(d:List (κ×c)) (i:Nat),ZU b (d++[(k,x)]) i=ZU b d i
 |[],i=>by simp[ZU,Ne.symm a]
 |p::r,i=>by simp only[QN,ZU,ZcN x a r (i+1)]
def ZgM{k:κ}{b:Type}(x:b):∀(a:List (κ×b)) (i:Nat),ZU k a i=none->ZU k (a++[(k,x)]) i=some (i+a.length)
 |[],i,_=>by simp[ZU]
 |p::r,i,h=>by
  simp only[ZU]at h;split at h
  ·cases h
  ·rename_i c;simp only[QN,ZU,if_neg c,ZgM x r (i+1) h,Qm];congr 1;omega
def ZaF{k:κ}{a:List (κ×List Int)}(h:ZU k a 0=none):Y3 k a=[]:=by rw[Y3,h]
def Jo{k:κ}{a:List (κ×List Int)}{j:Nat}(h:ZU k a 0=some j):Y3 k a=((a[j]?).map Prod.snd).getD []:=by rw[Y3,h]
def Zkp(k k':κ)(x:Int)(b:List (κ×List Int)):Y3 k' (XZ k x b)=if k'=k then Y3 k b++[x]else Y3 k' b:=by
 unfold XZ;cases d:ZU k b 0 with
 |some j=>
  obtain⟨l,m⟩:=Zcr d;have c:=fun k'=>Zia (k':=k') (Y3 k b++[x]) b 0 j (by rw[d,Qy])
  by_cases h:k'=k
  ·subst h;rw[if_pos rfl];simp only;rw[Jo ((c k').trans d)];simp[l]
  ·rw[if_neg h];simp only;cases a:ZU k' b 0 with
   |none=>rw[ZaF ((c k').trans a),ZaF a]
   |some j'=>
    obtain⟨i,f⟩:=Zcr a;have g:j≠j':=fun e=>by subst e;rw[m]at f;exact h (congrArg Prod.fst f).symm
    rw[Jo ((c k').trans a),Jo a,QaV g]
 |none=>
  by_cases h:k'=k
  ·subst h;rw[if_pos rfl,ZaF d];simp only;rw[Jo (ZgM [x] b 0 d)];simp
  ·rw[if_neg h];simp only;have c:=ZcN [x] h b 0;cases a:ZU k' b 0 with
   |none=>rw[ZaF (c.trans a),ZaF a]
   |some j'=>
    have:=JO a;rw[Jo (c.trans a),Jo a,UF om]
def Zkw(k:κ)(x:Int)(a:List (κ×List Int)):(XZ k x a).map Prod.fst=if k∈a.map Prod.fst then a.map Prod.fst else a.map Prod.fst++[k]:=by
 unfold XZ;cases b:ZU k a 0 with
 |some j=>
  obtain⟨c,d⟩:=Zcr b;have e:k∈a.map Prod.fst:=Qg.2 ⟨a[j],Qa c,by rw[d]⟩;rw[if_pos e];simp only[List.map_set];have:(a.map Prod.fst)[j]'(by simpa using c)=k:=by simp[d]
  conv=>lhs;rw[<-this]
  exact QbC _
 |none=>
  rw[if_neg (Zh9.1 b)];simp
def Zh4(x:Int)(a:κ):∀(b:List κ) (c:List (κ×List Int)),b.Nodup->Y3 a (b.foldl (fun R k=>XZ k x R) c)=Y3 a c++(if a∈b then [x]else [])
 |[],c,_=>by simp
 |k::b,c,h=>by
  rw[GN]at h;rw[U8,Zh4 x a b _ h.2,Zkp];by_cases e:a=k
  ·subst e;rw[if_pos rfl,if_neg h.1,if_pos sm];simp
  ·rw[if_neg e];simp[e]
end
def Bd.fold{x:Int}:∀{ks:List Ak} {es:List (Ak×List Int)} {m:Nat},Bd es m->Bd (ks.foldl (fun R k=>XZ k x R) es) (m+ks.length)
 |[],_,_,h=>h
 |k::ks,es,m,h=>by
  have:=Bd.fold (x:=x) (ks:=ks) (h.add (k:=k) (x:=x));rw[U8,Qm];rw[show m+(ks.length+1)=m+1+ks.length by omega];exact this
structure Ok (s:Sto):Prop where
 A:s.A.length<=2000
 g:Zbn s.A
 v:∀a∈s.A,YO a=true
 nd:s.A.Nodup
 N:s.N=nums 0 s.A
 S:∀k,Y3 k s.S=plc (fun a=>a.sg==k) 0 s.A
 R:∀k,Y3 k s.R=plc (fun a=>decide (k∈X9 a)) 0 s.A
 BS:Bd s.S s.A.length
 BR:Bd s.R (8*s.A.length)
 K:(s.S.map Prod.fst).Nodup
 KM:∀k,k∈s.S.map Prod.fst↔ ∃a∈s.A,a.sg=k
def Bd.le{κ:Type}{b:List (κ×List Int)}{m n:Nat}(h:Bd b m)(a:m<=n):Bd b n:=fun p c=>UA (h p c) a
section
variable {s:Sto}
def Ok.fit(h:Ok s):Fit s:=⟨h.A,h.BS.le (by have:=h.A;omega),h.BR.le (by have:=h.A;omega),h.g⟩
def ok0:Ok sto0:=⟨by simp[sto0],fun a h=>by simp[sto0]at h,fun a h=>by simp[sto0]at h,by simp[sto0],rfl,fun _=>rfl,fun _=>rfl,fun p h=>by simp[sto0]at h,fun p h=>by simp[sto0]at h,by simp[sto0],fun k=>by simp[sto0]⟩
def Ok.has(h:Ok s){a:Am}(d:YO a=true):(ZU (JC a) s.N 0).isSome=s.A.any (eqA · a):=by
 rw[U7,h.N,ZgL,GR];constructor
 ·rintro⟨b,c,e⟩;exact⟨b,c,(ZfG b a).2 (Zpu (h.v b c) d e)⟩
 ·rintro⟨b,c,e⟩;exact⟨b,c,by rw[(ZfG b a).1 e]⟩
def Zhm(a:Am):(X9 a).Nodup:=by
 unfold X9;rw[List.nodup_iff_pairwise_ne,Qbg];refine List.Pairwise.imp_of_mem ?_ (Gt (R:=fun(p q:Tm×Nat)=>p.2<q.2)|>.2 fun i j f d b=>by simpa using b);intro p q _ _ c e;simp only[Ak.mk.injEq]at e;omega
def Ok.add{s:Sto}(h:Ok s){a:Am}(hg:a.Good)(hv:YO a=true)(hn:s.A.any (eqA · a)=false)(hl:s.A.length≠2000):Ok (ZcG s a):=by
 have d:=h.A;have c:=ZmR hv;refine⟨by simp[ZcG];omega,fun x hx=>?_,fun x hx=>?_,?_,?_,fun k=>?_,fun k=>?_,?_,?_,?_,fun k=>?_⟩
 ·simp only[ZcG,Qr,Qo]at hx;rcases hx with hx|rfl
  ·exact h.g x hx
  ·exact hg
 ·simp only[ZcG,Qr,Qo]at hx;rcases hx with hx|rfl
  ·exact h.v x hx
  ·exact hv
 ·simp only[ZcG];rw[G5];refine⟨h.nd,sm,fun x hx y b e=>?_⟩;simp only[Qo]at b;subst b;subst e;rw[QaH]at hn;exact hn x hx ((ZfG x x).2 rfl)
 ·simp only[ZcG];rw[Zif,h.N,Qy]
 ·simp only[ZcG];rw[Zkp,Zg1,Qy];by_cases e:k=a.sg
  ·subst e;rw[if_pos rfl,h.S];simp
  ·rw[if_neg e,h.S];have:(a.sg==k)=false:=by rw[beq_eq_false_iff_ne];exact Ne.symm e
   simp[this]
 ·simp only[ZcG];rw[Zh4 _ _ _ _ (Zhm a),Zg1,Qy,h.R];simp
 ·simp only[ZcG,Qh,Qm,Qz];exact h.BS.add
 ·simp only[ZcG,Qh,Qm,Qz];exact(h.BR.fold).le (by rw[Zad];omega)
 ·simp only[ZcG];rw[Zkw];split
  ·exact h.K
  ·rename_i hm;rw[G5];refine⟨h.K,sm,fun x hx y b e=>?_⟩;simp only[Qo]at b;subst b;subst e;exact hm hx
 ·simp only[ZcG];rw[Zkw];have:k∈(if a.sg∈s.S.map Prod.fst then s.S.map Prod.fst else s.S.map Prod.fst++[a.sg])↔k∈s.S.map Prod.fst\/k=a.sg:=by
   split
   ·rename_i hm;exact⟨.inl,fun h=>h.elim id fun e=>e▸hm⟩
   ·simp
  rw[this,h.KM];constructor
  ·rintro(⟨x,hx,e⟩|e)
   ·exact⟨x,by simp[hx],e⟩
   ·exact⟨a,sm,e.symm⟩
  ·rintro⟨x,hx,e⟩;simp only[Qr,Qo]at hx;rcases hx with hx|rfl
   ·exact .inl ⟨x,hx,e⟩
   ·exact .inr e.symm
def Ok.Jf{s:Sto}(h:Ok s){a:Am}(f:a.Good):Ok (Jf s a).1:=by
 unfold Go.Proofs.YthajllbimoodjaaGreatDoor.Jf;split
 ·exact h
 ·split
  ·exact h
  ·rename_i d c;split
   ·exact h
   ·rename_i e;have b:YO a=true:=by simpa using d
    rw[h.has b]at c;exact h.add f b (by simpa using c) e
def Zoe(s:Sto)(l:List Am)(a:Am):Jb s (l++[a])=(Jf (Jb s l) a).1:=by
 unfold Jb;rw[Gz];rfl
def Zof(s:Sto)(l:List Am)(i:Nat)(h:i<l.length):Jb s (l.take (i+1))=(Jf (Jb s (l.take i)) l[i]).1:=by
 rw[Qn h,Zoe]
def Ok.Jb{s:Sto}(h:Ok s):∀{l:List Am},Zbn l->Ok (Jb s l):=by
 intro l;induction l generalizing s with
 |nil=>intro _;exact h
 |cons a l ih=>
  intro b;exact ih (h.Jf (b a sm)) (fun x c=>b x (by simp[c]))
def Ok.all(h:Ok s)(k:Sg):ZgZ s.A (Y3 k s.S)=Zs4 s.A k:=by
 rw[h.S,Zij];rfl
def ZkD(a:Am)(k:Ak):k∈X9 a↔a.sg=k.s/\0<=k.c/\ ∃t,a.args[k.c.toNat]? =some t/\txt t=k.t:=by
 unfold X9;rw[Qg];constructor
 ·rintro⟨⟨t,i⟩,b,rfl⟩;rw[Qag]at b;exact⟨rfl,sm,t,by simpa using b,rfl⟩
 ·rintro⟨e,g,t,f,d⟩;refine⟨(t,k.c.toNat),by rw[Qag];exact f,?_⟩;obtain⟨s,c,x⟩:=k;simp only at*;subst e d;congr 1;omega
def Ok.find(h:Ok s)(k:Sg)(c:Int){v:Tm}(l:Zt v=true):ZgZ s.A (Y3 (⟨k,c,txt v⟩:Ak) s.R)=Zns s.A k c v:=by
 rw[h.R,Zij];unfold Zns;refine List.filter_congr fun a m=>?_
 rw[U7,decide_eq_true_eq,ZkD];simp only[Zj7,Qb,beq_iff_eq,decide_eq_true_eq,colEq];have g:=h.v a m;constructor
 ·rintro⟨d,f,t,e,b⟩;have n:=Zhc g (Gf e);have j:=(Q7.1 e).1;refine⟨⟨⟨d,f⟩,?_⟩,?_⟩
  ·rw[<-d];simp only[Am.sg];omega
  ·rw[e];exact(eqT_iff t v).2 (Zss n l b)
 ·rintro⟨⟨⟨d,f⟩,e⟩,b⟩;refine⟨d,f,?_⟩;cases i:a.args[c.toNat]? with
  |none=>rw[i]at b;cases b
  |some t=>rw[i]at b;exact⟨t,rfl,by rw[(eqT_iff t v).1 b]⟩
def Ok.ixS(h:Ok s)(k:Sg):(∀i∈Y3 k s.S,0<=i/\i<s.A.length)/\(Y3 k s.S).length<=1000000:=by
 rw[h.S];refine⟨fun i b=>?_,?_⟩
 ·have:=Zmp _ _ _ i b;omega
 ·have:=Zjg (fun a=>a.sg==k) s.A 0;have:=h.A;omega
def Ok.ixR(h:Ok s)(k:Ak):(∀i∈Y3 k s.R,0<=i/\i<s.A.length)/\(Y3 k s.R).length<=1000000:=by
 rw[h.R];refine⟨fun i b=>?_,?_⟩
 ·have:=Zmp _ _ _ i b;omega
 ·have:=Zjg (fun a=>decide (k∈X9 a)) s.A 0;have:=h.A;omega
end
structure BA (b:Bnd) (a:Am):Prop where
 gb:YG b
 len:b.length<=100000
 good:a.Good
 sz:Tm.sz.szs a.args<=305
def BA.arg{b:Bnd}{a:Am}(h:BA b a){t:Tm}(c:t∈a.args):t.Good/\(Ye b t).Good:=
 ⟨h.good.arg c,ZjM h.gb (h.good.nm t c) (by have:=Tm.ZeT c;have:=h.sz;omega)⟩
def ZhS{b:Bnd}:∀{l:LT} {c:Int} {i:Nat} (h:i<l.length),(∀j (a:j<l.length),j<i->Zt (Ye b l[j])=false)->Zt (Ye b l[i])=true->JJ b l c=some (c+i,Ye b l[i])
 |t::r,c,0,_,_,hv=>by
  have hv:Zt (Ye b t)=true:=hv;rw[JJ,if_pos hv];simp
 |t::r,c,i+1,h,h1,hv=>by
  have d:=h1 0 sm om;simp only[Ui]at d;rw[JJ,if_neg (by simp[d]),ZhS (l:=r) (i:=i) (by simpa using h) (fun j a e=>h1 (j+1) (by simpa using a) om) hv];simp only[Mc,Int.natCast_add];congr 2;omega
theorem Ze4{b:Bnd}:∀{l:LT} {c:Int},(∀t∈l,Zt (Ye b t)=false)->JJ b l c=none
 |[],_,_=>rfl
 |t::r,c,h=>by
  rw[JJ,if_neg (by simp[h t sm])];exact Ze4 fun u a=>h u (by simp[a])
def Zvs(l c:Nat)(n:Nat)(a:Am)(b:Bnd)(H:Za)(i:Nat):Zc:=
 ⟨[(13,.int .i64 i),(12,.int .i64 a.args.length),(11,.sl 4 (a.args.map Tm.enc) .any),(4,.ptr n 4 0),(0,.ptr l c 0),(2,Zu b)],[(4,.box a.cs)],H⟩
def ZwK(n:Nat)(H:Za)(l u o q:Nat)(hl:l<n)(hls:o<n)(F E:AV)(x:List Bnd)(p:H l u=some (prB F (.ptr o q 0) x E))(s:Sto)(z:Ya H o q s)(d:Ok s)(hn:0<n)(hT:Tabs H)(a:Am)(b:Bnd)(h:BA b a):
  PC prog n 254 [.ptr l u 0,a.enc,Zu b] H (.sl 2 ((Vq s.A a b).map Am.enc) .any):=by
 have m:¬l=n:=om;have hal:=h.good.len;refine aF func254 fun B=>?_
 refine gk ?_;refine ZG (Zvs l u n a b H) (fun i=>∀j (k:j<a.args.length),j<i->Zt (Ye b a.args[j])=false) a.args.length rfl ?_ (fun j _ k=>absurd k (Qj _)) ?_
 ·exact KK
 intro i G hq;refine ZV rfl ?_;rcases Qd i a.args.length with f|hge
 ·have v:=h.arg (Qa f);refine nq f ?_;refine nT ?_;refine nq2 (Tm.Zw _ _ f) f ?_;refine nR ?_;refine cT (Ztu b h.gb.asc (by have:=h.len;omega) a.args[i] v.1) ?_;refine nR ?_;refine cT (a37 (Ye b a.args[i]) v.2) ?_;cases r:Zt (Ye b a.args[i])with
  |true=>
   have w:=ZhS (c:=0) f hq r;have y:Vq s.A a b=Zns s.A a.sg (i:Int) (Ye b a.args[i]):=by rw[Vq,w];simp
   refine nT ?_;refine nD drawO ?_;simp only[go_sem,simprocAttr,m,p,prB];refine cP (a56 a) ?_;have e:=d.ixR (⟨a.sg,(i:Int),txt (Ye b a.args[i])⟩:Ak);refine cQ (a32 (n+1) _ o q s a.sg (i:Int) (Ye b a.args[i]) v.2 om (z.full hls _) d.g om (hT.full hn) e.1 e.2) ?_;simp only[go_sem,simprocAttr];refine nW ?_;rw[y,<-d.find _ _ r];simp only[r,if_true];exact Zb (.refl _) (Xj _) rfl
  |false=>
   refine gm ?_;refine⟨fun j k D=>?_,?_⟩
   ·rcases Qd j i with h'|h'
    ·exact hq j k h'
    ·have:j=i:=om;subst this;exact r
   ·exact KK
 ·have w:JJ b a.args 0=none:=Ze4 fun t C=>by
   obtain⟨j,k,rfl⟩:=QK C;exact hq j k om
  have y:Vq s.A a b=Zs4 s.A a.sg:=by rw[Vq,w]
  refine nr ?_;refine aq (QC.2 hge) ?_;refine gg ?_;refine nD drawO ?_;simp only[go_sem,simprocAttr,m,p,prB];refine cP (a56 a) ?_;have e:=d.ixS a.sg;refine cQ (a30 (n+1) _ o q s a.sg om (z.full hls _) d.g om (hT.full hn) e.1 e.2) ?_;simp only[go_sem,simprocAttr];refine nV ?_;rw[y,<-d.all];exact Zb (.refl _) (Xj _) rfl
def Zpy{A:List Am}{a:Am}{b:Bnd}:∀x∈Vq A a b,x∈A/\x.sg=a.sg:=fun x hx=>by
 unfold Vq at hx;split at hx
 ·obtain⟨d,c⟩:=MO.1 hx;simp only[Zj7,Qb,beq_iff_eq]at c;exact⟨d,c.1.1.1⟩
 ·obtain⟨d,c⟩:=MO.1 hx;exact⟨d,by simpa using c⟩
def ZjX(A:List Am)(a:Am)(b:Bnd):(Vq A a b).length<=A.length:=by
 unfold Vq;split
 ·exact U0 _ _
 ·exact U0 _ _
def atS(A:List Am)(a:Am)(b:Bnd):List Bnd×Int:=((Vq A a b).filterMap fun x=>matT.matL a.args x.args b,0)
def Zq0(a:Am)(b:Bnd)(l d:Nat)(c:List Am)(n:Nat)(H:Za)(i:Nat):Zc:=
 ⟨[(16,.int .i64 i),(15,.int .i64 c.length),(14,.sl 2 (c.map Am.enc) .any),(6,.sl 1 (((c.take i).filterMap fun x=>matT.matL a.args x.args b).map Zu) (.buf n 200)),(0,Zu b),(2,.iptr a.cs)],
  [(200,.buf 93 1 ((c.take i).filterMap fun x=>matT.matL a.args x.args b).length)],H⟩
def ZwJ(n:Nat)(H:Za)(l o r w:Nat)(hl:l<n)(hls:r<n)(G F:AV)(m:List Bnd)(C:H l o=some (prB G (.ptr r w 0) m F))(s:Sto)(N:Ya H r w s)(j:Ok s)(O:0<n)(K:Tabs H)(a:Am)(b:Bnd)(h:BA b a):
  PC prog n 253 [Zu b,.iptr [.ptr l o 0],.iptr a.cs] H (.tup [.sl 1 ((atS s.A a b).1.map Zu) .any,eInt (atS s.A a b).2]):=by
 have hai:∀p,Inside n p (.iptr a.cs):=fun p=>(Zj a.bcs).inside
 have k:=Zpy (A:=s.A) (a:=a) (b:=b);have E:=UA (ZjX s.A a b) j.A;have hbs:∀(q:List Bnd) (p:Nat->Prop),p 200->Inside n p (.sl 1 (q.map Zu) (.buf n 200)):=fun q p h=>Abs.YF (mB fun u=>ZH n u) h
 have y:atS s.A a b=((Vq s.A a b).filterMap fun x=>matT.matL a.args x.args b,0):=rfl;rw[y];refine aF func253 fun B=>?_
 refine gc ?_;refine nR ?_;refine cQ (ZwK (n+1) _ l o r w om om G F m (by rw[Zi hl];exact C) s (N.full hls _) j om (K.full O) a b h) ?_;generalize Vq s.A a b=cs at k E⊢;refine gM ?_;refine XL 6 200 93 1 rfl rfl ?_;refine Zx (Zq0 a b l o cs n H) cs.length rfl ?_ ?_
 ·exact KK
 intro i Q;refine ZV rfl ?_;rcases Qd i cs.length with f|hge
 ·have hx:=k _ (Qa f);have v:a.args.length=cs[i].args.length:=by
   have:=congrArg Sg.n hx.2;simp only[Am.sg]at this;omega
  have z:=j.g _ hx.1;have P:=ZuT a.args cs[i].args b v (fun t J=>(h.arg J).1) (fun u M=>z.arg M) h.gb.gb (by have:=h.len;have:=h.sz;omega);have L:=Qbj (fun x=>matT.matL a.args x.args b) (cs.take i);have I:(cs.take i).length<=2000:=by rw[QJ];omega
  have c:(cs.take (i+1)).filterMap (fun x=>matT.matL a.args x.args b)=(cs.take i).filterMap (fun x=>matT.matL a.args x.args b)++(matT.matL a.args cs[i].args b).toList:=by
   rw[Qn f,List.filterMap_append];congr 1
  refine nq f ?_;refine nT ?_;refine nq2 (Am.Zw _ _ f) f ?_;refine nR ?_;refine cP (P) ?_;obtain e|⟨d,e⟩:matT.matL a.args cs[i].args b=none\/ ∃d,matT.matL a.args cs[i].args b=some d:=by cases matT.matL a.args cs[i].args b<;>simp
  ·rw[e,Option.toList_none,Qu]at c;simp only[go_sem,simprocAttr,Zmm,e,Qae,Qbq];refine nR ?_;refine gm ?_;unfold Zq0;rw[c];exact KK
  ·rw[e,Option.toList_some]at c;simp only[go_sem,simprocAttr,Zmm,e,Qaf,Ul];refine nR ?_;refine gi ?_;refine⟨rfl,⟨Zn om,om⟩,?_⟩;refine gd ?_;unfold Zq0;rw[c,QM,Qh];apply kZ;repeat' first|apply q0|exact xx|apply aI
   all_goals first|exact(ZH n b).inside|exact hai _|exact(Xj _).inside|(rw[<-QM];exact hbs _ _ rfl)|exact hbs (_++[d]) _ rfl|exact xI
 ·have D:i=cs.length:=om;subst D;refine nq (QC.2 hge) ?_;refine gg ?_;refine gE ?_;exact ZF (.any _ _ _) (.refl _) (ZI _) (.int _ _) rfl
def j93(n:Nat)(H:Za)(C:Tabs H)(F:0<n)(l b f h:Nat)(j:l<n)(v:f<n)(o i:AV)(d:List Bnd)(q:d.length<=1000000)(t:H l b=some (prB o (.ptr f h 0) d i))(e:Below n o/\Below n i)(s:Sto)(D:Ya H f h s)(u:Ok s)(a:Am)(E:∀c∈d,BA c a):
  Zh prog n 184 [.ptr l b 0,a.enc] H fun r I=>r=eInt (Go.Abs.XA (atS s.A a) d).2/\I=H.upd l b (prB o (.ptr f h 0) (Go.Abs.XA (atS s.A a) d).1 i):=by
 have w:l≠n:=om;refine aF func184 fun B=>?_
 refine gh ?_;refine ZT 2 [.ptr l b 0] [(0,.ptr l b 0),(2,.iptr [.ptr l b 0]),(3,.ptr n 3 0)] rfl ⟨.ptr _ _ _ (.inl j),trivial⟩ ?_ ⟨Ze.Zv (ZM fun c p=>(a.bcs.mem c p).inside),trivial⟩ ?_
 ·exact⟨.inl ⟨.refl _,.ptr _ _ _ (.inl j)⟩,.inr ⟨0,rfl,rfl⟩,.inl ⟨.refl _,.ptr _ _ _ (.inr ⟨rfl,dc⟩)⟩,trivial⟩
 refine aS ?_;refine ZT 3 a.cs [(0,.ptr l b 0),(2,.iptr [.ptr l b 0]),(3,.iptr a.cs)] rfl ?_ ?_ trivial ?_
 ·exact ZM fun c p=>(a.bcs.mem c p).inside
 ·exact⟨.inl ⟨.refl _,.ptr _ _ _ (.inl j)⟩,.inl ⟨.refl _,(Zj (cs:=[.ptr l b 0]) ⟨.ptr _ _ _ j,trivial⟩).inside⟩,.inr ⟨0,rfl,rfl⟩,trivial⟩
 refine nR ?_;refine YS (caps:=[]) (avs:=[.ptr l b 0,.fn (.func 253) [.iptr [.ptr l b 0],.iptr a.cs]]) rfl (Zf func243 rfl rfl) (j130 (n+1) _ l b om o (.ptr f h 0) i d q (by rw[Zi j];exact t) ⟨e.1.mono om,.ptr _ _ _ om,e.2.mono om⟩ 253 [.iptr [.ptr l b 0],.iptr a.cs] (atS s.A a)
  ⟨⟨_,_,Zf func253 rfl rfl⟩,fun c p m y G g=>?_,fun m G=>⟨Zj (cs:=[.ptr l b 0]) ⟨.ptr _ _ _ om,trivial⟩,Zj a.bcs,trivial⟩⟩ (fun c p=>by
   have K:=ZjX s.A a c;have J:=u.A;have L:=Qbj (fun x=>matT.matL a.args x.args c) (Vq s.A a c);simp only[atS];omega)) sS ?_
 ·exact ZwJ m y l b f h om om o i d (by rw[g _ _ om,Zi j];exact t) s (fun k x z=>by rw[g _ _ om,Zi v];exact D k x z) u om (C.up fun k=>by rw[g _ _ om];exact Zi F _ _ _) a c (E c p)
 rintro r y ⟨rfl,rfl⟩;refine⟨[],H.upd l b (prB o (.ptr f h 0) (Go.Abs.XA (atS s.A a) d).1 i),(Yj n _ H l b _ w).symm,.upd (Ze.Zy ⟨e.1,.ptr _ _ _ v,ZI _,e.2,trivial⟩),?_⟩;refine gw ?_;exact Zq (.refl _) (.int _ _) ⟨rfl,rfl⟩
def ZkF(m:Nat)(h:m<=100000000):(newV m).length<=140737488355328:=by
 have:=Lib.itoa_length_le (m:Int) om om;unfold newV;rw[Qm];omega
def totD(a:List (Nat×Tm)):Nat:=(a.map fun d=>d.2.sz+1).sum
def Zln(p q:List (Nat×Tm)):totD (p++q)=totD p+totD q:=by simp[totD]
def Ztr(S:List Str):(∀t c,(flT S t c).1.sz+totD (flT S t c).2.2<=3*t.sz)/\ ∀l c,Tm.sz.szs (flT.flTs S l c).1+totD (flT.flTs S l c).2.2<=3*Tm.sz.szs l:=by
 refine Zbh (fun k n s l ih c=>?_) (fun c=>by simp[flT.flTs,Tm.sz.szs,totD]) fun t r d b c=>?_
 ·by_cases a:k=5\/k=6
  ·rw[ZbT a];simp only[totD,Qs,UJ,QaO,List.sum_nil,Tm.sz,Tm.sz.szs];omega
  ·rw[ZbS a];have:=ih c;simp only[Tm.sz];omega
 ·have e:=d c;have f:=b (flT S t c).2.1;simp only[flT.flTs,Tm.sz.szs,Zln];omega
def ZuM(S:List Str)(B:Nat)(C:B<=100000000):(∀t c,t.Nm->c+t.sz*(S.length+2)<=B->(flT S t c).1.Nm/\(flT S t c).1.sz<=t.sz/\ ∀d∈(flT S t c).2.2,d.1<=B/\d.2.Nm/\d.2.sz<=t.sz)/\
  ∀l c,(∀t∈l,t.Nm)->c+Tm.sz.szs l*(S.length+2)<=B->(∀t∈(flT.flTs S l c).1,t.Nm)/\Tm.sz.szs (flT.flTs S l c).1<=Tm.sz.szs l/\(flT.flTs S l c).1.length=l.length/\ ∀d∈(flT.flTs S l c).2.2,d.1<=B/\d.2.Nm/\d.2.sz<=Tm.sz.szs l:=by
 refine Zbh (fun k n s l ih c h v=>?_) (fun c _ _=>by simp[flT.flTs,Tm.sz.szs]) fun t r x w c h v=>?_
 ·by_cases o:k=5\/k=6
  ·have e:=((Zc6 S).1 (.mk k n s l) c).1;rw[ZbT o]at e⊢;have e:Ws S c<=c+(Tm.mk k n s l).sz*(S.length+2):=e;have A:=(Tm.mk k n s l).Zdk;refine⟨.mk _ _ _ _ (ZkF _ om) dc dc sm (fun u hu=>by cases hu),by simp only[Tm.sz,Tm.sz.szs];omega,fun d hd=>?_⟩;simp only[Qo]at hd;subst hd;exact⟨om,h,Qi _⟩
  ·rw[ZbS o];cases h with|mk _ _ _ _ j q g a4 a5=>
   have y:Tm.sz.szs l*(S.length+2)<=(Tm.mk k n s l).sz*(S.length+2):=QF _ (by simp only[Tm.sz];omega);obtain⟨f,z,m,i⟩:=ih c a5 om;refine⟨.mk _ _ _ _ j q g (by rw[m];exact a4) f,by simp only[Tm.sz];omega,fun d hd=>?_⟩;obtain⟨a,b,p⟩:=i d hd;exact⟨a,b,by simp only[Tm.sz];omega⟩
 ·simp only[Tm.sz.szs,Q9]at v;obtain⟨j,q,g⟩:=x c (h t sm) om;have e:=((Zc6 S).1 t c).1;obtain⟨f,z,m,i⟩:=w (flT S t c).2.1 (fun u hu=>h u (by simp[hu])) om;simp only[flT.flTs,Tm.sz.szs,Qm];refine⟨fun u hu=>?_,om,om,fun d hd=>?_⟩
  ·rcases Ql.1 hu with rfl|hu
   ·exact j
   ·exact f u hu
  ·rcases Qr.1 hd with hd|hd
   ·obtain⟨a,b,p⟩:=g d hd;exact⟨a,b,om⟩
   ·obtain⟨a,b,p⟩:=i d hd;exact⟨a,b,om⟩
def ZrF{d:Nat×Tm}(b:d.1<=100000000)(a:d.2.Nm)(f:d.2.sz<=305):Sm (Zao d):=
 ⟨⟨⟨by simp[Zao],by simp[Zao,Am.sz,Tm.sz.szs],fun t e=>by cases e⟩,⟨by simp[Zao,Tm.sz,Tm.sz.szs],.mk _ _ _ _ (ZkF _ b) dc dc sm (fun u c=>by cases c)⟩,⟨by show d.2.sz<=_;omega,a⟩⟩,
  by simp[Zao,Tm.sz,Tm.sz.szs],f,by simp[Zao,Tm.sz.szs]⟩
def ZpK{S:List Str}(i:S.length<=20000):∀(l:List Lt) (c:Nat),(∀x∈l,Sm x)->c+l.length*(305*(S.length+2))<=100000000-> ∀y∈flL S l c,Sm y/\(0<=y.op/\y.op<=255\/ ∃x∈l,y.op=x.op)
 |[],_,_,_,y,hy=>by cases hy
 |x::r,c,hs,hc,y,hy=>by
  have hx:=hs x sm;have b:=hx.at_;have j:(flX S x c).2<=c+305*(S.length+2):=by
   by_cases hk:x.kind=1
   ·rw[Zgz hk];have:=((Zc6 S).2 x.at_.args c).1;have a:Tm.sz.szs x.at_.args*(S.length+2)<=305*(S.length+2):=QF _ b;show(flT.flTs S x.at_.args c).2.1<=_;omega
   ·rw[(ZgA hk).1];exact GU _ _
  rw[Qm,Q9,QaW]at hc;rw[flL,Qr]at hy;rcases hy with hy|hy
  ·by_cases hk:x.kind=1
   ·rw[Zgz hk]at hy;have a:Tm.sz.szs x.at_.args*(S.length+2)<=305*(S.length+2):=QF _ b;obtain⟨h,p,q,m⟩:=(ZuM S 100000000 (Qi _)).2 x.at_.args c hx.good.at_.nm om;rcases Ql.1 hy with rfl|hy
    ·have hg:=hx.good.at_;have e:=hg.sz;simp only[Am.sz]at e;exact⟨⟨⟨⟨hg.pred,by simp only[Am.sz];omega,h⟩,hx.good.L,hx.good.R⟩,hx.L,hx.R,by show Tm.sz.szs (flT.flTs S x.at_.args c).1<=_;omega⟩,.inr ⟨x,sm,rfl⟩⟩
    ·obtain⟨d,hd,rfl⟩:=Qg.1 hy;rw[dfX,if_pos hk]at hd;obtain⟨n,g,o⟩:=m d hd;exact⟨ZrF n g om,.inl (by simp[Zao])⟩
   ·rw[(ZgA hk).1]at hy;simp only[Qo]at hy;subst hy;exact⟨hx,.inr ⟨y,sm,rfl⟩⟩
  ·obtain⟨k,a⟩:=ZpK i r (flX S x c).2 (fun z f=>hs z (by simp[f])) om y hy;refine⟨k,?_⟩;rcases a with a|⟨z,f,a⟩
   ·exact .inl a
   ·exact .inr ⟨z,by simp[f],a⟩
def defs_vars:∀ds:List (Nat×Tm),((ds.map Zao).flatMap ZX).length<=totD ds
 |[]=>by simp[totD]
 |d::ds=>by
  have a:=defs_vars ds;have c:(ZX (Zao d)).length<=d.2.sz+1:=by
   have:=flatMap_vars_len [(Zao d).L,(Zao d).R];simp only[Tm.sz.szs]at this;unfold ZX;rw[if_pos (by rfl)];have e:(Zao d).L.sz=1:=rfl;have b:(Zao d).R.sz=d.2.sz:=rfl;omega
  simp only[Qs,Uk,Qh,totD,QaO]at a⊢;omega
def Zj9{S:List Str}:∀(l:List Lt) (c:Nat),(∀x∈l,Sm x)->((flL S l c).flatMap ZX).length<=l.length*1525/\(flL S l c).length<=l.length*916
 |[],_,_=>by simp[flL]
 |x::r,c,hs=>by
  obtain⟨b,a⟩:=Zj9 r (flX S x c).2 fun z f=>hs z (by simp[f])
  have hx:=hs x sm;have e:=hx.at_;have hv:=hx.tv.2.2;simp only[flL,Uz,Qh,Qm,Q9];generalize flL S r (flX S x c).2=R at b a⊢;by_cases hk:x.kind=1
  ·have h:=(Ztr S).2 x.at_.args c;have hf:=((Zc6 S).2 x.at_.args c).2;have hd:=defs_vars (flT.flTs S x.at_.args c).2.2;have d:=flatMap_vars_len (flT.flTs S x.at_.args c).1;rw[Zgz hk,dfX,if_pos hk];simp only[Uk,Qh,Qm,Qv];have g:(ZX {x with at_:=⟨x.at_.pred,(flT.flTs S x.at_.args c).1⟩}).length<=Tm.sz.szs (flT.flTs S x.at_.args c).1:=by
    unfold ZX;rw[if_neg (by show¬x.kind=2;omega)];exact d
   omega
  ·rw[(ZgA hk).1];simp only[Uk,List.flatMap_nil,Qu,Qm,Qz];omega
def opP(d l k:Nat):Opt:=⟨false,false,fun x=>if x=d then .place l k true else .auto,[]⟩
structure ZjH (k l:Nat) (xs:LA):Prop where
 len:xs.length<=1000000
 el:∀x∈xs,x.cells.length=k/\ones x=true/\Below l x
def XH{l:Nat}:∀{a:LA},(∀x∈a,Below l x)->ZW (fun c=>Below l c) (flat a):=fun{a} h=>ZM fun c b=>by
 obtain⟨x,d,b⟩:=QI.1 b;exact Below.cells (h x d) c b
def ZjH.blk{k l n e m:Nat}{xs:LA}(h:ZjH k l xs)(hn:l<=n):Ze.Below n (.Zg e k (flat xs) m):=⟨(XH fun x hx=>(h.el x hx).2.2.mono hn).mem,by simp[Ze.at_]⟩
def k86(n:Nat)(H:Za)(c:LA)(a g:Nat)(e:a<n)(q:H a g=none)(p:ZjH 13 a c):
  Zh prog n 78 [.sl 13 c .any] H fun r w=>r= .msl 13 a g c.length/\w=H.upd a g (.Zg 35 13 (flat c) c.length):=by
 have d:¬a=n:=om;have b:a<=n:=om;have o:=p.len;have f:∀m i,a<m->Below m (.msl 13 a g i):=fun m i v=>.msl _ _ _ _ v
 have k:Ze.Below n (.Zg 35 13 (flat c) c.length):=p.blk b;have u:Inside n (fun _=>True) (.sl 13 c .any):=(Zl (n:=n) fun x h=>(p.el x h).2.2.mono b).inside;have s:∀x∈c,ones x=true:=fun x h=>(p.el x h).2.1
 cases c with
 |nil=>
  refine Zh.Zi6 ?_ ?_
  ·refine aF func78 fun B=>?_
   refine gc ?_;refine⟨⟨_,rfl⟩,?_⟩;refine nT ?_;refine gh ?_;refine ZJ (Zcf (t:=2) (l:=a) (j:=g) 35 13 true b rfl (by simp only[full,if_neg d];exact q)) ?_;simp only[Zd5,setH,if_neg d,if_true];refine nV ?_;exact Zq (.refl _) (f _ _ e) ⟨rfl,rfl⟩
  ·refine aF func78 fun B=>?_
   refine gc ?_;refine⟨⟨_,rfl⟩,?_⟩;refine gu ?_;refine ZJ (s':=⟨[(0,.sl 13 [] .any)],[],H⟩) ?_ ?_
   ·refine Zdp ⟨Wk.sln 13,trivial⟩ trivial ⟨?_,trivial⟩ trivial;exact(Zl fun x h=>by cases h).inside
   refine Yy tok (opP 7 a g) rfl rfl (by kernel_rfl) ?_;simp only[go_sem,simprocAttr,opP,d];refine⟨rfl,⟨b,q⟩,.inr k,?_⟩;refine nV ?_;exact Zq (.refl _) (f _ _ e) ⟨rfl,rfl⟩
 |cons x r=>
  simp only[Qm]at o k;simp only[Ql,forall_eq_or_imp]at s;refine aF func78 fun B=>?_
  refine gc ?_;refine⟨⟨_,rfl⟩,?_⟩;refine nF ?_;repeat refine kn rfl ?_
  refine Yy tok (opP 7 a g) rfl rfl (by kernel_rfl) ?_;simp only[go_sem,simprocAttr,opP,d];refine⟨rfl,⟨b,q,s,Zn om,om⟩,.inr k,?_⟩;refine nV ?_;exact Zq (.refl _) (f _ _ e) ⟨rfl,rfl⟩
def k46(n:Nat)(H:Za)(c:LA)(a g:Nat)(e:a<n)(q:H a g=none)(p:ZjH 5 a c):
  Zh prog n 86 [.sl 5 c .any] H fun r w=>r= .msl 5 a g c.length/\w=H.upd a g (.Zg 155 5 (flat c) c.length):=by
 have d:¬a=n:=om;have b:a<=n:=om;have o:=p.len;have f:∀m i,a<m->Below m (.msl 5 a g i):=fun m i v=>.msl _ _ _ _ v
 have k:Ze.Below n (.Zg 155 5 (flat c) c.length):=p.blk b;have u:Inside n (fun _=>True) (.sl 5 c .any):=(Zl (n:=n) fun x h=>(p.el x h).2.2.mono b).inside;have s:∀x∈c,ones x=true:=fun x h=>(p.el x h).2.1
 cases c with
 |nil=>
  refine Zh.Zi6 ?_ ?_
  ·refine aF func86 fun B=>?_
   refine gc ?_;refine⟨⟨_,rfl⟩,?_⟩;refine nT ?_;refine gh ?_;refine ZJ (Zcf (t:=2) (l:=a) (j:=g) 155 5 true b rfl (by simp only[full,if_neg d];exact q)) ?_;simp only[Zd5,setH,if_neg d,if_true];refine nV ?_;exact Zq (.refl _) (f _ _ e) ⟨rfl,rfl⟩
  ·refine aF func86 fun B=>?_
   refine gc ?_;refine⟨⟨_,rfl⟩,?_⟩;refine gu ?_;refine ZJ (s':=⟨[(0,.sl 5 [] .any)],[],H⟩) ?_ ?_
   ·refine Zdp ⟨Wk.sln 5,trivial⟩ trivial ⟨?_,trivial⟩ trivial;exact(Zl fun x h=>by cases h).inside
   refine Yy tok (opP 7 a g) rfl rfl (by kernel_rfl) ?_;simp only[go_sem,simprocAttr,opP,d];refine⟨rfl,⟨b,q⟩,.inr k,?_⟩;refine nV ?_;exact Zq (.refl _) (f _ _ e) ⟨rfl,rfl⟩
 |cons x r=>
  simp only[Qm]at o k;simp only[Ql,forall_eq_or_imp]at s;refine aF func86 fun B=>?_
  refine gc ?_;refine⟨⟨_,rfl⟩,?_⟩;refine nF ?_;repeat refine kn rfl ?_
  refine Yy tok (opP 7 a g) rfl rfl (by kernel_rfl) ?_;simp only[go_sem,simprocAttr,opP,d];refine⟨rfl,⟨b,q,s,Zn om,om⟩,.inr k,?_⟩;refine nV ?_;exact Zq (.refl _) (f _ _ e) ⟨rfl,rfl⟩
def ZaC(p q:LA):flat (p++q)=flat p++flat q:=by unfold flat;rw[Uz]
def Zkb{k:Nat}{a:LA}(h:∀x∈a,x.cells.length=k):(flat a).length=a.length*k:=flat_length h
def ZmI{k:Nat}{p q:LA}{x z:AV}(d:∀y∈p,y.cells.length=k)(g:∀y∈q,y.cells.length=k)(m:x.cells.length=k)(n:z.cells.length=k):
  splice (splice (flat (p++x::q)) (p.length*k) (((flat (p++x::q)).drop ((p.length+1)*k)).take (q.length*k))) ((p.length+q.length)*k) (flat (List.replicate 1 z))=flat ((p++q)++[z]):=by
 have a:=Zkb d;have c:=Zkb g;have b:flat (p++x::q)=flat p++(x.cells++flat q):=by rw[ZaC];rfl
 have f:(flat (p++x::q)).drop ((p.length+1)*k)=flat q:=by
  rw[b,Q9,QaW,<-a,<-UN,Qa4,<-m,Qa4]
 have l:(flat q).take (q.length*k)=flat q:=by rw[<-c,QV]
 have h:flat (List.replicate 1 z)=z.cells:=by simp[flat]
 rw[f,l,h,b];have j:splice (flat p++(x.cells++flat q)) (p.length*k) (flat q)=flat p++(flat q++(x.cells++flat q).drop (flat q).length):=by
  unfold splice;rw[<-a,Gn,<-UN,Qa4]
 rw[j];unfold splice;have e:((p.length+q.length)*k)=(flat p++flat q).length:=by rw[Qh,a,c,Q9]
 rw[e,<-List.append_assoc (flat p) (flat q),Gn,<-List.drop_drop,Qa4,ZaC,ZaC];have i:((x.cells++flat q).drop (flat q).length).length=z.cells.length:=by simp;omega
 rw[<-i,Qao,Qu];simp[flat]
def u85:Opt:=⟨false,false,fun d=>if d=13\/d=31 then .heap else .auto,[]⟩
def u85d:Opt:=⟨true,true,fun d=>if d=22\/d=25 then .heap else if d=26 then .call else .auto,[]⟩
def zLit:AV:=.agg [.int .u8 0,.bool false,.str [],.sl 4 [] .full,.int .u8 0,.int .u8 0,.int .i64 0,.str [],.sl 4 [] .full,.int .u8 0,.int .i64 0,.str [],.sl 4 [] .full]
def ZlA{n:Nat}:ZW (fun c=>Below n c) zLit.cells:=⟨.int _ _,.bool _,.str _,YR (fun _ h=>by cases h) (fun _ _ e=>by cases e),.int _ _,.int _ _,.int _ _,.str _,YR (fun _ h=>by cases h) (fun _ _ e=>by cases e),.int _ _,.int _ _,.str _,YR (fun _ h=>by cases h) (fun _ _ e=>by cases e),trivial⟩
def k85(n:Nat)(H:Za)(l k:Nat)(z:l<n)(p q:LA)(x:AV)(A:ZjH 13 l (p++x::q))(M:H l k=some (.Zg 35 13 (flat (p++x::q)) (p++x::q).length)):
  Zh prog n 177 [.msl 13 l k (p++x::q).length,.int .i64 p.length,.int .i64 ((p.length:Int)+1)] H fun r R=>r= .sub 13 l k (p++x::q).length 0 (p.length+q.length)/\
   R=H.upd l k (.Zg 35 13 (flat ((p++q)++[zLit])) (p++x::q).length):=by
 have o:¬l=n:=om;have O:=A.len;have J:(p++x::q).length=p.length+q.length+1:=by simp;omega
 have hc:∀y∈p++x::q,y.cells.length=13:=fun y g=>(A.el y g).1
 have C:∀y∈p,y.cells.length=13:=fun y g=>hc y (by simp[g])
 have F:∀y∈q,y.cells.length=13:=fun y g=>hc y (by simp[g])
 have E:x.cells.length=13:=hc x sm;have t:∀a∈flat (p++x::q),a.one=true:=fun a N=>by
  obtain⟨y,g,N⟩:=QI.1 N;exact Yi (A.el y g).2.1 a N
 have f:∀c∈flat (p++x::q),Below n c:=((A.blk (n:=n) (e:=35) (m:=0) om).1)
 rw[J]at M⊢;refine aF func177 fun B=>?_
 refine nR ?_;repeat refine kn rfl ?_
 refine Yy tok u85 rfl rfl (by kernel_rfl) ?_;simp only[go_sem,simprocAttr,u85];refine Step.look (Zjd (a:=p.length) (h:=(p.length:Int)+1) (b:=((p.length+q.length+1:Nat):Int)) tok rfl rfl rfl rfl rfl ((Zi z _ _ _).trans M) rfl rfl rfl om om om om om) ?_;simp only[go_sem,simprocAttr];refine nR ?_;have P:((p.length:Int)==(p.length:Int)+1)=false:=by simp;omega
 refine nFq P ?_;refine nR ?_;repeat refine kn rfl ?_
 refine Vf tok mixed u85d rfl rfl (by kernel_rfl) (by kernel_rfl) ?_;simp only[go_sem,simprocAttr,u85d];have d:∀L G,(∀j,G l j=H l j)->full n L G l k=some (.Zg 35 13 (flat (p++x::q)) (p.length+q.length+1)):=fun L G h=>(Zi z _ _ _).trans ((h k).trans M)
 refine Step.look (ZdY (h:=p.length) tok rfl rfl rfl rfl rfl (d _ _ fun _=>rfl) rfl om om om) ?_;refine aS ?_;obtain⟨V,hV⟩:∃V,(if(p.length:Int)+1<((p.length+q.length+1:Nat):Int)then AV.sub 13 l k (p.length+q.length+1) (p.length+1) q.length else .sl 13 [] .any)=V:=⟨_,rfl⟩
 refine Step.look (v:=V) (XW (h:=((p.length+q.length+1:Nat):Int)) tok rfl rfl rfl rfl rfl (d _ _ fun _=>rfl) rfl rfl om om om om (by
  rw[<-hV,show((p.length:Int)+1).toNat=p.length+1 by omega,show(((p.length+q.length+1:Nat):Int)).toNat - (p.length+1)=q.length by omega])) ?_
 refine aS ?_;obtain⟨D,hD⟩:∃D,splice (flat (p++x::q)) (p.length*13) (((flat (p++x::q)).drop ((p.length+1)*13)).take (q.length*13))=D:=⟨_,rfl⟩
 have s:splice D ((p.length+q.length)*13) (flat (List.replicate 1 zLit))=flat ((p++q)++[zLit]):=by rw[<-hD];exact ZmI C F E rfl
 have I:Ze.Below n (.Zg 35 13 D (p.length+q.length+1)):=by
  rw[<-hD];refine⟨fun c hc=>f c ?_,by simp[Ze.at_]⟩;simp only[Ze.avs,splice,Qr]at hc;rcases hc with hc|hc|hc
  ·exact UW hc
  ·exact UU (UW hc)
  ·exact UU hc
 refine Step.turn (v:=.sub 13 l k (p.length+q.length+1) 0 (p.length+q.length)) (l:=l) (k:=k) (b:=.Zg 35 13 D (p.length+q.length+1)) ?_ (.inr I) ?_
 ·by_cases w:q.length=0
  ·rw[if_neg om]at hV;have S:q=[]:=MZ.1 w;have K:D=flat (p++x::q):=by
    rw[<-hD,w,Gp,Qam];unfold splice;simp
   have Q:((full n [] H).upd l k (.Zg 35 13 D (p.length+q.length+1)))=full n [] H:=Z7 (by rw[K];exact d _ _ fun _=>rfl);show Z5 _ _ _ _ (full n [] H) _ ((full n [] H).upd l k (.Zg 35 13 D (p.length+q.length+1)));rw[Q,w,UC];refine Zdf tok rfl rfl rfl rfl rfl hV.symm ((d [] H fun _=>rfl).trans (by rw[w])) ?_;omega
  ·rw[if_pos om]at hV;refine ZgW (i:=p.length) (off:=p.length+1) (k:=q.length) tok rfl rfl rfl rfl rfl rfl hV.symm (d _ _ fun _=>rfl) ?_ ?_ ?_ t ?_
   ·decide
   ·omega
   ·omega
   ·exact hD
 simp only[go_sem,simprocAttr,o];repeat refine kn rfl ?_
 refine Yy tok u85 rfl rfl (by kernel_rfl) ?_;simp only[go_sem,simprocAttr,u85];have u:∀L G,(∀j,G l j=(H.upd l k (.Zg 35 13 D (p.length+q.length+1))) l j)->full n L G l k=some (.Zg 35 13 D (p.length+q.length+1)):=fun L G h=>(Zi z _ _ _).trans ((h k).trans (by simp[Za.upd]))
 refine Step.look (v:=.sub 13 l k (p.length+q.length+1) (p.length+q.length) 1) (Zje (a:=((p.length+q.length:Nat):Int)) (h:=((p.length+q.length+1:Nat):Int)) tok rfl rfl rfl rfl rfl rfl (u _ _ fun _=>rfl) rfl rfl ?_ ?_ ?_ ?_ ?_) ?_
 ·omega
 ·omega
 ·omega
 ·omega
 ·rw[show 0+((p.length+q.length:Nat):Int).toNat=p.length+q.length by omega,show(((p.length+q.length+1:Nat):Int)).toNat - ((p.length+q.length:Nat):Int).toNat=1 by omega]
 refine aS ?_;refine Step.turn (l:=l) (k:=k) (b:=.Zg 35 13 (flat ((p++q)++[zLit])) (p.length+q.length+1)) (Ji tok rfl rfl rfl rfl rfl rfl (u _ _ fun _=>rfl) ?_ rfl ?_ ?_) (.inr ?_) ?_
 ·decide
 ·decide
 ·exact s
 ·refine⟨fun c hc=>?_,by simp[Ze.at_]⟩;simp only[Ze.avs,ZaC,Qr]at hc;rcases hc with(hc|hc)|hc
  ·exact f c (by rw[ZaC];exact UH _ hc)
  ·exact f c (by rw[ZaC,Yc];exact U6 _ (U6 _ hc))
  ·exact Below.cells (a:=zLit) (Yt ZlA.mem) c (by simpa[flat]using hc)
 refine aq o ?_;refine ge ?_;exact Zq (.refl _) (.sub _ _ _ _ _ _ z) ⟨rfl,Za.Zaa _ _ _ _ _⟩
def Zpw{cx:Cx}(c:cx.P=prog){o:Oper}{args:List Operand}{b:List TypeId}{tm:LN}{L:List (Nat×Ze)}{H:Za}{l k:Nat}{S xs:List Str}{K:Zc->Prop}(hl:l<cx.n)(a:xs.length<=1000000)(hk:H l k=some (.map (encS S)))
  (ha:Yo cx.T (evT tm) args b=[.map l k,.sl 1 (YK xs) .any]) (h:K ⟨Yf tm o.dst (.tup []),L,H.upd l k (.map (encS (ZO S xs)))⟩):ZfY cx o (.func 68) args b ⟨tm,L,H⟩ K:=by
 obtain⟨P,T,φ,n,N⟩:=cx;dsimp only at c ha h hl;subst c;refine⟨68,_,_,[],.tup [],L,H.upd l k (.map (encS (ZO S xs))),rfl,Zf func68 rfl rfl,?_,.upd (WC _),h⟩;rw[Qu,ha];show Zh _ _ _ _ _ fun d H1=>d=_/\H1=full n L (H.upd l k _)
 rw[Yj n _ _ _ _ _ om];exact j40 (n+1) _ l k om S xs a (by rw[Zi hl];exact hk)
def al84:Opt:=⟨true,true,fun d=>if d=12 then .heap else if d=13 then .call else .auto,[]⟩
def Ztz{k l:Nat}(a:List Lt)(h:a.length<=1000000)(b:k=13):ZjH k l (a.map Lt.enc):=⟨by simpa using h,fun x c=>by
 obtain⟨y,_,rfl⟩:=Qg.1 c;subst b;exact⟨rfl,rfl,y.blw l⟩⟩
def ZaA(p q:List Lt):LA:=(p++q).map Lt.enc++[zLit]
def _root_.Go.Abs.Ze.ZhF{n m:Nat}(p q:List Lt):Ze.Below n (.Zg 35 13 (flat (ZaA p q)) m):=⟨fun c hc=>by
 obtain⟨y,hy,hc⟩:=QI.1 hc;rcases Qr.1 hy with hy|hy
 ·obtain⟨z,_,rfl⟩:=Qg.1 hy;exact Below.cells (z.blw n) c hc
 ·rw[Qo]at hy;subst hy;exact ZlA.mem c hc,by simp[Ze.at_]⟩
def k84(n:Nat)(H:Za)(N:Tabs H)(l F t a h b:Nat)(X:l<a)(i:a<n)(W:0<l)(u:h≠b)(K Q O:AV)(y:H l F=some (.box [.map l t,K,Q,O]))(S:List Str)(V:H l t=some (.map (encS S)))
  (p q:List Lt) (x:Lt) (I:Sm x) (e:(p++x::q).length<=1000000) (J:H a h=some (.box [.sl 13 ((p++x::q).map Lt.enc) .any])) (M:H a b=none):
  Zh prog n 176 [.int .i64 p.length,.iptr [.ptr l F 0],.ptr a h 0] H fun r D=>r= .tup []/\
   D=((H.upd l t (.map (encS (ZO S (ZX x))))).upd a b (.Zg 35 13 (flat (ZaA p q)) (p++x::q).length)).upd a h (.box [.sub 13 a b (p++x::q).length 0 (p++q).length]):=by
 have f:¬l=n:=om;have c:¬a=n:=om;have U:0<n:=om;have o:¬a=l:=om;have L:=I.tv.2.2;refine aF func176 fun B=>?_
 refine nD al84 ?_;have v:p.length<(p++x::q).length:=by simp
 have C:((p++x::q).map Lt.enc).getD p.length .dead=x.enc:=by simp
 simp only[go_sem,simprocAttr,al84,f,c,y,J,v,C];refine Zgj (Zf func81 rfl rfl) (fun G R=>j41 x I (n+1) G om (Jl R▸N.full U)) sS ?_;simp only[go_sem,simprocAttr,al84];refine Zpw rfl (k:=t) (l:=l) (xs:=ZX x) (S:=S) (show l<n by omega) om V (by simp only[go_sem,simprocAttr];rfl) ?_;obtain⟨j,hH2⟩:∃j,j=H.upd l t (.map (encS (ZO S (ZX x)))):=⟨_,rfl⟩
 have s:j a h=some (.box [.sl 13 ((p++x::q).map Lt.enc) .any]):=by rw[hH2];simp only[Za.upd,o,false_and,if_false];exact J
 have E:j a b=none:=by rw[hH2];simp only[Za.upd,o,false_and,if_false];exact M
 rw[<-hH2];refine aS ?_;refine nq3 f c s ?_;have g:ZjH 13 a ((p++x::q).map Lt.enc):=Ztz _ e rfl;refine YS (caps:=[]) (avs:=[.sl 13 ((p++x::q).map Lt.enc) .any]) rfl (Zf func78 rfl rfl) (k86 (n+1) _ _ a b om (by rw[Zi i];exact E) g) sS ?_;rintro r P ⟨rfl,rfl⟩;refine⟨[],j.upd a b (.Zg 35 13 (flat ((p++x::q).map Lt.enc)) ((p++x::q).map Lt.enc).length),(Yj n _ _ _ _ _ c).symm,.upd (g.blk (show a<=n by omega)),?_⟩;obtain⟨d,hH3⟩:∃d,d=j.upd a b (.Zg 35 13 (flat ((p++x::q).map Lt.enc)) ((p++x::q).map Lt.enc).length):=⟨_,rfl⟩
 rw[<-hH3];have z:d a h=some (.box [.sl 13 ((p++x::q).map Lt.enc) .any]):=by rw[hH3];simp only[Za.upd,u,and_false,if_false];exact s
 have A:(p++x::q).map Lt.enc=p.map Lt.enc++x.enc::q.map Lt.enc:=sm;refine aS ?_;rw[IntWalk.i64_in ((p.length:Int)+1) (by simp at e;omega)];have m:Zh prog (n+1) 177 [.msl 13 a b ((p++x::q).map Lt.enc).length,.int .i64 p.length,.int .i64 ((p.length:Int)+1)] (full n [] d) fun r D=>r= .sub 13 a b (p++x::q).length 0 (p++q).length/\D=full n [] (d.upd a b (.Zg 35 13 (flat (ZaA p q)) (p++x::q).length)):=by
  have:=k85 (n+1) (full n [] d) a b om (p.map Lt.enc) (q.map Lt.enc) x.enc (A▸g) (by rw[Zi i,hH3,A];simp[Za.upd]);rw[<-A,Qv,Qv,Qv,<-List.map_append]at this;rw[Yj n _ _ _ _ _ c,Qv,show(p++q).length=p.length+q.length from Qh];exact this
 refine YS (caps:=[]) (avs:=[.msl 13 a b ((p++x::q).map Lt.enc).length,.int .i64 p.length,.int .i64 ((p.length:Int)+1)]) rfl (Zf func177 rfl rfl) m sS ?_;rintro r P ⟨rfl,rfl⟩;refine⟨[],d.upd a b (.Zg 35 13 (flat (ZaA p q)) (p++x::q).length),rfl,.upd (Ze.ZhF p q),?_⟩;refine aq2 f c ?_;have w:(d.upd a b (.Zg 35 13 (flat (ZaA p q)) (p++x::q).length)) a h=some (.box [.sl 13 ((p++x::q).map Lt.enc) .any]):=by simp only[Za.upd,u,and_false,if_false];exact z
 refine aq2 c w ?_;refine⟨.inr (Ze.Zy ⟨.sub _ _ _ _ _ _ i,trivial⟩),?_⟩;refine nN ?_;exact⟨by simp[Y7],[],trivial,sm,rfl,by rw[hH3,hH2,Za.Zaa]⟩
def Vh{P:Program}{T:TT}{n:Nat}{t u j y:Nat}{a v c:AV}{H:Za}{s:Zc}(r:Zp)(l k b:Nat)(d:LA)(g:lkv s.tmps u= .ptr l k b)(e:full n s.L s.H l k=some (.box d))(i:T j=some r)
  (f:b+r.size<=d.length) (h:r.isAgg=false->b<d.length) (A:Wk (lkv s.tmps t) a) (q:Wk (if r.isAgg then .agg ((d.drop b).take r.size)else(d.drop b).getD 0 .dead) v) (w:Wk (lkv s.tmps y) c) (o:Below n a) (C:Below n v) (D:Below n c) (z:s.H=H):
  PostF P T n [.tmp t,.cell u j,.tmp y] (fun p B=>p= .tup [a,v,c]/\B=H) .ret s:=by
 refine⟨?_,[a,v,c],⟨A,?_,w,trivial⟩,by simp[o,C,D],rfl,z⟩
 ·intro x m;simp only[Ql,QA,or_false]at m;rcases m with rfl|rfl|rfl
  ·simp[Y7]
  ·simp only[Y7];exact⟨l,k,b,d,r,g,e,i,f,h⟩
  ·simp[Y7]
 ·simp only[Zbx,g,e,i];rw[if_pos ⟨f,h⟩];exact q
def Zbf(S:List Str)(x:Lt):Str×Tm×Bool:=
 if Ve S (Z8 x.L)&&Ve S (Z8 x.R)then([],tm0,true)
 else if x.op=1/\Ve S (Z8 x.R)=true/\x.L.kind=3 then(x.L.name,x.R,true)
 else if x.op=1/\Ve S (Z8 x.L)=true/\x.R.kind=3 then(x.R.name,x.L,true)
 else([],tm0,false)
def Zo4(S:List Str)(x:Lt)(a:x.kind=2):XO S x=if(Zbf S x).2.2=true then some (if(Zbf S x).1=[]then .test x else .bind (Zbf S x).1 (Zbf S x).2.1)else none:=by
 unfold XO Zbf;rw[if_pos a];split
 ·simp
 ·split
  ·simp
  ·split<;>simp
def j87(n:Nat)(H:Za)(l s j m:Nat)(E:l<n)(r:j<n)(u z y:AV)(f:H l s=some (.box [.map j m,u,z,y]))(S:List Str)(A:H j m=some (.map (encS S)))(x:Lt)(i:Sm x):
  PC prog n 178 [.ptr l s 0,x.enc] H (.tup [.str (Zbf S x).1,(Zbf S x).2.1.enc,.bool (Zbf S x).2.2]):=by
 have e:¬l=n:=om;have o:∀t:Tm,t.Good/\t.sz<=305->(nmT t).length<=1000000/\(Z8 t).length<=1000000:=fun t h=>by
  have:=nm_len.1 t;have:=ZeV t;have:=h.2;constructor<;>omega
 obtain⟨C,D⟩:=o x.L ⟨i.good.L,i.L⟩;obtain⟨v,w⟩:=o x.R ⟨i.good.R,i.R⟩;have k:∀L,full n L H j m=some (.map (encS S)):=fun L=>by rw[Zi r];exact A
 have a:Zbf S x=if Ve S (Z8 x.L)&&Ve S (Z8 x.R)then([],tm0,true)
  else if x.op=1/\Ve S (Z8 x.R)=true/\x.L.kind=3 then(x.L.name,x.R,true)
  else if x.op=1/\Ve S (Z8 x.L)=true/\x.R.kind=3 then(x.R.name,x.L,true)
  else([],tm0,false):=rfl
 refine aF func178 fun B=>?_
 refine nR ?_;refine nD drawO ?_;refine aq2 e f ?_;refine cP (j56 x.L i.good.L C) ?_;refine cQ (j48 (n+1) _ j m om S (Z8 x.L) D (k _)) ?_;simp only[go_sem,simprocAttr,e,f];refine cP (j56 x.R i.good.R v) ?_;refine cQ (j48 (n+1) _ j m om S (Z8 x.R) w (k _)) ?_;simp only[go_sem,simprocAttr,e,f];generalize Ve S (Z8 x.L)=p at a⊢;generalize Ve S (Z8 x.R)=q at a⊢;repeat refine kn rfl ?_
 cases p with
 |true=>
  cases q with
  |true=>
   have a:Zbf S x=([],tm0,true):=by rw[a];rfl
   refine nR ?_;refine gj ?_;rw[a];exact Vh _ n 5 0 [.int .u8 0,.int .i64 0,.str [],.sl 4 [] .full] sS sF rfl (Qi _) sS (.refl _) zero_tm (.refl _) (.str _) (Tm.blw _ _) (.bool _) rfl
  |false=>
   refine nR ?_;refine nF ?_;cases b:(x.op==1)with
   |false=>
    have d:¬x.op=1:=by simpa using b
    have a:Zbf S x=([],tm0,false):=by rw[a];simp[d]
    refine nq b ?_;refine nF ?_;refine nq b ?_;refine gF ?_;rw[a];exact Vh _ n 5 0 [.int .u8 0,.int .i64 0,.str [],.sl 4 [] .full] sS sF rfl (Qi _) sS (.refl _) zero_tm (.refl _) (.str _) (Tm.blw _ _) (.bool _) rfl
   |true=>
    have d:x.op=1:=by simpa using b
    cases c:(x.R.kind==3)with
    |false=>
     have g:¬x.R.kind=3:=by simpa using c
     have a:Zbf S x=([],tm0,false):=by rw[a];simp[g]
     refine nq2 b c ?_;refine nF ?_;refine nq2 b c ?_;refine gF ?_;rw[a];exact Vh _ n 5 0 [.int .u8 0,.int .i64 0,.str [],.sl 4 [] .full] sS sF rfl (Qi _) sS (.refl _) zero_tm (.refl _) (.str _) (Tm.blw _ _) (.bool _) rfl
    |true=>
     have g:x.R.kind=3:=by simpa using c
     have a:Zbf S x=(x.R.name,x.L,true):=by rw[a];simp[d,g]
     refine nq2 b c ?_;refine nF ?_;refine nq2 b c ?_;refine nT ?_;refine XD tok mixed drawO rfl rfl rfl ?_;refine gw ?_;rw[a];exact Vh _ n 5 0 (x.L).cs sS sF rfl (Qi _) sS (.refl _) (by simp only[go_sem,simprocAttr];exact .refl _) (.refl _) (.str _) (Tm.blw _ _) (.bool _) rfl
 |false=>
  cases q with
  |true=>
   refine nR ?_;refine nF ?_;cases b:(x.op==1)with
   |false=>
    have d:¬x.op=1:=by simpa using b
    have a:Zbf S x=([],tm0,false):=by rw[a];simp[d]
    refine nq b ?_;refine nF ?_;refine nq b ?_;refine gF ?_;rw[a];exact Vh _ n 5 0 [.int .u8 0,.int .i64 0,.str [],.sl 4 [] .full] sS sF rfl (Qi _) sS (.refl _) zero_tm (.refl _) (.str _) (Tm.blw _ _) (.bool _) rfl
   |true=>
    have d:x.op=1:=by simpa using b
    cases c:(x.L.kind==3)with
    |false=>
     have g:¬x.L.kind=3:=by simpa using c
     have a:Zbf S x=([],tm0,false):=by rw[a];simp[g]
     refine nq2 b c ?_;refine nF ?_;refine nq2 b c ?_;refine gF ?_;rw[a];exact Vh _ n 5 0 [.int .u8 0,.int .i64 0,.str [],.sl 4 [] .full] sS sF rfl (Qi _) sS (.refl _) zero_tm (.refl _) (.str _) (Tm.blw _ _) (.bool _) rfl
    |true=>
     have g:x.L.kind=3:=by simpa using c
     have a:Zbf S x=(x.L.name,x.R,true):=by rw[a];simp[d,g]
     refine nq2 b c ?_;refine nT ?_;refine XD tok mixed drawO rfl rfl rfl ?_;refine gw ?_;rw[a];exact Vh _ n 5 0 (x.R).cs sS sF rfl (Qi _) sS (.refl _) (by simp only[go_sem,simprocAttr];exact .refl _) (.refl _) (.str _) (Tm.blw _ _) (.bool _) rfl
  |false=>
   refine nR ?_;refine nF ?_;cases b:(x.op==1)with
   |false=>
    have d:¬x.op=1:=by simpa using b
    have a:Zbf S x=([],tm0,false):=by rw[a];simp[d]
    refine nq b ?_;refine nF ?_;refine nq b ?_;refine gF ?_;rw[a];exact Vh _ n 5 0 [.int .u8 0,.int .i64 0,.str [],.sl 4 [] .full] sS sF rfl (Qi _) sS (.refl _) zero_tm (.refl _) (.str _) (Tm.blw _ _) (.bool _) rfl
   |true=>
    have d:x.op=1:=by simpa using b
    have a:Zbf S x=([],tm0,false):=by rw[a];simp
    refine nq b ?_;refine nF ?_;refine nq b ?_;refine gF ?_;rw[a];exact Vh _ n 5 0 [.int .u8 0,.int .i64 0,.str [],.sl 4 [] .full] sS sF rfl (Qi _) sS (.refl _) zero_tm (.refl _) (.str _) (Tm.blw _ _) (.bool _) rfl
def k88(m:ExpOK)(n:Nat)(H:Za)(q:Tabs H)(t:0<n)(l b:Nat)(p:l<n)(g f e:AV)(a:List Bnd)(h:a.length<=1000000)(i:H l b=some (prB g f a e))(d:Below n g/\Below n f/\Below n e)(x:Lt)(k:0<=x.op/\x.op<=255)
  (o:∀c∈a,BT c x.L/\BT c x.R):Zh prog n 179 [.iptr [.ptr l b 0],.iptr x.cs] H fun r s=>r=eInt (Go.Abs.XA (JZ x) a).2/\s=H.upd l b (prB g f (Go.Abs.XA (JZ x) a).1 e):=by
 have j:l≠n:=om;refine aF func179 fun B=>?_
 refine gc ?_;refine YS (caps:=[]) (avs:=[.ptr l b 0,x.enc]) rfl (Zf func180 rfl rfl) (j89 m (n+1) _ (q.full t) om l b om g f e a h (by rw[Zi p];exact i) ⟨d.1.mono om,d.2.1.mono om,d.2.2.mono om⟩ x k o) sS ?_;rintro r u ⟨rfl,rfl⟩;refine⟨[],H.upd l b (prB g f (Go.Abs.XA (JZ x) a).1 e),(Yj n _ H l b _ j).symm,.upd (Ze.Zy ⟨d.1,d.2.1,ZI _,d.2.2,trivial⟩),?_⟩;refine gw ?_;exact Zq (.refl _) (.int _ _) ⟨rfl,rfl⟩
def k90(k:ExpOK)(n:Nat)(H:Za)(o:Tabs H)(u:0<n)(l b:Nat)(m:l<n)(g f e:AV)(a:List Bnd)(h:a.length<=1000000)(i:H l b=some (prB g f a e))(d:Below n g/\Below n f/\Below n e)(s:Str)(t:Tm)(p:∀c∈a,BT c t):
  Zh prog n 181 [.iptr [.ptr l b 0],.iptr [.str s],.iptr t.cs] H fun r q=>r=eInt (Go.Abs.XA (ZbH s t) a).2/\q=H.upd l b (prB g f (Go.Abs.XA (ZbH s t) a).1 e):=by
 have j:l≠n:=om;refine aF func181 fun B=>?_
 refine gc ?_;refine YS (caps:=[]) (avs:=[.ptr l b 0,.str s,t.enc]) rfl (Zf func182 rfl rfl) (j91 k (n+1) _ (o.full u) om l b om g f e a h (by rw[Zi m];exact i) ⟨d.1.mono om,d.2.1.mono om,d.2.2.mono om⟩ s t p) sS ?_;rintro r v ⟨rfl,rfl⟩;refine⟨[],H.upd l b (prB g f (Go.Abs.XA (ZbH s t) a).1 e),(Yj n _ H l b _ j).symm,.upd (Ze.Zy ⟨d.1,d.2.1,ZI _,d.2.2,trivial⟩),?_⟩;refine gw ?_;exact Zq (.refl _) (.int _ _) ⟨rfl,rfl⟩
def k92(n:Nat)(H:Za)(q:Tabs H)(w:0<n)(l d e f:Nat)(t:l<n)(z:e<l)(i h:AV)(a:List Bnd)(g:a.length<=1000000)(m:H l d=some (prB i (.ptr e f 0) a h))(b:Below n i/\Below n h)(s:Sto)(u:Ya H e f s)(o:Ok s)(x:Lt)(v:∀c∈a,BA c x.at_):
  Zh prog n 183 [.iptr [.ptr l d 0],.iptr x.cs] H fun r y=>r=eInt (Go.Abs.XA (atS s.A x.at_) a).2/\y=H.upd l d (prB i (.ptr e f 0) (Go.Abs.XA (atS s.A x.at_) a).1 h):=by
 have j:l≠n:=om;refine aF func183 fun B=>?_
 refine gc ?_;refine YS (caps:=[]) (avs:=[.ptr l d 0,x.at_.enc]) rfl (Zf func184 rfl rfl) (j93 (n+1) _ (q.full w) om l d e f om om i h a g (by rw[Zi t];exact m) ⟨b.1.mono om,b.2.mono om⟩ s (fun k x p=>by rw[Zi om];exact u k x p) o x.at_ v) sS ?_;rintro r C ⟨rfl,rfl⟩;refine⟨[],H.upd l d (prB i (.ptr e f 0) (Go.Abs.XA (atS s.A x.at_) a).1 h),(Yj n _ H l d _ j).symm,.upd (Ze.Zy ⟨b.1,.ptr _ _ _ (show e<n by omega),ZI _,b.2,trivial⟩),?_⟩;refine gw ?_;exact Zq (.refl _) (.int _ _) ⟨rfl,rfl⟩
def k94(n:Nat)(H:Za)(hT:Tabs H)(hn:0<n)(l e d:Nat)(m:l<n)(j o i:AV)(a:H l e=some (.box [.map l d,j,o,i]))(S:List Str)(h:H l d=some (.map (encS S)))(x:Lt)(g:Sm x):
  PC prog n 185 [x.enc,.iptr [.ptr l e 0]] H (.bool (!X0 S x)):=by
 have b:¬l=n:=om;have k:=g.tv.2.2;refine aF func185 fun B=>?_
 refine nR ?_;have f:X0 S x=(!(x.kind==2)&&Ve S (ZX x)):=rfl;cases c:(x.kind==2)with
 |true=>
  rw[f,c];refine XD tok mixed drawO rfl rfl rfl ?_;simp -implicitDefEqProofs (maxSteps:=1000000) only[go_sem,simprocAttr,b,a,c];exact pB
 |false=>
  rw[f,c];refine XD tok mixed drawO rfl rfl rfl ?_;simp -implicitDefEqProofs (maxSteps:=1000000) only[go_sem,simprocAttr,b,a,c];refine cT (j41 x g) ?_;refine ZjT (Zf func88 rfl rfl) (j48 (n+1) _ l d om S (ZX x) om (by rw[Zi m];exact h)) (by simp only[go_sem,simprocAttr];rfl) ?_;refine aS ?_;exact pB
def ZcI(A:List Am):List Stp->List Bnd->Nat->List Bnd
 |_,now,0=>now
 |[],now,_+1=>now
 |s::r,now,i+1=>ZcI A r (Go.Abs.XA (stepS A s) now).1 i
def ZeF(A:List Am):∀(p:List Stp) (a:List Bnd) (i:Nat) (h:i<p.length),ZcI A p a (i+1)=(Go.Abs.XA (stepS A p[i]) (ZcI A p a i)).1
 |s::r,a,0,_=>by
  cases r<;>rfl
 |s::r,a,i+1,h=>by
  have:=ZeF A r (Go.Abs.XA (stepS A s) a).1 i (by simpa using h);exact this
structure ZjJ (A:List Am) (p:List Stp) (S0:List Str) (now:List Bnd) (i:Nat):Prop where
 eq:ZcJ A p now=ZcJ A (p.drop i) (ZcI A p now i)
 ok:∀b∈ZcI A p now i,YG b/\ ∀n,n∈ZP b↔n∈S0++(p.take i).flatMap varS
 rdy:Rdy (S0++(p.take i).flatMap varS) (p.drop i)
 len:(ZcI A p now i).length<=20001
def Zrw(f:Bnd->List Bnd×Int)(a:List Bnd):(Go.Abs.XA f a).1.length<=20001:=by
 have:∀(q:List Bnd) (p:List Bnd×Int),p.1.length<=20001->(q.foldl (fun p b=>WZ p (f b)) p).1.length<=20001:=by
  intro q;induction q with
  |nil=>intro p h;exact h
  |cons x q ih=>
   intro p _;refine ih _ ?_;simp only[WZ,Zgo];split
   ·rw[QJ];omega
   ·omega
 exact this a ([],0) sm
section
variable {i:Nat} {S0:List Str} {p:List Stp} {A:List Am}
def ZjJ.step(v:∀a∈A,YO a=true){d:List Bnd}(h:ZjJ A p S0 d i)(o:i<p.length)(r:(Go.Abs.XA (stepS A p[i]) (ZcI A p d i)).2=0):ZjJ A p S0 d (i+1):=by
 have q:p.drop i=p[i]::p.drop (i+1):=QB o;have l:=ZeF A p d i o;have k:=h.rdy;rw[q]at k;have s:S0++(p.take (i+1)).flatMap varS=(S0++(p.take i).flatMap varS)++varS p[i]:=by
  rw[Qn o,Uz,Q5];simp
 refine⟨?_,fun b f=>?_,by rw[s];exact k.2,by rw[l];exact Zrw _ _⟩
 ·rw[h.eq,q,ZcJ,if_pos r,l]
 ·rw[l]at f;obtain⟨w,m⟩:=Zrx r;rw[m,QI]at f;obtain⟨c,t,f⟩:=f;obtain⟨u,e⟩:=h.ok c t;obtain⟨g,_,j,_⟩:=(Zq3 v u (Zb4 (fun n=>(e n).symm) k.1) (w c t) b).1 f;exact⟨g,fun n=>by rw[j,e,s];exact Qr.symm⟩
def plG_made:∀(f:Nat) (S:List Str) (l:List Lt),(∀x∈l,okX x)-> ∀q∈(plG f S l).1,q.2∈l/\JA q.1 q.2
 |0,_,_,_,_,h=>by cases h
 |f+1,S,l,ho,q,h=>by
  unfold plG at h;split at h
  ·cases h
  ·rename_i s x r d;obtain⟨b,_,a⟩:=Zie ho d;rcases Ql.1 h with rfl|h
   ·exact⟨a.mem_iff.2 sm,b⟩
   ·have:=plG_made f _ r (fun y c=>ho y (a.mem_iff.2 (by simp[c]))) q h;exact⟨a.mem_iff.2 (by simp[this.1]),this.2⟩
def fnF:Stp×Lt->Nat
 |(.test _,_)=>179
 |(.bind _ _,_)=>181
 |(.atom _,_)=>183
def fnC(l a:Nat):Stp×Lt->LA
 |(.test x,_)=>[.iptr [.ptr l a 0],.iptr x.cs]
 |(.bind s t,_)=>[.iptr [.ptr l a 0],.iptr [.str s],.iptr t.cs]
 |(.atom _,x)=>[.iptr [.ptr l a 0],.iptr x.cs]
def ZrP(q:Stp×Lt):∃b c,Fun prog (fnF q) b c:=by
 obtain⟨s,x⟩:=q;cases s with
 |test y=>exact⟨_,_,Zf func179 rfl rfl⟩
 |bind s t=>exact⟨_,_,Zf func181 rfl rfl⟩
 |atom a=>exact⟨_,_,Zf func183 rfl rfl⟩
def Zu4(K:ExpOK)(n:Nat)(H:Za)(E:Tabs H)(p:0<n)(l u k v:Nat)(i:l<n)(I:k<l)(B w:AV)(b:List Bnd)(h:b.length<=1000000)(m:H l u=some (prB B (.ptr k v 0) b w))(j:Below n B/\Below n w)(s:Sto)(O:Ya H k v s)(F:Ok s)
  (q:Stp×Lt) (G:JA q.1 q.2) (d:Sm q.2) (D:0<=q.2.op/\q.2.op<=255) (f:∀c∈b,YG c/\c.length<=100000/\Ready (ZP c) q.1):
  Zh prog n (fnF q) (fnC l u q) H fun r Q=>r=eInt (Go.Abs.XA (stepS s.A q.1) b).2/\Q=H.upd l u (prB B (.ptr k v 0) (Go.Abs.XA (stepS s.A q.1) b).1 w):=by
 obtain⟨P,x⟩:=q;cases P with
 |test y=>
  obtain⟨rfl,J⟩:=G;refine k88 K n H E p l u i B (.ptr k v 0) w b h m ⟨j.1,.ptr _ _ _ om,j.2⟩ y D fun c C=>?_
  obtain⟨g,i,z⟩:=f c C;exact⟨⟨g,i,d.good.L,d.L,fun n p=>z n (UH _ p)⟩,⟨g,i,d.good.R,d.R,fun n p=>z n (U6 _ p)⟩⟩
 |bind nm t=>
  obtain⟨J,N,C⟩:=G;dsimp only at C d;refine k90 K n H E p l u i B (.ptr k v 0) w b h m ⟨j.1,.ptr _ _ _ om,j.2⟩ nm t fun c o=>?_
  obtain⟨g,i,z⟩:=f c o;rcases C with⟨_,_,rfl⟩|⟨_,_,rfl⟩
  ·exact⟨g,i,d.good.R,d.R,z.2⟩
  ·exact⟨g,i,d.good.L,d.L,z.2⟩
 |atom a=>
  obtain⟨J,M,e⟩:=G;dsimp only at e d;subst e;refine k92 n H E p l u k v i I B w b h m j s O F x fun c o=>?_
  obtain⟨g,i,z⟩:=f c o;exact⟨g,i,d.good.at_,d.at_⟩
structure Zef (l:List Lt) (b:Bnd) (F:List Lt):Prop where
 sm:∀y∈F,Sm y
 op:∀y∈F,0<=y.op/\y.op<=255
 ok:∀y∈F,okX y
 len:F.length<=9160
 vars:(F.flatMap ZX).length<=15250
variable {b:Bnd} {l:List Lt}
def Zkr(c:l.length<=10)(a:∀x∈l,Sm x)(g:b.length<=1000):(Y0 l b).length<=7100:=by
 have e:(l.flatMap ZX).length<=l.length*610:=by
  clear c;induction l with
  |nil=>simp
  |cons x r ih=>
   have:=(a x sm).tv.2.2;have:=ih fun y d=>a y (by simp[d])
   rw[Uk,Qh,Qm];omega
 unfold Y0;rw[Qh];have f:(ZP b).length=b.length:=by simp[ZP]
 omega
def ZrO(i:l.length<=10)(d:∀x∈l,Sm x)(g:∀x∈l,0<=x.op/\x.op<=255)(n:b.length<=1000)(k:l.all Xt=true):Zef l b (Vr l (Y0 l b)):=by
 have m:=Zkr i d n;have o:(l.flatMap fun x=>(XE x).flatMap Z8).length<=l.length*915:=by
  clear m i g k;induction l with
  |nil=>simp
  |cons x r ih=>
   have:=Zha (d x sm);have:=ih fun y a=>d y (by simp[a])
   rw[Uk,Qh,Qm];omega
 have c:=ZpK (S:=Y0 l b++l.flatMap fun x=>(XE x).flatMap Z8) (by rw[Qh];omega) l 0 d (by
  have p:l.length*(305*((Y0 l b++l.flatMap fun x=>(XE x).flatMap Z8).length+2))<=10*(305*20002):=Qba i (Qau _ (by rw[Qh];omega));omega)
 have f:=Zj9 (S:=Y0 l b++l.flatMap fun x=>(XE x).flatMap Z8) l 0 d;refine⟨fun y a=>(c y a).1,fun y a=>?_,ZlY 0 fun x j=>(Zis (Qw.1 k x j)).1,by have:=f.2;unfold Vr;omega,by have:=f.1;unfold Vr;omega⟩;rcases(c y a).2 with h|⟨x,j,e⟩
 ·exact h
 ·rw[e];exact g x j
variable {S1:List Str}
def Zh5(hv:l.all Xt=true)(e:validB b=true)(d:∀x,x∈S0↔x∈ZP b){D:List (Stp×Lt)}{R:List Lt}
  (h:plG (Vr l (Y0 l b)).length S0 (Vr l (Y0 l b))=(D,S1,R)):
  JM A l b=if R.all (X0 S1)then(if(ZcJ A (D.map Prod.fst) [b]).2=0 then(X5 Y9 ((ZcJ A (D.map Prod.fst) [b]).1.map (Zb6 (Y0 l b))),0)else([],(ZcJ A (D.map Prod.fst) [b]).2))else([],120):=by
 obtain⟨c,a,f⟩:=plG_planF (Vr l (Y0 l b)).length S0 (ZP b) (Vr l (Y0 l b)) d;rw[h]at c a f;dsimp only at c a f;have g:JM A l b=match ZcR (ZP b) (Vr l (Y0 l b))with
   |none=>([],eUnsafe)
   |some p=>if(ZcJ A p [b]).2=0 then(X5 Y9 ((ZcJ A p [b]).1.map (Zb6 (Y0 l b))),0)else([],(ZcJ A p [b]).2):=by
  unfold JM;rw[hv,e];rfl
 rw[g];unfold ZcR;simp only;rw[<-c,<-f,Zdv fun n=>(a n).symm];cases R.all (X0 S1)<;>rfl
variable {F:List Lt}
def Zo6(h:Zef l b F)(g:validB b=true)(f:∀x,x∈S0↔x∈ZP b){D:List (Stp×Lt)}{X:List Str×List Lt}(j:plG F.length S0 F=(D,X)):
  ZjJ A (D.map Prod.fst) (ZP b) [b] 0/\(∀q∈D,q.2∈F/\JA q.1 q.2)/\D.length<=F.length/\ ∀n∈(D.map Prod.fst).flatMap varS,n∈F.flatMap ZX:=by
 obtain⟨o,_,_⟩:=plG_planF F.length S0 (ZP b) F f;obtain⟨T,k,e,m,_,_⟩:=plan_spec F.length (ZP b) F h.ok;rw[<-o,j]at e m;have hm:=plG_made F.length S0 F h.ok;rw[j]at hm;have a:∀y∈T,y∈F:=fun y d=>k.mem_iff.2 (UH _ d)
 refine⟨⟨by simp[ZcI],fun c hc=>?_,by simpa using m,by simp[ZcI]⟩,hm,?_,fun n hn=>?_⟩
 ·simp only[ZcI,Qo]at hc;subst hc;exact⟨validB_good g,fun n=>by simp⟩
 ·have i:=e.len;have p:=k.length_eq;rw[Qv]at i;rw[Qh]at p;dsimp only at i;omega
 ·obtain⟨y,d,hn⟩:=QI.1 ((fa_vars e (fun y d=>h.ok y (a y d)) n).1 hn);exact QI.2 ⟨y,a y d,hn⟩
def ZoV(d:∀x,x∈S0↔x∈ZP b){D:List (Stp×Lt)}{R:List Lt}(f:plG F.length S0 F=(D,S1,R))(g:R.all (X0 S1)=true):ZcR (ZP b) F=some (D.map Prod.fst):=by
 obtain⟨c,a,e⟩:=plG_planF F.length S0 (ZP b) F d;rw[f]at c a e;dsimp only at c a e;unfold ZcR;simp only;rw[<-c,<-e,Zdv fun n=>(a n).symm,g];rfl
def ZqA(i:∀x∈l,okX x)(f:ZcR (ZP b) (Vr l (Y0 l b))=some p){c:Bnd}(g:YG c)(e:∀n,n∈ZP c↔n∈ZP b++p.flatMap varS):WY (Y0 l b) (Zb6 (Y0 l b) c):=by
 let S:=Y0 l b++l.flatMap fun x=>(XE x).flatMap Z8
 have d:∀y∈flL S l 0,okX y:=ZlY 0 i;have a:ZcR (ZP b) (flL S l 0)=some p:=f;obtain⟨m,j,k⟩:=ZoU d a;refine⟨g.filter _,fun n=>?_⟩;rw[ZqH];refine⟨fun h=>h.1,fun h=>⟨h,(e n).2 ?_⟩⟩;rw[Qr,j,Zj8 S l 0 n];rcases Qr.1 h with h|h
 ·exact .inr (.inl h)
 ·exact .inl h
def ZmC{S T:List Str}(h:∀n,n∈S↔n∈T)(c:Bnd):Zb6 S c=Zb6 T c:=by
 unfold Zb6;congr 1
 funext q;exact decide_eq_decide.2 (h q.1)
def Znk(o:Zef l b F)(u:b.length<=1000)(f:∀n∈p.flatMap varS,n∈F.flatMap ZX)(h:ZjJ A p (ZP b) [b] i):∀c∈ZcI A p [b] i,c.length<=100000:=fun c k=>by
 obtain⟨g,d⟩:=h.ok c k;have a:(ZP c).Nodup:=(Zgd g.asc).imp fun h e=>by rw[e,cmpBytes_self]at h;omega
 have:=XV a (q:=ZP b++F.flatMap ZX) fun n m=>by
  rcases Qr.1 ((d n).1 m)with h|h
  ·exact UH _ h
  ·obtain⟨s,j,h⟩:=QI.1 h;exact U6 _ (f n (QI.2 ⟨s,UW j,h⟩))
 rw[Qh]at this;have r:=o.vars;have v:(ZP b).length=b.length:=by simp[ZP]
 have t:(ZP c).length=c.length:=by simp[ZP]
 omega
def ZjJ.use(m:Zef l b F)(j:b.length<=1000)(f:∀n∈p.flatMap varS,n∈F.flatMap ZX)(h:ZjJ A p (ZP b) [b] i)(k:i<p.length):∀c∈ZcI A p [b] i,YG c/\c.length<=100000/\Ready (ZP c) p[i]:=fun c d=>by
 obtain⟨g,e⟩:=h.ok c d;have a:=h.rdy;rw[QB k]at a;exact⟨g,Znk m j f h c d,Zb4 (fun n=>(e n).symm) a.1⟩
end
end Go.Proofs.YthajllbimoodjaaGreatDoor

namespace Go.Abs
section
variable {P:Program} {b:Frame} {a:Act} {k:List Item} {cs:List Frame} {w:World}
def X6{c:Code}:step P (lone (b.atR a (.code (.scope c)::k)) cs w)= .next (lone (b.atR a (.code c:: .inScope c::k)) cs w):=
 step_lone_go (by simp[stepG,stepG.exec,Frame.atR])
def ZcS{c:Code}:step P (lone (b.atR a (.inScope c::k)) cs w)= .next (lone (b.atR a k) cs w):=
 step_lone_go (by simp[stepG,stepG.exec,Frame.atR])
end
def ZeW{F:Fence}{n:Nat}{P:Program}{Q:Exit->Act->World->Prop}{a:Act}{w:World}{c j:Code}(l:Nat)(J:Act->World->Prop)(G:Act->World->Nat)(N:findLabel c l=some j)
  (first:c.wpIn F n P (Exit.jump l J Q) a w)
  (z:∀a w,J a w->j.wpIn F n P (Exit.jump l (fun B y=>J B y/\G B y<G a w) Q) a w):(Code.scope c).wpIn F n P Q a w:=by
 intro b k cs A C E;have K:gotoIn l (.inScope c::k)=some (.code j:: .inScope c::k):=by simp[gotoIn,N]
 have u:∀{a:Act} {w:World},(lone (b.atR a (.code (.scope c)::k)) cs w).fenced P F:=fenced_calm C E rfl;have L:∀{a:Act} {w:World},(lone (b.atR a (.inScope c::k)) cs w).fenced P F:=fenced_calm C E rfl;have s:∀{D:Nat},exitTo D (.inScope c::k)=exitTo D k:=by simp[exitTo]
 have I:∀m a w,G a w=m->J a w-> ∃e B y,Q e B y/\ArrivesIn (Machine.fenced P F) P (lone (b.atR a (.code j:: .inScope c::k)) cs w) b k cs e B y:=by
  intro m;induction m using Nat.strongRecOn with
  |_ m ih=>
   intro a w R O;obtain⟨e,g,f,o,d⟩:=z a w O b (.inScope c::k) cs A C E;cases e with
   |normal=>exact⟨.normal,g,f,o,StepsIn.trans d (.one L ZcS)⟩
   |exit D=>exact⟨_,g,f,o,fun H x=>d.1 H (by rw[s];exact x),fun t x=>d.2 t (by rw[s];exact x)⟩
   |goto l'=>
    obtain⟨rfl,v,M⟩:=o;obtain⟨p,q,r,i,h⟩:=ih _ om g f rfl v;exact⟨p,q,r,i,.of_steps (d.1 _ K) h⟩
   |ret=>exact⟨_,g,f,o,d⟩
   |panic ch=>exact⟨_,g,f,o,d⟩
   |outgrown=>exact⟨_,g,f,o,d⟩
 obtain⟨e,g,f,o,d⟩:=first b (.inScope c::k) cs A C E
 cases e with
 |normal=>exact⟨.normal,g,f,o,.head u X6 (StepsIn.trans d (.one L ZcS))⟩
 |exit D=>exact⟨_,g,f,o,fun H x=>.head u X6 (d.1 H (by rw[s];exact x)),fun t x=>let⟨k₁,h2,h3⟩:=d.2 t (by rw[s];exact x);⟨k₁,h2,.head u X6 h3⟩⟩
 |goto l'=>
  obtain⟨rfl,v⟩:=o;obtain⟨p,q,r,i,h⟩:=I _ g f rfl v;exact⟨p,q,r,i,.of_steps (.head u X6 (d.1 _ K)) h⟩
 |ret=>exact⟨_,g,f,o,.of_steps (.one u X6) d⟩
 |panic ch=>exact⟨_,g,f,o,.of_steps (.one u X6) d⟩
 |outgrown=>exact⟨_,g,f,o,.of_steps (.one u X6) d⟩
def JQ(l:Nat)(J:Zc->Prop)(Q:Exit->Zc->Prop):Exit->Zc->Prop:=fun e s=>match e with
 | .goto l'=>l'=l/\J s
 |e=>Q e s
def Zpf{P:Program}{t:Fm}{n N:Nat}{c o:Code}{k:List Itm}{Q:Exit->Zc->Prop}{s:Zc}(l:Nat)(I:Nat->Zc->Prop)(W:findLabel c l=some o)
  (first:AK P t n N [.code c] (JQ l (fun j=>∃m d,AWk n N j d/\I m d) (AX P t n N Q k)) s)
  (y:∀m s,I m s->AK P t n N [.code o] (JQ l (fun j=>∃D d,D<m/\AWk n N j d/\I D d) (AX P t n N Q k)) s):
  AK P t n N (.code (.scope c)::k) Q s:=fun E w a X=>by
 classical
 let M (a:Act) (g:World) (m:Nat):Prop:=∃j F,I m j/\Yd t.B n N j F a g/\Ext n E w F g
 let μ (a:Act) (g:World):Nat:=if h:∃m,M a g m then Classical.choose (least h)else 0
 refine ZeW l (fun a g=>∃m,M a g m) μ W ?_ ?_
 ·refine wpIn_mono (first E w a X) ?_;rintro e u v ⟨L,A,z,f,b⟩;cases e with
  |goto l'=>
   obtain⟨rfl,m,U,r,R⟩:=z;obtain⟨O,q,p⟩:=r _ A v u f;exact⟨rfl,m,U,O,R,q,b.trans p⟩
  |_=>exact⟨L,A,z,f,b⟩
 ·intro V g K;have G:μ V g=Classical.choose (least K):=dif_pos K;obtain⟨j,F,R,J,x⟩:=(Qah (least K)).1;refine wpIn_mono (y _ j R F g V J) ?_;rintro e u v ⟨L,A,z,f,b⟩;cases e with
  |goto l'=>
   obtain⟨rfl,D,U,H,r,S⟩:=z;obtain⟨O,q,p⟩:=r _ A v u f;have C:M u v D:=⟨U,O,S,q,x.trans (b.trans p)⟩
   have i:∃m,M u v m:=⟨D,C⟩
   refine⟨rfl,i,?_⟩;have:μ u v=Classical.choose (least i):=dif_pos i;rw[this,G];exact Nat.lt_of_le_of_lt ((Qah (least i)).2 _ C) H
  |_=>exact⟨L,A,z,f,x.trans b⟩
section
variable {cx:Cx} {c:Code} {k:List Itm} {Q:Exit->Zc->Prop} {s:Zc}
def ZrT{l:Nat}(d:c= .label l)(h:AKc cx k Q s):AKc cx (.code c::k) Q s:=by
 rw[d];exact fun E w a b=>wpIn_label ⟨s,E,h,b,.refl cx.n E w⟩
def Zdq{P:Program}{a:Fm}{n N:Nat}{l:Nat}(h:Q (.goto l) s):∀k,AX P a n N Q k (.goto l) s
 |[]=>h
 | .code _::k=>Zdq h k
 | .blk _::k=>Zdq h k
def Zp7{l:Nat}(d:c= .goto l)(h:Q (.goto l) s):AKc cx (.code c::k) Q s:=by
 rw[d];exact fun E w a b=>wpIn_goto ⟨s,E,Zdq h k,b,.refl cx.n E w⟩
def ZrU(l:Nat)(I:Nat->Zc->Prop){b:Code}(h:c= .scope c.fst)(g:findLabel c.fst l=some b)
  (first:AKc cx [.code c.fst] (JQ l (fun e=>∃m a,AWk cx.n cx.N e a/\I m a) (AX cx.P cx.φ cx.n cx.N Q k)) s)
  (d:∀m s,I m s->AKc cx [.code b] (JQ l (fun e=>∃f a,f<m/\AWk cx.n cx.N e a/\I f a) (AX cx.P cx.φ cx.n cx.N Q k)) s):
  AKc cx (.code c::k) Q s:=by rw[h];exact Zpf l I g first d
def Zl4(l:Nat)(I:Nat->Zc->Prop)(m0:Nat)(s0:Zc){rest rest0:Code}(hc:c= .scope c.fst)(hf:findLabel c.fst l=some rest)(hr:∀Q' s,AKc cx [.code rest0] Q' s->AKc cx [.code rest] Q' s)(pre:∀Q',AKc cx [.code rest0] Q' s0->AKc cx [.code c.fst] Q' s)(g:I m0 s0)
  (pass:∀m s,I m s->AKc cx [.code rest0] (JQ l (fun s'=>∃b a,b<m/\AWk cx.n cx.N s' a/\I b a) (AX cx.P cx.φ cx.n cx.N Q k)) s):
  AKc cx (.code c::k) Q s:=by
 refine ZrU l I hc hf (pre _ ?_) fun m s h=>hr _ _ (pass m s h)
 refine Zab ?_ (pass m0 s0 g);intro e s' h;cases e with
 |goto l'=>
  obtain⟨e,b,a,_,f,d⟩:=h;exact⟨e,b,a,f,d⟩
 |_=>exact h
end
end Go.Abs
