/- The variables of a term. -/
import Derived.Test.YtmdeagmbfhbbnaaGreatDoorRS07
import Derived.Test.YtmdeagmbfhbbnaaGreatDoorRS06
set_option linter.all false
set_option maxRecDepth 100000
open Go.Proofs.Tryz
namespace Go.Proofs.YtmdeagmbfhbbnaaGreatDoorR
open Go.Abs
def nm1(t:Tm):List Str:=if t.kind=3 then [t.name]else []
theorem nmT_subs:(∀t:Tm,nmT t=(subs t).flatMap nm1)∧ ∀l:List Tm,nmT.nms l=(subs.subss l).flatMap nm1:=by
 have h:∀t:Tm,nmT t=(subs t).flatMap nm1:=fun t=>Tm.rec (motive_1:=fun t=>nmT t=(subs t).flatMap nm1) (motive_2:=fun l=>nmT.nms l=(subs.subss l).flatMap nm1)
  (fun k n s l ih=>by rw[nmT,subs,QM,ih];rfl) rfl (fun t r h1 h2=>by rw[nmT.nms,subs.subss,Uc,h1,h2]) t
 refine⟨h,fun l=>?_⟩;induction l with
 |nil=>rfl
 |cons t r ih=>rw[nmT.nms,subs.subss,Uc,h,ih]
def subs_good:∀(t:Tm),t.Good→ ∀u∈subs t,u.Good
 | .mk k n s l,h,u,hu=>by
  rw[Zni]at hu;rcases Qk.1 hu with rfl|hu
  ·exact h
  ·obtain⟨v,hv,hu⟩:=Qw.1 hu;have hv':v∈l:=hv;exact subs_good v (h.arg hv) u hu
termination_by t=>SizeOf.sizeOf t
decreasing_by
 have:=QW hv';simp only[Tm.mk.sizeOf_spec];omega
abbrev YO(l:List Str):List AV:=l.map AV.str
theorem flat_aStrs:∀l:List Str,flat (YO l)=YO l
 |[]=>rfl
 |x::l=>by simp only[YO,Qu,Yu];rw[show flat (l.map AV.str)=l.map AV.str from flat_aStrs l];rfl
section
variable {p:Nat→Prop} {n:Nat}
def ZtC(l:List Str):∀c∈YO l,Inside n p c:=fun c hc=>by obtain⟨u,_,rfl⟩:=Qi.1 hc;exact .str _
def Zs8(e sz k:Nat)(l:List Str):Ze.Below n (.Zg e sz (YO l) k):=⟨fun a ha=>by obtain⟨u,_,rfl⟩:=Qi.1 ha;exact .str _,by simp[Ze.at_]⟩
def Xk{n:Nat}{p:Nat→Prop}:∀l:List Str,Yg (fun c=>Inside n p c) (YO l)
 |[]=>trivial
 |_::l=>⟨.str _,Xk l⟩
def VI{k:Nat}(l:List Str):Below n (.sl k (YO l) .any):=Zy fun x hx=>by obtain⟨u,_,rfl⟩:=Qi.1 hx;exact .str _
def Zne{sz l k i:Nat}(h:l<n∨(l=n∧p k)):Inside n p (.msl sz l k i):=.msl _ _ _ _ h
def ZaJ{f:Nat}{caps:List AV}(h:Yg (fun c=>Below n c) caps):Below n (.fn (.func f) caps):=.fn _ _ fun i hi=>h.mem _ (Qa hi)
def ZcZ(t:Tm)(i:Nat):List Str:=((subs t).take i).flatMap nm1
def L56(t:Tm)(n:Nat)(ns:List Str):List (Nat×Ze):=[(1,.box t.cs),(2,.box [.msl 1 n 200 ns.length]),(200,.Zg 9 1 (YO ns) ns.length)]
def j56(t:Tm)(ht:t.Good)(hl:(nmT t).length≤1000000):Pure prog 56 [t.enc] (.sl 1 (YO (Z8 t)) .any):=by
 intro n H;refine aF func56 fun B=>?_
 refine gc ?_;refine cP (Ztn t) ?_;refine kK ?_;refine ZaK 2 200 0 9 1 rfl rfl rfl ?_;refine aS ?_;simp only[go_sem,simprocAttr,UR];obtain⟨tm,htm⟩:∃tm:List (Nat×AV),tm=[(5,.fn (.func 163) [.iptr t.cs]),(4,t.enc),(2,.ptr n 2 0),(1,.ptr n 1 0),(0,t.enc)]:=⟨_,rfl⟩
 have h5:lkv tm 5= .fn (.func 163) [.iptr t.cs]:=by rw[htm];rfl
 have h2:lkv tm 2= .ptr n 2 0:=by rw[htm];rfl
 have hbt:Yg (fun p=>Below (n+1) p.2) tm:=by
  rw[htm];exact⟨ZaJ ⟨Zl t.bcs,trivial⟩,t.blw _,.ptr _ _ _ (Qq n),.ptr _ _ _ (Qq n),t.blw _,trivial⟩
 refine Yc (tm:=[(5,.fn (.func 163) [.iptr t.cs]),(4,t.enc),(2,.ptr n 2 0),(1,.ptr n 1 0),(0,t.enc)]) (L:=L56 t n []) (H:=H) rfl ?_;rw[←htm];clear htm;refine ZeD (caps:=[.iptr t.cs]) 100 rfl (by simp only[go_sem,simprocAttr,h5]) (Zf func163 rfl rfl) rfl fun y=>?_
 refine⟨_,Zvf (x:=n) (l:=y) (L:=subs t) (S:=fun i=>lkb (setb (L56 t n (ZcZ t i)) 100 (.lrec y Tryz.f56.ntmps 0 tm #[6] (ZR Tryz.f56).snd.fst.snd.fst.fst (ZR Tryz.f56).snd.fst.snd.fst.snd .ready none))) (H0:=H) ?_ ?_ t ht rfl (n+1) _ (Qq n) (fun l' k h=>by simp only[full];rw[if_neg om]) (fun k=>by simp only[full,if_true];rfl),?_⟩
 ·intro m H' i u hm hu hlow hlv;have hnm:¬n=m:=om;have h2':=hlv 2;have h200:=hlv 200;have h100:=hlv 100;simp only[L56,setb,lkb]at h2' h200 h100;have hug:=subs_good t ht u (Gm hu);refine Zhw tt (x:=n) (y:=100) h100 hm rfl dc fun B'=>?_
  show AKc _ _ _ ⟨(6,u.enc)::tm,[],H'⟩;refine gd ?_;refine⟨rfl,h100,?_⟩;refine gP ?_;have hns:ZcZ t (i+1)=ZcZ t i++nm1 u:=by
   obtain⟨hi,hie⟩:=Ub.1 hu;unfold ZcZ;rw[Qn hi,Uc,hie];simp
  have hnl:(ZcZ t i).length≤1000000:=by
   have h3:(ZcZ t i).length≤(nmT t).length:=by
    rw[nmT_subs.1 t];unfold ZcZ
    conv=>rhs;rw[←QZ i (subs t),Uc,Qd]
    omega
   omega
  cases hk:u.kind==3 with
  |false=>
   have hn1:nm1 u=[]:=by unfold nm1;rw[if_neg (by simpa using hk)]
   rw[hn1,Qs]at hns;refine nFq hk ?_;refine kK ?_;refine nN ?_;refine⟨by simp[Za.upd],rfl,?_⟩;rw[hns,Zln hlv];exact ZjG h100
  |true=>
   have hn1:nm1 u=[u.name]:=by unfold nm1;rw[if_pos (by simpa using hk)]
   rw[hn1]at hns;refine nTq hk ?_;refine nr ?_;simp only[go_sem,simprocAttr,hnm,h2,h2',h200,full,Za.upd,(show¬m=n by omega)];have hfl:YO (ZcZ t i)++flat [AV.str u.name]=YO (ZcZ t i++[u.name]):=by simp[YO,flat,AV.cells]
   have hl1:(ZcZ t i).length+1=(ZcZ t i++[u.name]).length:=sm;rw[hfl];refine⟨rfl,⟨Zm om,om⟩,.inr (Zs8 _ _ _ _),.inr (Ze.Zz ⟨.msl _ _ _ _ hm,trivial⟩),?_⟩;rw[hl1];refine kK ?_;refine nN ?_;refine⟨by simp[Za.upd],rfl,Zi7 (fun j=>?_) (fun l' j hne=>?_)⟩
   ·rw[hns];by_cases e1:j=100
    ·subst e1;simp[Za.upd,setb,lkb,L56]
    ·by_cases e2:j=2
     ·subst e2;simp[Za.upd,setb,lkb,L56]
     ·by_cases e3:j=200
      ·subst e3;simp[Za.upd,setb,lkb,L56]
      ·simp[Za.upd,e1,e2,e3,hlv j,setb,lkb,L56,Ne.symm e1,Ne.symm e2,Ne.symm e3]
   ·simp[Za.upd,hne]
 ·intro i j b' h;have hb:Yg (fun q:Nat×Ze=>q.2.Below (n+1)) (setb (L56 t n (ZcZ t i)) 100 (.lrec y Tryz.f56.ntmps 0 tm #[6] (ZR Tryz.f56).snd.fst.snd.fst.fst (ZR Tryz.f56).snd.fst.snd.fst.snd .ready none)):=
   ⟨Ze.Zz t.bcs,Ze.Zz ⟨.msl _ _ _ _ (Qq n),trivial⟩,Zs8 _ _ _ _,Ze.ZaX hbt,trivial⟩
  exact hb.mem _ (lkb_mem h)
 ·rintro r H1 rfl;have hall:ZcZ t (subs t).length=nmT t:=by unfold ZcZ;rw[QN,←nmT_subs.1]
  rw[hall];generalize hN:nmT t=ns at hl;have hv:Lib.compact (ns.mergeSort fun x y=>decide (x≤y))=Z8 t:=by rw[Zh5,Z8,hN]
  refine⟨setb (L56 t n ns) 100 (.lrec y Tryz.f56.ntmps 0 tm #[6] (ZR Tryz.f56).snd.fst.snd.fst.fst (ZR Tryz.f56).snd.fst.snd.fst.snd .ready none),H,.ready,none,?_,.refl _ _,rfl,sm,?_⟩
  ·funext l' j;simp only[Za.YN,full];by_cases e:l'=n
   ·rw[if_pos e,if_pos e]
   ·rw[if_neg e,if_neg e,if_neg e]
  simp only[go_sem,simprocAttr,L56,setb];refine nq h2 ?_;refine YV (caps:=[]) (avs:=[.msl 1 n 200 ns.length]) rfl (Zf func105 rfl rfl) (Zqh (P:=prog) Tryz.lays190 (n+1) _ n 200 9 1 ns sS om) sS ?_;rintro r H1 ⟨rfl,rfl⟩;obtain⟨ys,hys⟩:∃ys,ys=ns.mergeSort fun x y=>decide (x≤y):=⟨_,rfl⟩
  have hyl:ys.length=ns.length:=by rw[hys];simp
  rw[←hys]at hv⊢;refine⟨[(1,.box t.cs),(2,.box [.msl 1 n 200 ns.length]),(200,.Zg 9 1 (YO ys) ns.length),(100,.lrec y Tryz.f56.ntmps 0 tm #[6] (ZR Tryz.f56).snd.fst.snd.fst.fst (ZR Tryz.f56).snd.fst.snd.fst.snd .exhausted none)],H,(Zn n _ H 200 _).symm,.refl _ _,?_⟩;rw[←hyl];refine gM ?_;refine ZK (s':=⟨[(2,.ptr n 2 0)],[(2,.box [.msl 1 n 200 ys.length]),(200,.Zg 9 1 (YO ys) ys.length)],H⟩) ?_ ?_
  ·apply kZ;repeat' first|apply q0|exact xx|apply aI
   all_goals first|exact Xk ys|(show Wk (lkv tm 2) _;rw[h2];exact .refl _)|(show Inside _ _ (lkv tm 2);rw[h2];exact .ptr _ _ _ (.inr ⟨rfl,rfl⟩))|(show Inside n _ (.msl 1 n 200 ys.length);exact Zne (.inr ⟨rfl,rfl⟩))
  rcases MO ys.length with h0|hpos
  ·have hn:ys=[]:=Ud h0;subst hn;refine nR ?_;refine YV (caps:=[]) (avs:=[.msl 1 n 200 0]) rfl (Zf func106 rfl rfl) (ZhV (P:=prog) Tryz.lays194 (n+1) _ n 200) sS ?_;rintro r H1 ⟨rfl,rfl⟩;refine⟨[(2,.box [.msl 1 n 200 0]),(200,.Zg 9 1 [] 0)],H,rfl,.refl _ _,?_⟩;refine gM ?_;refine ZK (YU (tm':=[(2,.ptr n 2 0)]) (av':=.sl 1 (YO []) .any) (j0:=2) (i:=0) (j:=200) 14 (show 14<19 by decide) [] dc rfl rfl (.inl ⟨_,rfl,rfl⟩) rfl rfl rfl sm sm ?_ ?_) ?_
   ·simp[lkv,Wk.refl];exact .ptr _ _ _ sm
   ·simp[setb,delb];exact Ze.Zx ⟨.dead,trivial⟩
   simp only[go_sem,simprocAttr,setb,delb];refine nV ?_;rw[←hv];refine Ye (.inl rfl) _ n 2 0 [.sl 1 [] .any] sS (by simp only[go_sem,simprocAttr,full,UR]) rfl (Qe _) sS ?_ (VI _) rfl;refine aS ?_;exact .refl _
  ·refine nR ?_;refine YV (caps:=[]) (avs:=[.msl 1 n 200 ys.length]) rfl (Zf func106 rfl rfl) (ZkB (P:=prog) Tryz.lays194 (n+1) _ n 200 9 ys hpos sS om) sS ?_;rintro r H1 ⟨rfl,rfl⟩;rw[hv];have hle:(Z8 t).length≤ys.length:=by rw[←hv];exact Lib.compact_length_le ys
   obtain⟨zs,hzs⟩:∃zs,zs=Z8 t++List.replicate (ys.length - (Z8 t).length) ([]:List UInt8):=⟨_,rfl⟩
   rw[←hzs];have hzl:zs.length=ys.length:=by rw[hzs];simp;omega
   have htk:zs.take (Z8 t).length=Z8 t:=by rw[hzs];simp
   refine⟨[(2,.box [.msl 1 n 200 ys.length]),(200,.Zg 9 1 (YO zs) ys.length)],H,(Zn n _ H 200 _).symm,.refl _ _,?_⟩;refine gM ?_;refine ZK (YU (tm':=[(2,.ptr n 2 0)]) (av':=.sl 1 (YO (Z8 t)) .any) (j0:=2) (i:=0) (j:=200) 14 (show 14<19 by decide) (YO zs) dc rfl rfl (.inr ⟨0,_,rfl,by rw[GZ,YO,YO,←List.map_take,htk]⟩) rfl (flat_aStrs zs) (by simp[hzl]) (fun x hx=>by obtain⟨u,_,rfl⟩:=Qi.1 hx;rfl) (ZtC zs) ?_ ?_) ?_
   ·simp[lkv,Wk.refl];exact .ptr _ _ _ sm
   ·simp[setb,delb];exact Ze.Zx ⟨.dead,trivial⟩
   simp only[go_sem,simprocAttr,setb,delb];refine nV ?_;refine Ye (.inl rfl) _ n 2 0 [.sl 1 (YO (Z8 t)) .any] sS (by simp only[go_sem,simprocAttr,full,UR]) rfl (Qe _) sS ?_ (VI _) rfl;refine aS ?_;exact .refl _
end
def addN(S:List Str)(x:Str):List Str:=if x∈S then S else S++[x]
def ZM(S l:List Str):List Str:=l.foldl addN S
def encS(S:List Str):List (AV×AV):=Zax AV.str (fun _:Unit=>AV.agg []) (S.map fun s=>(s,()))
theorem Zkn(x:Str):∀S:List Str,(getM x (S.map fun s=>(s,()))).isSome=decide (x∈S)
 |[]=>rfl
 |y::r=>by
  have ih:=Zkn x r;simp only[Qu,getM];by_cases h:y=x
  ·simp[h]
  ·rw[if_neg h,ih];have:¬x=y:=fun e=>h e.symm
   simp[this]
theorem Zkb(x:Str):∀S:List Str,ZfL x () (S.map fun s=>(s,()))=(addN S x).map fun s=>(s,())
 |[]=>rfl
 |y::r=>by
  have ih:=Zkb x r;simp only[Qu,ZfL];by_cases h:y=x
  ·simp[h,addN]
  ·rw[if_neg h,ih];have:¬x=y:=fun e=>h e.symm
   unfold addN;by_cases h2:x∈r<;>simp[h2,this]
def Zrw(x:Str)(S:List Str):Zaw (.str x) (.agg []) (encS S)=encS (addN S x):=by
 unfold encS;rw[←Zkb];exact Zls kinj_str (fun _:Unit=>AV.agg []) x () _
def WE{n:Nat}(S:List Str):Ze.Below n (.map (encS S)):=ZkJ (ZfQ (ek:=AV.str) (ev:=fun _:Unit=>AV.agg []) (fun _=>.str _) (fun _ _=>Xa fun _ h=>absurd h (QD)))
def ZoS(x:Str)(S:List Str):lookA ⟨.struct [],0,0,[]⟩ (.str x) (encS S) true= .tup [.agg [],.bool (decide (x∈S))]:=by
 have h:=Zkn x S;unfold encS lookA;rw[ZiQ kinj_str];cases e:getM x (S.map fun s=>(s,()))with
 |none=>rw[e]at h;simp at h;simp[h];rfl
 |some v=>
  rw[e]at h;simp at h;have h1:=ZiH e;have h2:(Zax AV.str (fun _:Unit=>AV.agg []) (S.map fun s=>(s,()))).getD (ixM x (S.map fun s=>(s,()))) (.dead,.dead)=(.str x,.agg []):=by
   rw[Qp,Zax,Q8,h1];rfl
  simp only[Qaa,if_true,h2,h,decide_true]
def _root_.Go.Abs.Za.Zar(H:Za)(l k:Nat)(b b':Ze):(H.upd l k b).upd l k b'=H.upd l k b':=by
 funext x y;simp only[Za.upd];split<;>rfl
def ZpW{S:List Str}{x y:Str}:y∈addN S x↔y∈S∨y=x:=by
 unfold addN;split
 ·rename_i h;constructor
  ·exact .inl
  ·rintro(h'|rfl)
   ·exact h'
   ·exact h
 ·simp
def Vo{y:Str}:∀{l S:List Str},y∈ZM S l↔y∈S∨y∈l
 |[],S=>by simp[ZM]
 |x::l,S=>by
  have:=Vo (y:=y) (l:=l) (S:=addN S x);unfold ZM at*;rw[Uu,this,ZpW,Qk,or_assoc]
def addsN_nodup:∀{l S:List Str},S.Nodup→(ZM S l).Nodup
 |[],S,h=>h
 |x::l,S,h=>by
  refine addsN_nodup (l:=l) (S:=addN S x) ?_;unfold addN;split
  ·exact h
  ·rename_i hn;exact Gn.2 ⟨h,sm,fun a ha b hb e=>by simp only[Ql]at hb;subst hb;subst e;exact hn ha⟩
def addsN_len:∀{l S:List Str},(ZM S l).length≤S.length+l.length
 |[],S=>by simp[ZM]
 |x::l,S=>by
  have h1:=addsN_len (l:=l) (S:=addN S x);have h2:(addN S x).length≤S.length+1:=by unfold addN;split<;>simp
  unfold ZM at*;rw[Uu,Qo];omega
def Zlc(S l:List Str)(i:Nat)(h:i<l.length):ZM S (l.take (i+1))=addN (ZM S (l.take i)) l[i]:=by
 unfold ZM;rw[Qn h,U7];rfl
def ZtF(l k:Nat)(S xs:List Str)(H:Za)(i:Nat):Zb:=
 ⟨[(8,.int .i64 i),(7,.int .i64 xs.length),(6,.sl 1 (YO xs) .any),(0,.map l k)],[],H.upd l k (.map (encS (ZM S (xs.take i))))⟩
def j40(n:Nat)(H:Za)(l k:Nat)(hl:l<n)(S xs:List Str)(hlen:xs.length≤1000000)(hH:H l k=some (.map (encS S))):
  Zh prog n 40 [.map l k,.sl 1 (YO xs) .any] H fun r H'=>r= .tup []∧H'=H.upd l k (.map (encS (ZM S xs))):=by
 have hne:¬l=n:=om;have h0:H=H.upd l k (.map (encS (ZM S (xs.take 0)))):=(Yb hH).symm;refine aF func40 fun B=>?_
 refine gh ?_;refine Zt (ZtF l k S xs H) xs.length rfl ?_ ?_
 ·unfold ZtF;rw[←h0];exact KK
 intro i hi;refine Yc rfl ?_;rcases Qj i xs.length with h|h
 ·refine nq h ?_;refine nT ?_;refine nq2 (getD_map AV.str _ _ h) h ?_;have hput:=Zrw xs[i] (ZM S (xs.take i));have hkk:∀p∈encS (ZM S (xs.take i)),YC tt 9 p.1=true:=fun p hp=>by
   obtain⟨q,_,rfl⟩:=Qi.1 hp;exact Zeq _
  have hup:H.upd l k (.map (encS (ZM S (xs.take i)))) l k=some (.map (encS (ZM S (xs.take i)))):=Za.upd_same _ _ _ _;have huu:∀b,(H.upd l k (.map (encS (ZM S (xs.take i))))).upd l k b=H.upd l k b:=fun b=>Za.Zar _ _ _ _ _
  refine nr ?_;simp only[go_sem,simprocAttr,hne,hup,hput,huu,←Zlc S xs i h];refine⟨hkk,.inr (WE _),?_⟩;refine kK ?_;refine gd ?_;apply kZ;repeat' first|apply q0|exact xx|apply aI
  ·refine aS ?_;rw[iw];exact .refl _
  all_goals first|exact Inside.map _ _ (.inl hl)|exact(VI _).inside
 ·refine nq (QI.2 h) ?_;refine gg ?_;have hi':i=xs.length:=om;subst hi';refine nN ?_;exact⟨by simp[XZ],[],trivial,sm,rfl,by rw[QN]⟩
def ZvB(l k:Nat)(xs:List Str)(H:Za)(i:Nat):Zb:=
 ⟨[(11,.int .i64 i),(10,.int .i64 xs.length),(9,.sl 1 (YO xs) .any),(0,.map l k)],[],H⟩
def j48(n:Nat)(H:Za)(l k:Nat)(hl:l<n)(S xs:List Str)(hlen:xs.length≤1000000)(hH:H l k=some (.map (encS S))):
  PC prog n 48 [.map l k,.sl 1 (YO xs) .any] H (.bool (WX S xs)):=by
 have hne:¬l=n:=om;refine aF func48 fun B=>?_
 refine gk ?_;refine ZX (ZvB l k xs H) (fun i=>∀j (h:j<xs.length),j<i→xs[j]∈S) xs.length rfl ?_ (fun j _ h=>absurd h (Qm _)) ?_
 ·exact KK
 intro i hi hq;refine Yc rfl ?_;rcases Qj i xs.length with h|h
 ·refine nq h ?_;refine nT ?_;refine nq2 (getD_map AV.str _ _ h) h ?_;have hkk:∀p∈encS S,YC tt 9 p.1=true:=fun p hp=>by
   obtain⟨q,_,rfl⟩:=Qi.1 hp;exact Zeq _
  have hlook:=ZoS xs[i] S;refine nq3 hne hH hlook ?_;refine⟨hkk,?_⟩;refine kK ?_;refine nR ?_;by_cases hx:xs[i]∈S
  ·have e:(!decide (xs[i]∈S))=false:=by simp[hx]
   refine nFq e ?_;refine gd ?_;refine⟨fun j hj hji=>?_,?_⟩
   ·rcases Qj j i with h'|h'
    ·exact hq j hj h'
    ·have:j=i:=om;subst this;exact hx
   ·apply kZ;repeat' first|apply q0|exact xx|apply aI
    ·refine aS ?_;rw[iw];exact .refl _
    all_goals first|exact Inside.map _ _ (.inl hl)|exact(VI _).inside|skip
  ·have e:(!decide (xs[i]∈S))=true:=by simp[hx]
   have e2:WX S xs=false:=by
    rw[←MQ,Zbs];exact fun hh=>hx (hh _ (Qa h))
   refine nTq e ?_;refine nR ?_;refine nW ?_;rw[e2];refine Zc ?_ (.bool _) rfl;exact xS
 ·refine nq (QI.2 h) ?_;refine gg ?_;have e2:WX S xs=true:=by
   rw[Zbs];intro x hx;obtain⟨j,hj,rfl⟩:=QJ hx;exact hq j hj om
  refine ge ?_;rw[e2];refine Zc ?_ (.bool _) rfl;exact xS
end Go.Proofs.YtmdeagmbfhbbnaaGreatDoorR

namespace Go.Abs
def eBd(p:List UInt8×Tm):AV:=.agg (.str p.1::p.2.cs)
def Zj(b:Bnd):AV:=.sl 5 (b.map eBd) .any
def Zff(n:Nat)(p:List UInt8×Tm):Below n (eBd p):=Xa (List.forall_mem_cons.2 ⟨.str _,p.2.bcs.mem⟩)
def ZC(n:Nat)(b:Bnd):Below n (Zj b):=Zy fun x hx=>by obtain⟨u,_,rfl⟩:=Qi.1 hx;exact Zff n u
def eSs(l:List (List UInt8)):AV:=.sl 1 (l.map .str) .any
def Zfa(n:Nat)(l:List (List UInt8)):Below n (eSs l):=Zy fun x hx=>by obtain⟨u,_,rfl⟩:=Qi.1 hx;exact .str _
theorem Zlq(b:Bnd):(Zj b).cells=[Zj b]:=rfl
theorem Znq(l:List (List UInt8)):(eSs l).cells=[eSs l]:=rfl
theorem ZoJ(b:Bnd):(Zj b).one=true:=rfl
theorem Zrl(l:List (List UInt8)):(eSs l).one=true:=rfl
attribute [go_sem] Zlq Znq ZoJ Zrl
namespace Lt
def cs(x:Lt):List AV:=[.int .u8 x.kind,.bool x.neg,.str x.at_.pred,.sl 4 (x.at_.args.map Tm.enc) .any,.int .u8 x.op,
 .int .u8 x.L.kind,.int .i64 x.L.num,.str x.L.name,.sl 4 (x.L.args.map Tm.enc) .any,.int .u8 x.R.kind,.int .i64 x.R.num,.str x.R.name,.sl 4 (x.R.args.map Tm.enc) .any]
def enc(x:Lt):AV:=.agg x.cs
def bcs{n:Nat}(x:Lt):Yg (fun c=>Below n c) x.cs:=⟨.int _ _,.bool _,.str _,ZH _,.int _ _,.int _ _,.int _ _,.str _,ZH _,.int _ _,.int _ _,.str _,ZH _,trivial⟩
def blw(n:Nat)(x:Lt):Below n x.enc:=Xa x.bcs.mem
theorem fold(x:Lt):AV.agg [.int .u8 x.kind,.bool x.neg,.str x.at_.pred,.sl 4 (x.at_.args.map Tm.enc) .any,.int .u8 x.op,
 .int .u8 x.L.kind,.int .i64 x.L.num,.str x.L.name,.sl 4 (x.L.args.map Tm.enc) .any,.int .u8 x.R.kind,.int .i64 x.R.num,.str x.R.name,.sl 4 (x.R.args.map Tm.enc) .any]=x.enc:=rfl
theorem Xf(x:Lt):x.enc.cells=x.cs:=rfl
def Zp(l:List Lt)(i:Nat)(h:i<l.length)(d:AV):(l.map enc).getD i d=(l[i]).enc:=by
 rw[Qp,Q8,Qb h];rfl
structure Good (x:Lt):Prop where
 at_:x.at_.Good
 L:x.L.Good
 R:x.R.Good
end Lt
def Yi{n k:Nat}(l:List Lt):Below n (.sl k (l.map Lt.enc) .any):=Zy fun x hx=>by obtain⟨u,_,rfl⟩:=Qi.1 hx;exact u.blw n
def ZA{n k:Nat}(l:List Bnd):Below n (.sl k (l.map Zj) .any):=Zy fun x hx=>by obtain⟨u,_,rfl⟩:=Qi.1 hx;exact ZC n u
def ZhT{n k:Nat}(l:List (List (List UInt8))):Below n (.sl k (l.map eSs) .any):=Zy fun x hx=>by obtain⟨u,_,rfl⟩:=Qi.1 hx;exact Zfa n u
end Go.Abs
namespace Go.Proofs.YtmdeagmbfhbbnaaGreatDoorR
open Go.Abs
abbrev SS:=List Str
def Ztt(l:List (Tm))(f:Nat)(caps:List AV)(g:Tm→Tm)(n:Nat)(H:Za)(i:Nat):Zb:=
 ⟨[(10,.int .i64 i),(9,.int .i64 l.length),(8,.sl 4 (l.map Tm.enc) .any),(5,.sl 4 (((l.take i).map g).map Tm.enc) (.buf n 200)),(1,.fn (.func f) caps)],[(200,.buf 40 4 i)],H⟩
def j70(l:List (Tm))(hl:l.length≤1000000)(f:Nat)(caps:List AV)(g:Tm→Tm)(hp:Ze1 f caps Tm.enc Tm.enc l g):Z4 prog 70 [.sl 4 (l.map Tm.enc) .any,.fn (.func f) caps] (.sl 4 ((l.map g).map Tm.enc) .any):=by
 intro n H hn hT;obtain⟨⟨fn,c,hf⟩,hp,hbl⟩:=hp;have hfi:∀q,Inside n q (.fn (.func f) caps):=fun q=>(Below.fn _ _ fun i hi=>(hbl n).mem _ (Qa hi)).inside
 have hbi:∀q,Inside n q (.sl 4 (l.map Tm.enc) .any):=fun q=>(ZH _).inside
 have ho:∀(q:Nat→Prop) (r:List (Tm)),q 200→Inside n q (.sl 4 (r.map Tm.enc) (.buf n 200)):=fun q r h=>Abs.Yz (mB fun u=>Tm.blw n u) h
 refine aF func70 fun B=>?_
 refine gz ?_;refine XL 5 200 40 4 rfl rfl ?_;refine Zt (Ztt l f caps g n H) l.length rfl ?_ ?_
 ·exact KK
 intro i hi;refine Yc rfl ?_;rcases Qj i l.length with h|h
 ·have hmin:(l.take i).length=i:=Ut om;refine nq h ?_;refine nT ?_;refine nq2 (getD_map Tm.enc _ _ h) h ?_;refine nR ?_;refine YG (avs:=[Tm.enc l[i]]) rfl hf (hp l[i] (Qa h) _ _ (QT _) (hT.full hn)) rfl ?_;refine aq hmin ?_;refine⟨by first|exact⟨rfl,dc⟩|exact⟨rfl,rfl,rfl⟩|exact rfl,⟨Zm om,om⟩,?_⟩;refine gd ?_;apply kZ;repeat' first|apply q0|exact xx|apply aI
  ·refine aS ?_;rw[iw];exact .refl _
  ·simp only[go_sem,simprocAttr,Qn h,QL];exact .refl _
  all_goals first|exact hfi _|exact hbi _|exact ho _ _ rfl
 ·refine nq (QI.2 h) ?_;refine gg ?_;have hi':i=l.length:=om;subst hi';refine gE ?_;refine Zc ?_ (ZH _) rfl;refine aS ?_;exact .any _ _ _
def Ztv(l:List (Tm))(f:Nat)(caps:List AV)(g:Tm→SS)(n:Nat)(H:Za)(i:Nat):Zb:=
 ⟨[(10,.int .i64 i),(9,.int .i64 l.length),(8,.sl 4 (l.map Tm.enc) .any),(5,.sl 1 (((l.take i).map g).map eSs) (.buf n 200)),(1,.fn (.func f) caps)],[(200,.buf 35 1 i)],H⟩
def j83(l:List (Tm))(hl:l.length≤1000000)(f:Nat)(caps:List AV)(g:Tm→SS)(hp:Ze1 f caps Tm.enc eSs l g):Z4 prog 83 [.sl 4 (l.map Tm.enc) .any,.fn (.func f) caps] (.sl 1 ((l.map g).map eSs) .any):=by
 intro n H hn hT;obtain⟨⟨fn,c,hf⟩,hp,hbl⟩:=hp;have hfi:∀q,Inside n q (.fn (.func f) caps):=fun q=>(Below.fn _ _ fun i hi=>(hbl n).mem _ (Qa hi)).inside
 have hbi:∀q,Inside n q (.sl 4 (l.map Tm.enc) .any):=fun q=>(ZH _).inside
 have ho:∀(q:Nat→Prop) (r:List (SS)),q 200→Inside n q (.sl 1 (r.map eSs) (.buf n 200)):=fun q r h=>Abs.Yz (mB fun u=>Zfa n u) h
 refine aF func83 fun B=>?_
 refine gz ?_;refine XL 5 200 35 1 rfl rfl ?_;refine Zt (Ztv l f caps g n H) l.length rfl ?_ ?_
 ·exact KK
 intro i hi;refine Yc rfl ?_;rcases Qj i l.length with h|h
 ·have hmin:(l.take i).length=i:=Ut om;refine nq h ?_;refine nT ?_;refine nq2 (getD_map Tm.enc _ _ h) h ?_;refine nR ?_;refine YG (avs:=[Tm.enc l[i]]) rfl hf (hp l[i] (Qa h) _ _ (QT _) (hT.full hn)) rfl ?_;refine aq hmin ?_;refine⟨by first|exact⟨rfl,dc⟩|exact⟨rfl,rfl,rfl⟩|exact rfl,⟨Zm om,om⟩,?_⟩;refine gd ?_;apply kZ;repeat' first|apply q0|exact xx|apply aI
  ·refine aS ?_;rw[iw];exact .refl _
  ·simp only[go_sem,simprocAttr,Qn h,QL];exact .refl _
  all_goals first|exact hfi _|exact hbi _|exact ho _ _ rfl
 ·refine nq (QI.2 h) ?_;refine gg ?_;have hi':i=l.length:=om;subst hi';refine gE ?_;refine Zc ?_ (ZhT _) rfl;refine aS ?_;exact .any _ _ _
def Zsv(l:List (Tm))(f:Nat)(caps:List AV)(g:Tm→Bnd)(n:Nat)(H:Za)(i:Nat):Zb:=
 ⟨[(10,.int .i64 i),(9,.int .i64 l.length),(8,.sl 4 (l.map Tm.enc) .any),(5,.sl 1 (((l.take i).map g).map Zj) (.buf n 200)),(1,.fn (.func f) caps)],[(200,.buf 34 1 i)],H⟩
def j136(l:List (Tm))(hl:l.length≤1000000)(f:Nat)(caps:List AV)(g:Tm→Bnd)(hp:Ze1 f caps Tm.enc Zj l g):Z4 prog 136 [.sl 4 (l.map Tm.enc) .any,.fn (.func f) caps] (.sl 1 ((l.map g).map Zj) .any):=by
 intro n H hn hT;obtain⟨⟨fn,c,hf⟩,hp,hbl⟩:=hp;have hfi:∀q,Inside n q (.fn (.func f) caps):=fun q=>(Below.fn _ _ fun i hi=>(hbl n).mem _ (Qa hi)).inside
 have hbi:∀q,Inside n q (.sl 4 (l.map Tm.enc) .any):=fun q=>(ZH _).inside
 have ho:∀(q:Nat→Prop) (r:List (Bnd)),q 200→Inside n q (.sl 1 (r.map Zj) (.buf n 200)):=fun q r h=>Abs.Yz (mB fun u=>ZC n u) h
 refine aF func136 fun B=>?_
 refine gz ?_;refine XL 5 200 34 1 rfl rfl ?_;refine Zt (Zsv l f caps g n H) l.length rfl ?_ ?_
 ·exact KK
 intro i hi;refine Yc rfl ?_;rcases Qj i l.length with h|h
 ·have hmin:(l.take i).length=i:=Ut om;refine nq h ?_;refine nT ?_;refine nq2 (getD_map Tm.enc _ _ h) h ?_;refine nR ?_;refine YG (avs:=[Tm.enc l[i]]) rfl hf (hp l[i] (Qa h) _ _ (QT _) (hT.full hn)) rfl ?_;refine aq hmin ?_;refine⟨by first|exact⟨rfl,dc⟩|exact⟨rfl,rfl,rfl⟩|exact rfl,⟨Zm om,om⟩,?_⟩;refine gd ?_;apply kZ;repeat' first|apply q0|exact xx|apply aI
  ·refine aS ?_;rw[iw];exact .refl _
  ·simp only[go_sem,simprocAttr,Qn h,QL];exact .refl _
  all_goals first|exact hfi _|exact hbi _|exact ho _ _ rfl
 ·refine nq (QI.2 h) ?_;refine gg ?_;have hi':i=l.length:=om;subst hi';refine gE ?_;refine Zc ?_ (ZA _) rfl;refine aS ?_;exact .any _ _ _
end Go.Proofs.YtmdeagmbfhbbnaaGreatDoorR

namespace Go.Proofs.YtmdeagmbfhbbnaaGreatDoorR
open Go.Abs
def inZ{n k:Nat}{p:Nat→Prop}:Inside n p (.sl k [] .full):=(YR (n:=n) (fun _ h=>by cases h) (fun _ _ e=>by cases e)).inside
def ZvK(t:Tm)(ht:t.Good)(hm:Ze1 49 [] Tm.enc Tm.enc t.args id):Z4 prog 49 [t.enc] t.enc:=by
 intro n H hn hT;have ha:=j70 t.args ht.len _ [] id hm;rw[Qby]at ha;refine aF func49 fun B=>?_
 refine gc ?_;refine cT (ha) ?_;refine ge ?_;refine Ye (.inl rfl) _ n 2 0 t.cs sS sF rfl (Qe _) sS ?_ (Tm.blw _ t) rfl;exact xS
def j49(t:Tm)(ht:t.Good):Z4 prog 49 [t.enc] t.enc:=
 ZvK t ht ⟨⟨_,_,Zf func49 rfl rfl⟩,fun u hu=>j49 u (ht.arg hu),fun _=>trivial⟩
termination_by SizeOf.sizeOf t
decreasing_by exact Tm.Xp hu
def Zvk(s p:List UInt8):Pure prog 183 [.str s,.str p] (.bool (hpre s p)):=by
 intro n H;refine aF func183 fun B=>?_
 refine gc ?_;refine cP (a198 s p) ?_;exact pB
theorem ZpP(s:List UInt8):hpre s [35]=decide (s.head? =some 35):=by
 cases s with
 |nil=>rfl
 |cons b r=>rw[UW];simp[hpre]
def ZnH(t:Tm):plainT t= .mk t.kind t.num (if t.kind=3∧t.name.head? =some 35 then [88]else t.name) (t.args.map plainT):=by
 cases t;rw[plainT,plains_eq];rfl
def Zt2(t:Tm)(ht:t.Good)(hm:Ze1 124 [] Tm.enc Tm.enc t.args plainT):Z4 prog 124 [t.enc] (plainT t).enc:=by
 intro n H hn hT;have ha:=j70 t.args ht.len _ [] plainT hm;have he:(plainT t).enc= .agg [.int .u8 t.kind,.int .i64 t.num,.str (if t.kind=3∧t.name.head? =some 35 then [88]else t.name),.sl 4 ((t.args.map plainT).map Tm.enc) .any]:=by
  rw[ZnH,Tm.VY];rfl
 refine aF func124 fun B=>?_
 obtain⟨nw,hnw⟩:∃nw:Bool,nw=decide (t.kind=3∧t.name.head? =some 35):=⟨_,rfl⟩
 obtain⟨nm,hnm⟩:∃nm:Str,nm=if t.kind=3∧t.name.head? =some 35 then [88]else t.name:=⟨_,rfl⟩
 rw[←hnm]at he;rw[he];refine gh ?_;refine V5 ⟨[(10,.bool nw),(2,.ptr n 2 0),(1,.ptr n 1 0)],[(1,.box [.int .u8 t.kind,.int .i64 t.num,.str t.name,.sl 4 (t.args.map Tm.enc) .any]),(2,.box [.int .u8 0,.int .i64 0,.str [],.sl 4 [] .full])],H⟩ ?_ ?_
 ·refine nR ?_;cases h1:t.kind==3 with
  |false=>
   have e:nw=false:=by rw[hnw];simp only[beq_eq_false_iff_ne]at h1;simp[h1]
   refine aq h1 ?_;refine nN ?_;refine⟨rfl,?_⟩;rw[e];exact KK
  |true=>
   have e:nw=hpre t.name [35]:=by rw[hnw,ZpP];simp only[beq_iff_eq]at h1;simp[h1]
   refine aq h1 ?_;refine cP (Zvk t.name [35]) ?_;refine nN ?_;refine⟨rfl,?_⟩;rw[e];exact KK
 refine kK ?_;refine V5 ⟨[(2,.ptr n 2 0),(1,.ptr n 1 0)],[(1,.box [.int .u8 t.kind,.int .i64 t.num,.str nm,.sl 4 (t.args.map Tm.enc) .any]),(2,.box [.int .u8 0,.int .i64 0,.str [],.sl 4 [] .full])],H⟩ ?_ ?_
 ·cases nw with
  |false=>
   have e:nm=t.name:=by rw[hnm,if_neg (of_decide_eq_false hnw.symm)]
   refine nF ?_;refine nN ?_;refine⟨rfl,?_⟩;rw[e];exact KK
  |true=>
   have e:nm=[88]:=by rw[hnm,if_pos (of_decide_eq_true hnw.symm)]
   refine nT ?_;refine gd ?_;refine⟨rfl,?_⟩;rw[e];exact KK
 refine nR ?_;refine cT (ha) ?_;refine ge ?_;refine Ye (.inl rfl) _ n 2 0 [.int .u8 t.kind,.int .i64 t.num,.str nm,.sl 4 ((t.args.map plainT).map Tm.enc) .any] sS sF rfl (Qe _) sS ?_ (by rw[←he];exact Tm.blw _ _) rfl;exact xS
def j124(t:Tm)(ht:t.Good):Z4 prog 124 [t.enc] (plainT t).enc:=
 Zt2 t ht ⟨⟨_,_,Zf func124 rfl rfl⟩,fun u hu=>j124 u (ht.arg hu),fun _=>trivial⟩
termination_by SizeOf.sizeOf t
decreasing_by exact Tm.Xp hu
def plain_good:∀(t:Tm),(t.Nm→(plainT t).Nm)∧(plainT t).sz=t.sz
 | .mk k n s l=>by
  have ih:∀u∈l,(u.Nm→(plainT u).Nm)∧(plainT u).sz=u.sz:=fun u hu=>plain_good u
  refine⟨fun h=>?_,?_⟩
  ·cases h with|mk _ _ _ _ h1 h2 h3 h4 h5=>
   rw[plainT,plains_eq];refine .mk _ _ _ _ ?_ h2 h3 (by simpa using h4) fun u hu=>?_
   ·split
    ·simp
    ·exact h1
   ·obtain⟨v,hv,rfl⟩:=Qi.1 hu;exact(ih v hv).1 (h5 v hv)
  ·rw[plainT,plains_eq,Tm.sz,Tm.sz];have:∀q:List Tm,(∀u∈q,u∈l)→Tm.sz.szs (q.map plainT)=Tm.sz.szs q:=by
    intro q;induction q with
    |nil=>intro _;rfl
    |cons u q ihq=>intro hq;simp only[Qu,Tm.sz.szs,(ih u (hq u sm)).2,ihq fun v hv=>hq v (by simp[hv])]
   rw[this l fun _ h=>h]
termination_by t=>SizeOf.sizeOf t
decreasing_by
 have:=QW hu;simp only[Tm.mk.sizeOf_spec];omega
def _root_.Go.Abs.Tm.Good.plain{t:Tm}(h:t.Good):(plainT t).Good:=⟨by rw[(plain_good t).2];exact h.sz,(plain_good t).1 h.nm⟩
def j77(t:Tm)(ht:t.Good):Z4 prog 77 [t.enc] (.bool (Zae t)):=by
 intro n H hn hT;refine aF func77 fun B=>?_
 refine gc ?_;refine cT (j124 t ht) ?_;refine cT (a72 (plainT t) ht.plain) ?_;refine YB rfl rfl ?_;refine Zc ?_ (.bool _) rfl;try simp only[go_sem,simprocAttr,Zae]
 exact .refl _
def j76(t:Tm)(ht:t.Good):Z4 prog 76 [t.enc] (.bool (!Zae t)):=by
 intro n H hn hT;refine aF func76 fun B=>?_
 refine gc ?_;refine cT (j77 t ht) ?_;exact pB
def eqL{α:Type}(e:α→α→Bool):List α→List α→Bool
 |[],[]=>true
 |a::x,b::y=>e a b&&eqL e x y
 |_,_=>false
theorem ZmO{α:Type}{e:α→α→Bool}:∀{p q:List α},p.length≠q.length→eqL e p q=false
 |[],[],h=>absurd rfl h
 |[],_::_,_=>rfl
 |_::_,[],_=>rfl
 |a::p,b::q,h=>by rw[eqL,ZmO (p:=p) (q:=q) (by simpa using h),Qbx]
theorem ZjB{α:Type}{e:α→α→Bool}:∀{p q:List α},p.length=q.length→(∀j (h:j<p.length) (h':j<q.length),e p[j] q[j]=true)→eqL e p q=true
 |[],[],_,_=>rfl
 |[],_::_,h,_=>by cases h
 |_::_,[],h,_=>by cases h
 |a::p,b::q,h,hj=>by
  have h0:=hj 0 sm sm;simp only[Ue]at h0;rw[eqL,h0,UZ];exact ZjB (by simpa using h) (fun j h1 h2=>by have:=hj (j+1) (by simpa using h1) (by simpa using h2);simpa using this)
def Zhx{α:Type}{e:α→α→Bool}:∀{p q:List α} {j:Nat} (h:j<p.length) (h':j<q.length),e p[j] q[j]=false→eqL e p q=false
 |a::p,b::q,0,_,_,hj=>by simp only[Ue]at hj;rw[eqL,hj,G6]
 |a::p,b::q,j+1,h,h',hj=>by
  simp only[U0]at hj;rw[eqL,Zhx (by simpa using h) (by simpa using h') hj,Qbx]
theorem eqs_eqL:∀p q:List Tm,eqT.eqs p q=eqL eqT p q
 |[],[]=>rfl
 |[],_::_=>rfl
 |_::_,[]=>rfl
 |a::p,b::q=>by rw[eqT.eqs,eqL,eqs_eqL p q]
def Zu9(p q:List Tm)(H:Za)(i:Nat):Zb:=
 ⟨[(5,.int .i64 i),(0,.sl 4 (p.map Tm.enc) .any),(1,.sl 4 (q.map Tm.enc) .any)],[],H⟩
def Zs5(p q:List Tm)(hl:p.length≤1000000)(hc:∀x∈p,∀y∈q,Pure prog 73 [x.enc,y.enc] (.bool (eqT x y))):Pure prog 123 [.sl 4 (p.map Tm.enc) .any,.sl 4 (q.map Tm.enc) .any] (.bool (eqL eqT p q)):=by
 intro n H;refine aF func123 fun B=>?_
 refine nR ?_;cases h4:((p.length:Int)==q.length)with
 |false=>
  refine nr ?_;simp only[go_sem,simprocAttr,bne,h4];refine gi ?_;refine YB rfl rfl ?_;refine Zc ?_ (.bool _) rfl;try simp only[go_sem,simprocAttr,ZmO (nat_ne h4)]
  exact .refl _
 |true=>
 have hlen:p.length=q.length:=nat_eq h4;refine nr ?_;simp only[go_sem,simprocAttr,bne,h4];refine gv ?_;repeat refine kn rfl ?_
 refine ZX (Zu9 p q H) (fun i=>∀j (h:j<p.length),j<i→eqT p[j] (q[j]'om)=true) p.length rfl ?_ (fun j _ h=>absurd h (Qm _)) ?_
 ·exact KK
 intro i hi hq;refine Yc rfl ?_;rcases Qj i p.length with h|h
 ·have h':i<q.length:=om;refine nq h ?_;refine nT ?_;refine dq4 (Tm.Zp _ _ h) h (Tm.Zp _ _ h') h' ?_;refine cP (hc _ (Qa h) _ (Qa h')) ?_;cases h5:eqT p[i] q[i]with
  |false=>
   refine nTq h5 ?_;refine nR ?_;refine nW ?_;refine Zc ?_ (.bool _) rfl;refine aq (Zhx h h' h5) ?_;exact .refl _
  |true=>
   refine nFq h5 ?_;refine gd ?_;refine⟨fun j hj hji=>?_,?_⟩
   ·rcases Qj j i with h'|h'
    ·exact hq j hj h'
    ·have:j=i:=om;subst this;exact h5
   ·apply kZ;repeat' first|apply q0|exact xx|apply aI
    refine aS ?_;rw[iw];exact .refl _
 ·refine nq (QI.2 h) ?_;refine gt ?_;refine Zc ?_ (.bool _) rfl;refine aq (ZjB hlen (fun j h h'=>hq j h om)) ?_;exact .refl _
def a62(a b:Tm)(ha:a.Good):Pure prog 73 [a.enc,b.enc] (.bool (eqT a b)):=by
 intro n H;have hx:=ZoB a b;have hl:=ha.len;refine aF func73 fun B=>?_
 refine nR ?_;cases h1:(a.kind==b.kind)with
 |false=>
  refine nq h1 ?_;refine YB rfl rfl ?_;refine Zc ?_ (.bool _) rfl;try simp only[go_sem,simprocAttr,hx,h1]
  exact .refl _
 |true=>
 cases h2:(a.num==b.num)with
 |false=>
  refine nq2 h1 h2 ?_;refine YB rfl rfl ?_;refine Zc ?_ (.bool _) rfl;try simp only[go_sem,simprocAttr,hx,h1,h2]
  exact .refl _
 |true=>
 cases h3:(a.name==b.name)with
 |false=>
  refine nq3 h1 h2 h3 ?_;refine YB rfl rfl ?_;refine Zc ?_ (.bool _) rfl;try simp only[go_sem,simprocAttr,hx,h1,h2,h3]
  exact .refl _
 |true=>
  refine nq3 h1 h2 h3 ?_;refine cP (Zs5 a.args b.args hl (fun x hx y _=>a62 x y (ha.arg hx))) ?_;refine YB rfl rfl ?_;refine Zc ?_ (.bool _) rfl;try simp only[go_sem,simprocAttr,hx,h1,h2,h3,eqs_eqL]
  exact .refl _
termination_by SizeOf.sizeOf a
decreasing_by exact Tm.Xp hx
def a28(a b:Am)(ha:a.Good):Pure prog 72 [a.enc,b.enc] (.bool (eqA a b)):=by
 intro n H;have hx:eqA a b=((a.pred==b.pred)&&eqL eqT a.args b.args):=by rw[eqA,eqs_eqL]
 have hl:=ha.len;refine aF func72 fun B=>?_
 refine nR ?_;cases h3:(a.pred==b.pred)with
 |false=>
  refine nq h3 ?_;refine YB rfl rfl ?_;refine Zc ?_ (.bool _) rfl;try simp only[go_sem,simprocAttr,hx,h3]
  exact .refl _
 |true=>
  refine nq h3 ?_;refine cP (Zs5 a.args b.args hl (fun x hx y _=>a62 x y (ha.arg hx))) ?_;refine YB rfl rfl ?_;refine Zc ?_ (.bool _) rfl;try simp only[go_sem,simprocAttr,hx,h3]
  exact .refl _
end Go.Proofs.YtmdeagmbfhbbnaaGreatDoorR

namespace Go.Abs
structure Ak where
 s:Sg
 c:Int
 t:List UInt8
deriving DecidableEq
def Ak.enc(k:Ak):AV:=.agg [.str k.s.p,.int .i64 k.s.n,.int .i64 k.c,.str k.t]
structure Sto where
 A:List Am
 N:List (List UInt8×Int)
 S:List (Sg×List Int)
 R:List (Ak×List Int)
def intsOf(ix:List Int):List AV:=ix.map (AV.int .i64)
def ents{κ:Type}(enc:κ→AV)(l b:Nat):Nat→List (κ×List Int)→List (AV×AV)
 |_,[]=>[]
 |i,p::r=>(enc p.1,.sl 1 (intsOf p.2) (.buf l (b+2*i)))::ents enc l b (i+1) r
def Zor{κ:Type}(b:Nat):Nat→List (κ×List Int)→List (Nat×Ze)
 |_,[]=>[]
 |i,p::r=>(b+2*i,.buf 3 1 p.2.length)::Zor b (i+1) r
def Yy(l b:Nat)(A:List Am):AV:=if A=[]then .sl 2 [] .full else .sl 2 (A.map Am.enc) (.buf l (b+1))
def ZP(l b:Nat)(A:List Am):List AV:=[Yy l b A,.map l (b+2),.map l (b+3),.map l (b+4)]
def lst(l b:Nat)(s:Sto):List (Nat×Ze):=
 (b,.box (ZP l b s.A))::(b+2,.map (s.N.map fun p=>(.str p.1,.int .i64 p.2)))::(b+3,.map (ents Sg.enc l (b+5) 0 s.S))::(b+4,.map (ents Ak.enc l (b+6) 0 s.R))::
  ((if s.A=[]then []else [(b+1,.buf 52 2 s.A.length)])++Zor (b+5) 0 s.S++Zor (b+6) 0 s.R)
def put(H:Za)(l b:Nat)(s:Sto):Za:=fun l' k=>if l'=l then(lkb (lst l b s) k).or (H l' k)else H l' k
theorem lkb_append:∀(p q:List (Nat×Ze)) (k:Nat),lkb (p++q) k=(lkb p k).or (lkb q k)
 |[],q,k=>rfl
 |(i,x)::p,q,k=>by
  simp only[Q9,lkb];split
  ·rfl
  ·exact lkb_append p q k
def Zkg{κ:Type}(b:Nat):∀(i:Nat) (es:List (κ×List Int)) (k:Nat),lkb (Zor b i es) k=if b+2*i≤k∧(k - b) % 2=0 then(es[(k - b) / 2 - i]?).map (fun p=>Ze.buf 3 1 p.2.length)else none
 |i,[],k=>by simp[Zor,lkb]
 |i,p::r,k=>by
  rw[Zor,lkb];by_cases h:b+2*i=k
  ·subst h;rw[if_pos rfl,if_pos ⟨Qe _,om⟩];have:(b+2*i - b) / 2 - i=0:=om;rw[this];rfl
  ·rw[if_neg h,Zkg b (i+1) r k];by_cases h2:b+2*(i+1)≤k∧(k - b) % 2=0
   ·rw[if_pos h2,if_pos ⟨om,h2.2⟩];have:(k - b) / 2 - i=(k - b) / 2 - (i+1)+1:=om;rw[this,UO]
   ·rw[if_neg h2];by_cases h3:b+2*i≤k∧(k - b) % 2=0
    ·exfalso;exact h2 ⟨om,h3.2⟩
    ·rw[if_neg h3]
def Y6(l b:Nat)(s:Sto)(k:Nat):lkb (lst l b s) k=
  if k=b then some (.box (ZP l b s.A))else if k=b+2 then some (.map (s.N.map fun p=>(.str p.1,.int .i64 p.2)))else if k=b+3 then some (.map (ents Sg.enc l (b+5) 0 s.S))else if k=b+4 then some (.map (ents Ak.enc l (b+6) 0 s.R))
  else if k=b+1 then(if s.A=[]then none else some (.buf 52 2 s.A.length))
  else if b+5≤k∧(k - (b+5)) % 2=0 then(s.S[(k - (b+5)) / 2]?).map (fun p=>Ze.buf 3 1 p.2.length)
  else if b+6≤k∧(k - (b+6)) % 2=0 then(s.R[(k - (b+6)) / 2]?).map (fun p=>Ze.buf 3 1 p.2.length)else none:=by
 unfold lst;simp only[lkb,lkb_append,Zkg,Nat.mul_zero,Uz,ML,eq_comm (a:=k)];split
 ·rfl
 split
 ·rfl
 split
 ·rfl
 split
 ·rfl
 by_cases h1:b+1=k
 ·rw[if_pos h1];subst h1;by_cases hA:s.A=[]
  ·simp[hA,lkb]
  ·simp[hA,lkb]
 ·rw[if_neg h1];have hA:lkb (if s.A=[]then []else [(b+1,Ze.buf 52 2 s.A.length)]) k=none:=by
   split
   ·rfl
   ·simp[lkb,h1]
  rw[hA,Option.none_or];by_cases h2:b+5≤k∧(k - (b+5)) % 2=0
  ·rw[if_pos h2,if_pos h2];have:¬(b+6≤k∧(k - (b+6)) % 2=0):=om;rw[if_neg this,Option.or_none]
  ·rw[if_neg h2,if_neg h2,Option.none_or]
end Go.Abs

namespace Go.Proofs.YtmdeagmbfhbbnaaGreatDoorR
open Go.Abs
def Z7(H:Za)(l b:Nat)(s:Sto):Prop:=∀k x,lkb (lst l b s) k=some x→H l k=some x
def Z7.box{H:Za}{l b:Nat}{s:Sto}(h:Z7 H l b s):H l b=some (.box (ZP l b s.A)):=h b _ (by rw[Y6,if_pos rfl])
section
variable {s:Sto} {l b:Nat} {H:Za}
def Z7.num(h:Z7 H l b s):H l (b+2)=some (.map (s.N.map fun p=>(.str p.1,.int .i64 p.2))):=h _ _ (by rw[Y6,if_neg om,if_pos rfl])
def Z7.sig(h:Z7 H l b s):H l (b+3)=some (.map (ents Sg.enc l (b+5) 0 s.S)):=h _ _ (by rw[Y6,if_neg om,if_neg om,if_pos rfl])
def Z7.arg(h:Z7 H l b s):H l (b+4)=some (.map (ents Ak.enc l (b+6) 0 s.R)):=h _ _ (by rw[Y6,if_neg om,if_neg om,if_neg om,if_pos rfl])
def Z7.put(H:Za)(l b:Nat)(s:Sto):Z7 (put H l b s) l b s:=fun k x h=>by
 unfold Go.Abs.put;rw[if_pos rfl,h];rfl
def a55(n:Nat)(H:Za)(l b:Nat)(s:Sto)(hl:l<n)(hs:Z7 H l b s):PC prog n 63 [.ptr l b 0] H (.bool true):=by
 have hne:¬l=n:=om;have hb:=hs.box;refine aF func63 fun B=>?_
 refine nR ?_;refine nr ?_;simp only[go_sem,simprocAttr,hne,hb,ZP];refine⟨⟨_,_,rfl⟩,?_⟩;exact pB
def zeroCells:List AV:=[.sl 2 [] .full,.nilm,.nilm,.nilm]
def Zi{n:Nat}(h:l<n)(L:List (Nat×Ze))(H:Za)(k:Nat):full n L H l k=H l k:=by unfold full;rw[if_neg om]
def Z7.full{n l b:Nat}{s:Sto}{H:Za}(hs:Z7 H l b s)(h:l<n)(L:List (Nat×Ze)):Z7 (full n L H) l b s:=fun k x hk=>by rw[Zi h];exact hs k x hk
def Vl{P:Program}{T:TT}{n:Nat}{t ty u:Nat}{v y:AV}{s:Zb}(r:Zu)(l k off:Nat)(cs:List AV)(h1:lkv s.tmps t= .ptr l k off)(h2:full n s.L s.H l k=some (.box cs))(h3:T ty=some r)
  (h4:off+r.size≤cs.length) (h5:r.isAgg=false→off<cs.length) (hv:Wk (if r.isAgg then .agg ((cs.drop off).take r.size)else(cs.drop off).getD 0 .dead) v) (hy:Wk (lkv s.tmps u) y) (hb:Below n v) (hc:Below n y) (hH:s.H=H):
  PostF P T n [.cell t ty,.tmp u] (fun r' H'=>r'= .tup [v,y]∧H'=H) .ret s:=by
 refine⟨?_,[v,y],⟨?_,hy,trivial⟩,by simp[hb,hc],rfl,hH⟩
 ·intro x hx;simp only[Qk,QD,or_false]at hx;rcases hx with rfl|rfl
  ·simp only[XZ];exact⟨l,k,off,cs,r,h1,h2,h3,h4,h5⟩
  ·simp[XZ]
 ·simp only[Zdo,h1,h2,h3];rw[if_pos ⟨h4,h5⟩];exact hv
def atR(A:List Am)(i:Int):Am×Int:=if 0≤i then(match A[i.toNat]? with
 |some a=>(a,0)
 |none=>(⟨[],[]⟩,6))else(⟨[],[]⟩,6)
def a27(n:Nat)(H:Za)(l b:Nat)(s:Sto)(i:Int)(hl:l<n)(hs:Z7 H l b s)(hg:V7 s.A)(hn:0<n)(hT:Tabs H):PC prog n 37 [.ptr l b 0,.int .i64 i] H (.tup [(atR s.A i).1.enc,.int .i64 (atR s.A i).2]):=by
 have hne:¬l=n:=om;have hb:=hs.box;refine aF func37 fun B=>?_
 refine gc ?_;refine cQ (a55 (n+1) _ l b s om (hs.full hl _)) ?_;refine aS ?_;refine nF ?_;have hz:Wk (.agg [.str [],.sl 4 [] .full]) (Am.mk [] []).enc:=.deep (.Ze7 ⟨.refl _,.nil _ _ _,trivial⟩);rcases Qay i 0 with h0|h0
 ·have e:atR s.A i=(⟨[],[]⟩,6):=by rw[atR,if_neg om]
  refine nq h0 ?_;refine gj ?_;rw[e];exact Vl _ n 4 0 [.str [],.sl 4 [] .full] sS (by simp only[go_sem,simprocAttr,Go.Abs.full]) rfl (Qe _) sS hz (by simp only[go_sem,simprocAttr];exact .refl _) (Am.blw _ _) (.int _ _) rfl
 ·have h0':¬i<0:=om;by_cases hA:s.A=[]
  ·have e:atR [] i=(⟨[],[]⟩,6):=by rw[atR,if_pos h0];rfl
   refine nr ?_;simp only[go_sem,simprocAttr,hne,hb,ZP,Yy,hA,h0',h0];refine gj ?_;rw[e];exact Vl _ n 4 0 [.str [],.sl 4 [] .full] sS (by simp only[go_sem,simprocAttr,Go.Abs.full]) rfl (Qe _) sS hz (by simp only[go_sem,simprocAttr];exact .refl _) (Am.blw _ _) (.int _ _) rfl
  ·rcases Qay i s.A.length with h1|h1
   ·have h2:i.toNat<s.A.length:=om;have e:atR s.A i=(s.A[i.toNat],0):=by rw[atR,if_pos h0,Qb h2]
    have h1':¬(s.A.length:Int)≤i:=om;refine nr ?_;simp only[go_sem,simprocAttr,hne,hb,ZP,Yy,hA,h0',h0,h1'];refine nF ?_;refine nr ?_;simp only[go_sem,simprocAttr,hne,hb,ZP,Yy,hA,h0,h2,Am.Zp _ _ h2];refine⟨h1,?_⟩;refine cT (a59 s.A[i.toNat] (hg _ (Qa h2))) ?_;refine nV ?_;rw[e];exact Vl _ n 4 0 s.A[i.toNat].cs sS (by simp only[go_sem,simprocAttr,Go.Abs.full]) rfl (Qe _) sS (by simp only[go_sem,simprocAttr];exact .refl _) (by simp only[go_sem,simprocAttr];exact .refl _) (Am.blw _ _) (.int _ _) rfl
   ·have e:atR s.A i=(⟨[],[]⟩,6):=by rw[atR,if_pos h0,Ur om]
    refine nr ?_;simp only[go_sem,simprocAttr,hne,hb,ZP,Yy,hA,h0',h0,h1];refine gj ?_;rw[e];exact Vl _ n 4 0 [.str [],.sl 4 [] .full] sS (by simp only[go_sem,simprocAttr,Go.Abs.full]) rfl (Qe _) sS hz (by simp only[go_sem,simprocAttr];exact .refl _) (Am.blw _ _) (.int _ _) rfl
end
attribute [go_sem] Lt.fold Lt.cs Lt.Xf
def eTs(l:List Tm):AV:=.sl 4 (l.map Tm.enc) .any
def JZ(n:Nat)(l:List Tm):Below n (eTs l):=ZH l
theorem Zos(l:List Tm):(eTs l).cells=[eTs l]:=rfl
theorem Zri(l:List Tm):(eTs l).one=true:=rfl
attribute [go_sem] Zos Zri
section
variable {n:Nat}
def Zb2{k:Nat}(l:List (List Tm)):Below n (.sl k (l.map eTs) .any):=Zy fun x hx=>by obtain⟨u,_,rfl⟩:=Qi.1 hx;exact JZ n u
abbrev LTm:=List Tm
structure Za2 {α:Type} (n:Nat) (H:Za) (f:Nat) (caps:List AV) (enc:α→AV) (l:List α) (p:α→Bool):Prop where
 fn:∃fn c,Fun prog f fn c
 ans:∀x∈l,∀m G,n≤m→(∀l' k,l'<n→G l' k=H l' k)→PC prog m f (enc x::caps) G (.bool (p x))
 blw:∀m,n≤m→Yg (fun c=>Below m c) caps
variable {caps:List AV}
def Za2.up{α:Type}{H G:Za}{f:Nat}{enc:α→AV}{l:List α}{p:α→Bool}(h:Za2 n H f caps enc l p)(hG:∀l' k,l'<n→G l' k=H l' k):Za2 (n+1) G f caps enc l p:=
 ⟨h.fn,fun x hx m G' hm hG'=>h.ans x hx m G' om fun l' k hl=>(hG' l' k om).trans (hG l' k hl),fun m hm=>h.blw m om⟩
def ZeU.cond{α:Type}{H:Za}{f:Nat}{enc:α→AV}{l:List α}{p:α→Bool}(h:ZeU f caps enc l p)(hn:0<n)(hT:Tabs H):Za2 n H f caps enc l p:=
 ⟨h.fn,fun x hx m G hm hG=>h.on x hx m G om (hT.up fun k=>hG 0 k hn),fun m _=>h.below m⟩
def Zr6(l:List (Lt))(f:Nat)(caps:List AV)(H:Za)(i:Nat):Zb:=
 ⟨[(8,.int .i64 i),(7,.int .i64 l.length),(1,.fn (.func f) caps),(0,.sl 13 (l.map Lt.enc) .any)],[],H⟩
def ZvC(l:List (Lt))(hl:l.length≤1000000)(f:Nat)(caps:List AV)(p:Lt→Bool)(n:Nat)(H:Za)(hp:Za2 n H f caps Lt.enc l p):PC prog n 125 [.sl 13 (l.map Lt.enc) .any,.fn (.func f) caps] H (.int .i64 (ZcN p l)):=by
 obtain⟨⟨fn,c,hf⟩,hp,hbl⟩:=hp;have hfi:∀q,Inside n q (.fn (.func f) caps):=fun q=>(Below.fn _ _ fun i hi=>(hbl n (Qe n)).mem _ (Qa hi)).inside
 have hbi:∀q,Inside n q (.sl 13 (l.map Lt.enc) .any):=fun q=>(Yi l).inside
 refine aF func125 fun B=>?_
 refine gk ?_;refine ZX (Zr6 l f caps H) (fun i=>∀j (h:j<l.length),j<i→p l[j]=false) l.length rfl ?_ (fun j _ h=>absurd h (Qm _)) ?_
 ·exact KK
 intro i hi hq;refine Yc rfl ?_;rcases Qj i l.length with h|h
 ·refine nq h ?_;refine gi ?_;refine nq2 (getD_map Lt.enc _ _ h) h ?_;refine YG (avs:=[Lt.enc l[i]]) rfl hf (hp l[i] (Qa h) (n+1) _ om fun l' k h=>Zi h _ _ _) rfl ?_;cases h1:p l[i]with
  |true=>
   refine aS ?_;refine gn ?_;refine Zc ?_ (.int _ _) rfl;rw[ZaF h h1 hq];exact .refl _
  |false=>
   refine gI ?_;refine⟨fun j hj hji=>?_,?_⟩
   ·rcases Qj j i with h'|h'
    ·exact hq j hj h'
    ·have:j=i:=om;subst this;exact h1
   ·apply kZ;repeat' first|apply q0|exact xx|apply aI
    ·refine aS ?_;rw[iw];exact .refl _
    all_goals first|exact hfi _|exact hbi _
 ·refine nq (QI.2 h) ?_;refine gt ?_;refine Zc ?_ (.int _ _) rfl;rw[Vm (fun j hj=>hq j hj om)];exact .refl _
def h78(l:List (Lt))(hl:l.length≤1000000)(f:Nat)(caps:List AV)(p:Lt→Bool)(n:Nat)(H:Za)(hp:Za2 n H f caps Lt.enc l p):PC prog n 78 [.sl 13 (l.map Lt.enc) .any,.fn (.func f) caps] H (.bool (l.any p)):=by
 refine aF func78 fun B=>?_
 refine gc ?_;refine cQ (ZvC l hl f caps p (n+1) _ (hp.up fun l' k h=>Zi h _ _ _)) ?_;simp only[go_sem,simprocAttr];refine nV ?_;refine Zc ?_ (.bool _) rfl;simp only[go_sem,simprocAttr,Ze9];exact .refl _
def j78(l:List (Lt))(hl:l.length≤1000000)(f:Nat)(caps:List AV)(p:Lt→Bool)(hp:ZeU f caps Lt.enc l p):Z4 prog 78 [.sl 13 (l.map Lt.enc) .any,.fn (.func f) caps] (.bool (l.any p)):=
 fun n H hn hT=>h78 l hl f caps p n H (hp.cond hn hT)
def Zr9(l:List (LTm))(f:Nat)(caps:List AV)(H:Za)(i:Nat):Zb:=
 ⟨[(8,.int .i64 i),(7,.int .i64 l.length),(1,.fn (.func f) caps),(0,.sl 1 (l.map eTs) .any)],[],H⟩
def Zvm(l:List (LTm))(hl:l.length≤1000000)(f:Nat)(caps:List AV)(p:LTm→Bool)(n:Nat)(H:Za)(hp:Za2 n H f caps eTs l p):PC prog n 266 [.sl 1 (l.map eTs) .any,.fn (.func f) caps] H (.int .i64 (ZcN p l)):=by
 obtain⟨⟨fn,c,hf⟩,hp,hbl⟩:=hp;have hfi:∀q,Inside n q (.fn (.func f) caps):=fun q=>(Below.fn _ _ fun i hi=>(hbl n (Qe n)).mem _ (Qa hi)).inside
 have hbi:∀q,Inside n q (.sl 1 (l.map eTs) .any):=fun q=>(Zb2 l).inside
 refine aF func266 fun B=>?_
 refine gk ?_;refine ZX (Zr9 l f caps H) (fun i=>∀j (h:j<l.length),j<i→p l[j]=false) l.length rfl ?_ (fun j _ h=>absurd h (Qm _)) ?_
 ·exact KK
 intro i hi hq;refine Yc rfl ?_;rcases Qj i l.length with h|h
 ·refine nq h ?_;refine gi ?_;refine nq2 (getD_map eTs _ _ h) h ?_;refine YG (avs:=[eTs l[i]]) rfl hf (hp l[i] (Qa h) (n+1) _ om fun l' k h=>Zi h _ _ _) rfl ?_;cases h1:p l[i]with
  |true=>
   refine aS ?_;refine gn ?_;refine Zc ?_ (.int _ _) rfl;rw[ZaF h h1 hq];exact .refl _
  |false=>
   refine gI ?_;refine⟨fun j hj hji=>?_,?_⟩
   ·rcases Qj j i with h'|h'
    ·exact hq j hj h'
    ·have:j=i:=om;subst this;exact h1
   ·apply kZ;repeat' first|apply q0|exact xx|apply aI
    ·refine aS ?_;rw[iw];exact .refl _
    all_goals first|exact hfi _|exact hbi _
 ·refine nq (QI.2 h) ?_;refine gt ?_;refine Zc ?_ (.int _ _) rfl;rw[Vm (fun j hj=>hq j hj om)];exact .refl _
def Zun(l:List (LTm))(hl:l.length≤1000000)(f:Nat)(caps:List AV)(p:LTm→Bool)(n:Nat)(H:Za)(hp:Za2 n H f caps eTs l p):PC prog n 237 [.sl 1 (l.map eTs) .any,.fn (.func f) caps] H (.bool (l.any p)):=by
 refine aF func237 fun B=>?_
 refine gc ?_;refine cQ (Zvm l hl f caps p (n+1) _ (hp.up fun l' k h=>Zi h _ _ _)) ?_;simp only[go_sem,simprocAttr];refine nV ?_;refine Zc ?_ (.bool _) rfl;simp only[go_sem,simprocAttr,Ze9];exact .refl _
def Zuu(l:List (LTm))(hl:l.length≤1000000)(f:Nat)(caps:List AV)(p:LTm→Bool)(hp:ZeU f caps eTs l p):Z4 prog 237 [.sl 1 (l.map eTs) .any,.fn (.func f) caps] (.bool (l.any p)):=
 fun n H hn hT=>Zun l hl f caps p n H (hp.cond hn hT)
def ZrV(l:List (Int))(f:Nat)(caps:List AV)(H:Za)(i:Nat):Zb:=
 ⟨[(8,.int .i64 i),(7,.int .i64 l.length),(1,.fn (.func f) caps),(0,.sl 1 (l.map eInt) .any)],[],H⟩
def Zvl(l:List (Int))(hl:l.length≤1000000)(f:Nat)(caps:List AV)(p:Int→Bool)(n:Nat)(H:Za)(hp:Za2 n H f caps eInt l p):PC prog n 280 [.sl 1 (l.map eInt) .any,.fn (.func f) caps] H (.int .i64 (ZcN p l)):=by
 obtain⟨⟨fn,c,hf⟩,hp,hbl⟩:=hp;have hfi:∀q,Inside n q (.fn (.func f) caps):=fun q=>(Below.fn _ _ fun i hi=>(hbl n (Qe n)).mem _ (Qa hi)).inside
 have hbi:∀q,Inside n q (.sl 1 (l.map eInt) .any):=fun q=>(ZfY l).inside
 refine aF func280 fun B=>?_
 refine gk ?_;refine ZX (ZrV l f caps H) (fun i=>∀j (h:j<l.length),j<i→p l[j]=false) l.length rfl ?_ (fun j _ h=>absurd h (Qm _)) ?_
 ·exact KK
 intro i hi hq;refine Yc rfl ?_;rcases Qj i l.length with h|h
 ·refine nq h ?_;refine gi ?_;refine nq2 (getD_map eInt _ _ h) h ?_;refine YG (avs:=[eInt l[i]]) rfl hf (hp l[i] (Qa h) (n+1) _ om fun l' k h=>Zi h _ _ _) rfl ?_;cases h1:p l[i]with
  |true=>
   refine aS ?_;refine gn ?_;refine Zc ?_ (.int _ _) rfl;rw[ZaF h h1 hq];exact .refl _
  |false=>
   refine gI ?_;refine⟨fun j hj hji=>?_,?_⟩
   ·rcases Qj j i with h'|h'
    ·exact hq j hj h'
    ·have:j=i:=om;subst this;exact h1
   ·apply kZ;repeat' first|apply q0|exact xx|apply aI
    ·refine aS ?_;rw[iw];exact .refl _
    all_goals first|exact hfi _|exact hbi _
 ·refine nq (QI.2 h) ?_;refine gt ?_;refine Zc ?_ (.int _ _) rfl;rw[Vm (fun j hj=>hq j hj om)];exact .refl _
def Zvs(l:List (Int))(hl:l.length≤1000000)(f:Nat)(caps:List AV)(p:Int→Bool)(n:Nat)(H:Za)(hp:Za2 n H f caps eInt l p):PC prog n 259 [.sl 1 (l.map eInt) .any,.fn (.func f) caps] H (.bool (l.any p)):=by
 refine aF func259 fun B=>?_
 refine gc ?_;refine cQ (Zvl l hl f caps p (n+1) _ (hp.up fun l' k h=>Zi h _ _ _)) ?_;simp only[go_sem,simprocAttr];refine nV ?_;refine Zc ?_ (.bool _) rfl;simp only[go_sem,simprocAttr,Ze9];exact .refl _
end
theorem Zov(p:Str×Tm):(eBd p).cells=[.str p.1,.int .u8 p.2.kind,.int .i64 p.2.num,.str p.2.name,.sl 4 (p.2.args.map Tm.enc) .any]:=rfl
theorem Zqr(p:Str×Tm):AV.agg [.str p.1,.int .u8 p.2.kind,.int .i64 p.2.num,.str p.2.name,.sl 4 (p.2.args.map Tm.enc) .any]=eBd p:=rfl
attribute [go_sem] Zov Zqr
def ZuX(p:Str×Tm)(s:Str):Pure prog 228 [eBd p,.str s] (.int .i64 (Lib.compareBytes p.1 s)):=by
 intro n H;refine aF func228 fun B=>?_
 refine gc ?_;refine cP (a50 p.1 s) ?_;refine YB rfl rfl ?_;refine Zc ?_ (.int _ _) rfl;try simp only[go_sem,simprocAttr]
 exact .refl _
def Zvw(p:Str×Tm)(s:Str):Pure prog 189 [eBd p,.str s] (.int .i64 (Lib.compareBytes p.1 s)):=by
 intro n H;refine aF func189 fun B=>?_
 refine gc ?_;refine cP (a50 p.1 s) ?_;refine YB rfl rfl ?_;refine Zc ?_ (.int _ _) rfl;try simp only[go_sem,simprocAttr]
 exact .refl _
def Znf(s:Str):∀(b:Bnd) (i:Nat),i≤b.length→(∀k (h:k<b.length),k<i→Lib.compareBytes b[k].1 s<0)→(∀k (h:k<b.length),i≤k→ ¬Lib.compareBytes b[k].1 s<0)→posB s b=i
 |[],i,hi,_,_=>by simp at hi;subst hi;rfl
 |p::r,i,hi,h1,h2=>by
  unfold posB;cases i with
  |zero=>exact if_neg (h2 0 sm (Qe _))
  |succ i=>
   rw[if_pos (show Lib.compareBytes p.1 s<0 from h1 0 sm om),Znf s r i (by simpa using hi) (fun k h hk=>h1 (k+1) (by simpa using h) om) (fun k h hk=>h2 (k+1) (by simpa using h) om)]
def ZqI{s:Str}{b:Bnd}{i:Nat}(hb:V3 b)(h1:∀k (h:k<b.length),k<i→Lib.compareBytes b[k].1 s<0)(h2:∀k (h:k<b.length),i≤k→ ¬Lib.compareBytes b[k].1 s<0):(Zv s b).isSome=true↔ ∃h:i<b.length,b[i].1=s:=by
 constructor
 ·intro h;obtain⟨v,hv⟩:=Qbe.1 h;obtain⟨k,hk,he⟩:=QJ (Zau hv);have e1:b[k].1=s:=by rw[he]
  have hki:i≤k:=Nat.le_of_not_lt fun hlt=>by have:=h1 k hk hlt;rw[e1,cmpBytes_self]at this;omega
  rcases Qj i k with h'|h'
  ·have:=Gg.1 hb i k om hk h';rw[e1]at this;exact absurd this (h2 i om (Qe _))
  ·have:k=i:=om;subst this;exact⟨hk,e1⟩
 ·rintro⟨h,e⟩;rw[Zat hb (n:=s) (v:=b[i].2) (by rw[←e];exact Qa h)];rfl
def Zso(f:Nat):Prop:=(∃fn c,Fun prog f fn c)∧ ∀(p:Str×Tm) (s:Str),Pure prog f [eBd p,.str s] (.int .i64 (Lib.compareBytes p.1 s))
def Zmp(b:Bnd)(s:Str)(f:Nat)(H:Za)(i j:Nat):Zb:=
 ⟨[(10,.int .i64 j),(9,.int .i64 i),(8,.int .i64 b.length),(2,.fn (.func f) []),(1,.str s),(0,.sl 5 (b.map eBd) .any)],[],H⟩
def Zt4(b:Bnd)(hb:V3 b)(hl:b.length≤1000000)(s:Str)(f:Nat)(hf:Zso f):Pure prog 188 [Zj b,.str s,.fn (.func f) []] (.tup [.int .i64 (posB s b),.bool (Zv s b).isSome]):=by
 intro n H;obtain⟨⟨fn,c,hf⟩,hp⟩:=hf;refine aF func188 fun B=>?_
 refine nR ?_;refine nr ?_;simp only[go_sem,simprocAttr,Zj];refine nR ?_;repeat refine kn rfl ?_
 refine Zaf (fun m st=>∃i j,i≤j∧j≤b.length∧m=j - i∧st=Zmp b s f H i j∧(∀k (h:k<b.length),k<i→Lib.compareBytes b[k].1 s<0)∧ ∀k (h:k<b.length),j≤k→ ¬Lib.compareBytes b[k].1 s<0) (m0:=b.length) (s0:=Zmp b s f H 0 b.length) rfl ?_
  ⟨0,b.length,om,Qe _,rfl,rfl,fun k _ h=>absurd h (Qm _),fun k h h'=>by omega⟩ ?_
 ·exact KK
 rintro m st ⟨i,j,hij,hj,rfl,rfl,h1,h2⟩;refine Yc rfl ?_;rcases Qj i j with h|h
 ·have hm:∃m:Nat,m=(i+j) / 2:=⟨_,rfl⟩
  obtain⟨m,hm⟩:=hm;have hw:IntKind.i64.wrap ((IntKind.u64.wrap (IntKind.i64.wrap ((i:Int)+(j:Int)))).fdiv (2^min 1 64))=(m:Int):=by
   have e1:IntKind.i64.wrap ((i:Int)+(j:Int))=((i+j:Nat):Int):=by rw[iw];omega
   have e2:IntKind.u64.wrap ((i+j:Nat):Int)=((i+j:Nat):Int):=by
    exact IntWalk.u64_in _ om
   rw[e1,e2];have e3:(((i+j:Nat):Int)).fdiv (2^min 1 64)=(m:Int):=by
    rw[show(2:Int)^min 1 64=2 from rfl,Int.fdiv_eq_ediv_of_nonneg _ om];omega
   rw[e3,iw]
  have hml:m<b.length:=om;refine nq h ?_;refine nT ?_;refine nq hw ?_;refine nq2 (getD_map eBd _ _ hml) hml ?_;refine YG (avs:=[eBd b[m],.str s]) rfl hf (hp b[m] s _ _) rfl ?_;by_cases hc:Lib.compareBytes b[m].1 s<0
  ·have e:decide (Lib.compareBytes b[m].1 s<0)=true:=by simp[hc]
   refine aq e ?_;refine nT ?_;refine gd ?_;refine⟨j - (m+1),Zmp b s f H (m+1) j,om,?_,m+1,j,om,hj,rfl,rfl,fun k hk hk'=>?_,h2⟩
   ·apply kZ;repeat' first|apply q0|exact xx|apply aI
    ·refine aS ?_;rw[iw];exact .refl _
    all_goals first|exact(ZC n b).inside|exact(ZaJ (caps:=[]) trivial).inside|skip
   ·rcases Qj k m with h'|h'
    ·exact serN.trans (y:=b[m].1) trivial trivial trivial (Gg.1 hb k m hk hml h') hc
    ·have:k=m:=om;subst this;exact hc
  ·have e:decide (Lib.compareBytes b[m].1 s<0)=false:=by simp[hc]
   refine aq e ?_;refine gm ?_;refine⟨m - i,Zmp b s f H i m,om,?_,i,m,om,om,rfl,rfl,h1,fun k hk hk'=>?_⟩
   ·exact KK
   ·intro hlt;rcases Qj m k with h'|h'
    ·exact hc (serN.trans (y:=b[k].1) trivial trivial trivial (Gg.1 hb m k hml hk h') hlt)
    ·have:k=m:=om;subst this;exact hc hlt
 ·refine nq (QI.2 h) ?_;refine gg ?_;have hij':j=i:=om;subst hij';have hpos:=Znf s b j hj h1 h2;have hlk:=ZqI hb h1 h2;refine nR ?_;cases hlt:decide (j<b.length)with
  |false=>
   have e:(Zv s b).isSome=false:=by
    rw[←Bool.not_eq_true,hlk];rintro⟨h,_⟩;simp at hlt;omega
   refine gw ?_;rw[hpos,e];refine ZF ?_ ?_ (.int _ _) (.bool _) rfl
   ·exact xS
   ·exact xS
  |true=>
   have hl':j<b.length:=by simp at hlt;omega
   refine aq2 (getD_map eBd _ _ hl') hl' ?_;refine YG (avs:=[eBd b[j],.str s]) rfl hf (hp b[j] s _ _) rfl ?_;have e:(Lib.compareBytes b[j].1 s==0)=(Zv s b).isSome:=by
    rw[UW,hlk,beq_iff_eq];exact⟨fun h=>⟨hl',cmpBytes_zero h⟩,fun⟨_,h⟩=>by rw[h,cmpBytes_self]⟩
   refine aq e ?_;refine nV ?_;rw[hpos];refine ZF ?_ ?_ (.int _ _) (.bool _) rfl
   ·exact xS
   ·exact xS
def cmpN228:Zso 228:=⟨⟨_,_,Zf func228 rfl rfl⟩,ZuX⟩
def cmpN189:Zso 189:=⟨⟨_,_,Zf func189 rfl rfl⟩,Zvw⟩
def tm0:Tm:=.mk 0 0 [] []
def Zg3(s:Str)(b:Bnd):Tm:=(Zv s b).getD tm0
def zero_tm:Wk (.agg [.int .u8 0,.int .i64 0,.str [],.sl 4 [] .full]) tm0.enc:=by
 rw[Tm.VY];exact .deep (.Ze7 ⟨.refl _,.refl _,.refl _,.nil _ _ _,trivial⟩)
def Zj6{s:Str}{v:Tm}:∀{b:Bnd},V3 b→Zv s b=some v→b[posB s b]? =some (s,v)
 |[],_,h=>by cases h
 |p::r,hb,h=>by
  rw[V3,UA]at hb;simp only[Zv]at h;split at h
  ·rename_i e;cases h;have:¬Lib.compareBytes p.1 s<0:=by rw[e,cmpBytes_self];omega
   rw[posB,if_neg this,Gs,←e]
  ·have h1:=hb.1 _ (Zau h);rw[posB,if_pos h1,UO];exact Zj6 hb.2 h
def Zi0(s:Str):∀b:Bnd,posB s b≤b.length
 |[]=>Qe _
 |p::r=>by
  have:=Zi0 s r;unfold posB;split<;>simp only[Qo]<;>omega
theorem Zge(s:Str)(v:Tm):∀b:Bnd,Ws s v b=b.take (posB s b)++(s,v)::b.drop (posB s b)
 |[]=>rfl
 |p::r=>by
  have:=Zge s v r;unfold Ws posB;split
  ·rw[this];rfl
  ·rfl
def ZkL(s:Str)(v:Tm)(b:Bnd):(Ws s v b).length=b.length+1:=by
 have:=Zi0 s b;rw[Zge];simp;omega
def Ztb(b:Bnd)(hb:V3 b)(hl:b.length≤1000000)(s:Str):Pure prog 191 [Zj b,.str s] (.tup [(Zg3 s b).enc,.bool (Zv s b).isSome]):=by
 intro n H;refine aF func191 fun B=>?_
 refine gc ?_;refine cP (Zt4 b hb hl s 228 cmpN228) ?_;cases h:Zv s b with
 |none=>
  refine nr ?_;simp only[go_sem,simprocAttr,G9];refine gj ?_;have e:Zg3 s b=tm0:=by rw[Zg3,h];rfl
  rw[e];refine Vl _ n 4 0 [.int .u8 0,.int .i64 0,.str [],.sl 4 [] .full] sS sF rfl (Qe _) sS zero_tm (.refl _) (Tm.blw _ _) (.bool _) rfl
 |some v=>
  have hp:=Zj6 hb h;obtain⟨hi,hp⟩:=Ub.1 hp;have e:Zg3 s b=v:=by rw[Zg3,h];rfl
  rw[e];refine nr ?_;simp only[go_sem,simprocAttr,Qaa];refine nF ?_;refine nr ?_;simp only[go_sem,simprocAttr,Zj,getD_map eBd _ _ hi,hi,hp];refine nV ?_;refine Vl _ n 4 0 v.cs sS sF rfl (Qe _) sS (by simp only[go_sem,simprocAttr];exact .refl _) (.refl _) (Tm.blw _ _) (.bool _) rfl
theorem Zqz(l:Bnd):flat (l.map eBd)=l.flatMap fun p=>AV.str p.1::p.2.cs:=by
 induction l with
 |nil=>rfl
 |cons p r ih=>rw[Qu,Yu,ih];rfl
def Ztp{n:Nat}{p:Nat→Prop}(l:Bnd):Yg (fun c=>Inside n p c) (flat (l.map eBd)):=ZY fun c hc=>by
 rw[Zqz]at hc;obtain⟨u,_,hu⟩:=Qw.1 hc;rcases Qk.1 hu with rfl|hu
 ·exact .str _
 ·exact(u.2.bcs.mem _ hu).inside
def extO:Opt:=⟨true,true,fun d=>if d=24∨d=29 then .heap else if d=26 then .pure else .auto,[]⟩
def j138(b:Bnd)(hb:V3 b)(hl:b.length≤900000)(s:Str)(v:Tm):Pure prog 138 [Zj b,.str s,v.enc] (Zj (Ws s v b)):=by
 intro n H;have hi:=Zi0 s b;have hext:=Zge s v b;have hlen:=ZkL s v b;refine aF func138 fun B=>?_
 refine gc ?_;refine cP (Zt4 b hb om s 189 cmpN189) ?_;generalize posB s b=i at hi hext⊢;have hw:IntKind.i64.wrap ((b.length:Int)+1)=((b.length+1:Nat):Int):=by rw[iw];omega
 refine nr ?_;simp only[go_sem,simprocAttr,Zj,hw];refine⟨⟨Zm om,om⟩,?_⟩;repeat refine kn rfl ?_
 refine Z5 5 v.cs [(9,.msl 5 n 19 0),(7,.int .i64 i),(5,.iptr v.cs),(0,.sl 5 (b.map eBd) .any),(1,.str s)] rfl ?_ ?_ ⟨Ze.Zki (fun c hc=>by cases hc),trivial⟩ ?_
 ·exact ZY fun c hc=>(v.bcs.mem c hc).inside
 ·exact⟨.inl ⟨.refl _,.msl _ _ _ _ (.inr ⟨rfl,dc⟩)⟩,.inl ⟨.refl _,.int _ _⟩,.inr ⟨0,rfl,rfl⟩,.inl ⟨.refl _,(ZC n b).inside⟩,.inl ⟨.refl _,.str _⟩,trivial⟩
 refine nD extO ?_;have hmin:(b.take i).length=i:=Ut hi;have hone:∀q:Bnd,∀y∈q.map eBd,y.cells.all AV.one=true:=fun q y hy=>by obtain⟨u,_,rfl⟩:=Qi.1 hy;rfl
 simp only[go_sem,simprocAttr,extO,←List.map_take,hmin];refine⟨hi,⟨hone _,Zm om,om⟩,rfl,⟨Zm om,om⟩,?_⟩;refine nr ?_;simp only[go_sem,simprocAttr,←List.map_drop,QO,QN,←List.map_take];refine⟨hi,⟨hone _,Zm om,om⟩,?_⟩;refine kK ?_;have hfl:flat ((Ws s v b).map eBd)=flat []++flat ((b.take i).map eBd)++flat [eBd (s,v)]++flat ((b.drop i).map eBd):=by
  rw[hext,QL,Qu,YQ,Yu];simp[flat]
 have hen:((Ws s v b).map eBd).length=i+1+(b.length - i):=by rw[Qv,hlen];omega
 refine ZK (Xm (tm':=[(6,.sl 5 ((Ws s v b).map eBd) .any)]) (j:=19) ((Ws s v b).map eBd) rfl hfl hen (fun x hx=>by obtain⟨u,_,rfl⟩:=Qi.1 hx;rfl) ?_ ?_ ?_) ?_
 ·intro c hc;have hc:c∈flat ((Ws s v b).map eBd):=by rw[hfl];exact hc
  exact(Ztp _).mem c hc
 ·intro p hp;simp only[Ql]at hp;subst hp;exact .inr ⟨5,rfl,rfl⟩
 ·intro p hp;cases hp
 refine nV ?_;exact Zc (.refl _) (ZC n _) rfl
def Zdz{α:Type}(p:α→Bool)(l:List α)(i:Nat)(h:i<l.length):(l.drop i).any p=(p l[i]||(l.drop (i+1)).any p):=by rw[Qz h,QbB]
def Zsd(t u:Tm):Bool:=farS u||((t.kind==6)&&(u.kind==6))
def ZuU(t:Tm)(n:Nat)(H:Za)(i:Nat):Zb:=⟨[(3,.int .i64 i),(1,.ptr n 1 0)],[(1,.box t.cs)],H⟩
def w75(t:Tm)(ht:t.Good):Pure prog 75 [t.enc] (.bool (farS t)):=by
 intro n H;have ih:∀u∈t.args,Pure prog 75 [u.enc] (.bool (farS u)):=fun u hu=>w75 u (ht.arg hu)
 have hl:=ht.len;have hf:farS t=(((t.kind==1)&&(decide (30<t.num)||decide (t.num< -30)))||t.args.any (Zsd t)):=Zrf t;refine aF func75 fun B=>?_
 refine nR ?_;have key:((t.kind==1)&&(decide (30<t.num)||decide (t.num< -30)))=false→AKc ⟨prog,tt,⟨none,B⟩,n,Tryz.f75.ntmps⟩ [.code (ZR Tryz.f75).snd.snd] (PostF prog tt n Tryz.f75.results.toList fun r' H'=>r'= .bool (farS t)∧H'=H) ⟨[(1,.ptr n 1 0)],[(1,.box t.cs)],H⟩:=by
  intro hk;rw[hk,MR]at hf;refine gh ?_;refine ZX (ZuU t n H) (fun i=>farS t=(t.args.drop i).any (Zsd t)) t.args.length rfl ?_ hf ?_
  ·exact KK
  intro i hi hq;refine Yc rfl ?_;rcases Qj i t.args.length with h|h
  ·rw[Zdz _ _ _ h]at hq;refine nr ?_;simp only[go_sem,simprocAttr,Tm.cs,h];refine nT ?_;have h6:Zsd t t.args[i]=(farS t.args[i]||((t.kind==6)&&(t.args[i].kind==6))):=rfl;rw[h6]at hq;refine nr ?_;simp only[go_sem,simprocAttr,Tm.cs,Tm.Zp _ _ h,h];refine cP (ih _ (Qa h)) ?_;cases h1:farS t.args[i]with
   |true=>
    refine aq h1 ?_;refine gn ?_;refine Zc ?_ (.bool _) rfl;rw[hq,h1];exact .refl _
   |false=>
    cases h2:(t.kind==6)with
    |false=>
     refine aq2 h1 h2 ?_;refine gm ?_;refine⟨by rw[hq,h1,h2];simp,?_⟩;exact KK
    |true=>
     cases h3:(t.args[i].kind==6)with
     |false=>
      simp only[go_sem,simprocAttr,h1,h2,h3,Tm.cs,Tm.Zp _ _ h,h,Tm.Xf];refine gm ?_;refine⟨by rw[hq,h1,h2,h3];simp,?_⟩;exact KK
     |true=>
      simp only[go_sem,simprocAttr,h1,h2,h3,Tm.cs,Tm.Zp _ _ h,h,Tm.Xf];refine gn ?_;refine Zc ?_ (.bool _) rfl;rw[hq,h1,h2,h3];exact .refl _
  ·refine nr ?_;simp only[go_sem,simprocAttr,Tm.cs,QI.2 h];refine gt ?_;refine Zc ?_ (.bool _) rfl;rw[hq,Us h];exact .refl _
 have yes:((t.kind==1)&&(decide (30<t.num)||decide (t.num< -30)))=true→farS t=true:=fun h=>by rw[hf,h,G7]
 cases h1:(t.kind==1)with
 |false=>
  refine nq h1 ?_;refine nF ?_;refine Zes rfl ?_;refine ZK ?_ (key (by rw[h1];rfl));exact KK
 |true=>
  cases h2:decide (30<t.num)with
  |true=>
   refine nq2 h1 h2 ?_;refine gj ?_;refine Zc ?_ (.bool _) rfl;rw[yes (by rw[h1,h2];rfl)];exact .refl _
  |false=>
   cases h3:decide (t.num< -30)with
   |true=>
    refine nq3 h1 h2 h3 ?_;refine gj ?_;refine Zc ?_ (.bool _) rfl;rw[yes (by rw[h1,h2,h3];rfl)];exact .refl _
   |false=>
    refine nq3 h1 h2 h3 ?_;refine nF ?_;refine Zes rfl ?_;refine ZK ?_ (key (by rw[h1,h2,h3];rfl));exact KK
termination_by SizeOf.sizeOf t
decreasing_by exact Tm.Xp hu
def w35(b:Bnd)(hb:b.length≤1000000)(gb:∀p∈b,p.2.Good):Pure prog 35 [.sl 5 (b.map eBd) .any] (.bool (Zl9 b)):=by
 intro n H;refine aF func35 fun B=>?_
 refine gk ?_;refine ZX (fun i=>⟨[(3,.int .i64 i),(0,.sl 5 (b.map eBd) .any)],[],H⟩) (fun i=>Zl9 b=(b.drop i).any fun p=>farS p.2) b.length rfl ?_ rfl ?_
 ·exact KK
 intro i hi hq;refine Yc rfl ?_;rcases Qj i b.length with h|h
 ·rw[Zdz _ _ _ h]at hq;refine nq h ?_;refine nT ?_;refine nq2 (getD_map eBd _ _ h) h ?_;refine cP (w75 _ (gb _ (Qa h))) ?_;cases h1:farS b[i].2 with
  |true=>
   refine gn ?_;refine Zc ?_ (.bool _) rfl;rw[hq,h1];exact .refl _
  |false=>
   refine gm ?_;refine⟨by rw[hq,h1];simp,?_⟩;exact KK
 ·refine nq (QI.2 h) ?_;refine gt ?_;refine Zc ?_ (.bool _) rfl;rw[hq,Us h];exact .refl _
def w34(l:List Lt)(hl:l.length≤1000000)(gl:∀x∈l,x.Good):Pure prog 34 [.sl 13 (l.map Lt.enc) .any] (.bool (ZkM l)):=by
 intro n H;refine aF func34 fun B=>?_
 refine gk ?_;refine ZX (fun i=>⟨[(3,.int .i64 i),(0,.sl 13 (l.map Lt.enc) .any)],[],H⟩) (fun i=>ZkM l=(l.drop i).any fun x=>(Yw x).any farS) l.length rfl ?_ rfl ?_
 ·exact KK
 intro i hi hq;refine Yc rfl ?_;rcases Qj i l.length with h|h
 ·rw[Zdz _ _ _ h]at hq;obtain⟨x,hx⟩:∃x,x=l[i]:=⟨_,rfl⟩
  have hg:=gl _ (Qa h);rw[←hx]at hq hg;have hxl:=hg.at_.len;refine nq h ?_;refine nT ?_;refine nD drawO ?_;simp only[go_sem,simprocAttr,Lt.Zp _ _ h,h,←hx];refine⟨rfl,⟨Zm om,om⟩,?_⟩;rw[show x.L.enc::x.R.enc::x.at_.args.map Tm.enc=(Yw x).map Tm.enc from rfl];have hgt:∀t∈Yw x,t.Good:=fun t ht=>by
   unfold Yw at ht;rcases Qk.1 ht with rfl|ht
   ·exact hg.L
   rcases Qk.1 ht with rfl|ht
   ·exact hg.R
   ·exact hg.at_.arg ht
  have htl:(Yw x).length≤1000002:=by unfold Yw;simp only[Qo];omega
  generalize hT:Yw x=T at*;refine gh ?_;refine ZX (fun j=>⟨[(5,.int .i64 j),(4,.sl 4 (T.map Tm.enc) .any),(3,.int .i64 i),(0,.sl 13 (l.map Lt.enc) .any)],[],H⟩) (fun j=>ZkM l=((T.drop j).any farS||(l.drop (i+1)).any fun x=>(Yw x).any farS)) T.length rfl ?_ hq ?_
  ·exact KK
  intro j hj hr;refine Yc rfl ?_;rcases Qj j T.length with h'|h'
  ·rw[Zdz _ _ _ h']at hr;refine nq h' ?_;refine nT ?_;refine nq2 (Tm.Zp _ _ h') h' ?_;refine cP (w75 _ (hgt _ (Qa h'))) ?_;cases h1:farS T[j]with
   |true=>
    refine gn ?_;refine Zgk ?_ _;refine Zc ?_ (.bool _) rfl;rw[hr,h1];exact .refl _
   |false=>
    refine gm ?_;refine⟨by rw[hr,h1];simp,?_⟩;exact KK
  ·have hj':j=T.length:=om;subst hj';rw[G5,List.any_nil,MR]at hr;refine nq (QI.2 h') ?_;refine gg ?_;refine gd ?_;refine⟨hr,?_⟩;exact KK
 ·refine nq (QI.2 h) ?_;refine gt ?_;refine Zc ?_ (.bool _) rfl;rw[hq,Us h];exact .refl _
def w31(l:List Lt)(hl:l.length≤100000000000000):Pure prog 31 [.sl 13 (l.map Lt.enc) .any,.int .i64 300] (.int .i64 (Xi 300 l)):=by
 intro n H;refine aF func31 fun B=>?_
 refine gz ?_;refine Zt (fun i=>⟨[(6,.int .i64 i),(5,.int .i64 (Xi 300 (l.take i))),(0,.sl 13 (l.map Lt.enc) .any),(1,.int .i64 300)],[],H⟩) l.length rfl ?_ ?_
 ·exact KK
 intro i hi;refine Yc rfl ?_;have ht:=size_at (m:=300) om l i;rcases Qj i l.length with h|h
 ·rcases Qay 300 (Xi 300 (l.take i))with h2|h2
  ·have hle:decide (Xi 300 (l.take i)≤300)=false:=by rw[decide_eq_false_iff_not];omega
   have he:=Znz h2;refine nq2 h hle ?_;refine gt ?_;refine Zc ?_ (.int _ _) rfl;refine aq he ?_;exact .refl _
  ·have he:=ZeM (Zbr 300) 0 l i h;change Xi 300 (l.take (i+1))=Zbr 300 (Xi 300 (l.take i)) l[i]at he;have hst:Zbr 300 (Xi 300 (l.take i)) l[i]=Xi 300 (l.take i)+(1+YA l[i].at_.sz (300 - Xi 300 (l.take i))+YA l[i].L.sz (300 - Xi 300 (l.take i))+YA l[i].R.sz (300 - Xi 300 (l.take i))):=by unfold Zbr;rw[if_pos h2]
   have hle:decide (Xi 300 (l.take i)≤300)=true:=by rw[decide_eq_true_eq];omega
   have hv0:0≤Xi 300 (l.take i):=by rcases ht with ht|ht<;>omega
   rw[hst]at he;generalize hN:Xi 300 (l.take i)=N at*;obtain⟨x,hx⟩:∃x,x=l[i]:=⟨_,rfl⟩
   rw[←hx]at he;have hw:IntKind.i64.wrap (300 - N)=300 - N:=iw;obtain⟨a1,a2,_⟩:=Vy (s:=x.at_.sz) (m:=300 - N) om;obtain⟨b1,b2,_⟩:=Vy (s:=x.L.sz) (m:=300 - N) om;obtain⟨c1,c2,_⟩:=Vy (s:=x.R.sz) (m:=300 - N) om;have w1:IntKind.i64.wrap (1+YA x.at_.sz (300 - N))=1+YA x.at_.sz (300 - N):=iw;have w2:IntKind.i64.wrap (1+YA x.at_.sz (300 - N)+YA x.L.sz (300 - N))=1+YA x.at_.sz (300 - N)+YA x.L.sz (300 - N):=iw;have w3:IntKind.i64.wrap (1+YA x.at_.sz (300 - N)+YA x.L.sz (300 - N)+YA x.R.sz (300 - N))=1+YA x.at_.sz (300 - N)+YA x.L.sz (300 - N)+YA x.R.sz (300 - N):=iw;have w4:IntKind.i64.wrap (N+(1+YA x.at_.sz (300 - N)+YA x.L.sz (300 - N)+YA x.R.sz (300 - N)))=N+(1+YA x.at_.sz (300 - N)+YA x.L.sz (300 - N)+YA x.R.sz (300 - N)):=iw;refine nq2 h hle ?_;refine nT ?_;refine nD drawO ?_;simp only[go_sem,simprocAttr,Lt.Zp _ _ h,h,←hx,hw];refine VK (Zf func32 rfl rfl) (a38 x.at_ (300 - N) om om) (by simp only[go_sem,simprocAttr,Lt.Zp _ _ h,h,←hx,hw]) ?_;simp only[go_sem,simprocAttr,Lt.Zp _ _ h,h,←hx,hw];refine VK (Zf func33 rfl rfl) (a11 x.L (300 - N) om om) (by simp only[go_sem,simprocAttr,Lt.Zp _ _ h,h,←hx,hw]) ?_;simp only[go_sem,simprocAttr,Lt.Zp _ _ h,h,←hx,hw];refine VK (Zf func33 rfl rfl) (a11 x.R (300 - N) om om) (by simp only[go_sem,simprocAttr,Lt.Zp _ _ h,h,←hx,hw]) ?_;simp only[go_sem,simprocAttr,Lt.Zp _ _ h,h,←hx,hw];refine gd ?_;apply kZ;repeat' first|apply q0|exact xx|apply aI
   all_goals first|exact(Yi l).inside|(simp only[go_sem,simprocAttr,w1,w2,w3,w4];rw[he];exact .refl _)|exact xI
 ·refine nq (QI.2 h) ?_;refine gg ?_;have hi':i=l.length:=om;subst hi';refine gE ?_;exact Zc (.refl _) (.int _ _) rfl
def j16(a b:Tm)(ha:a.Good)(hb:b.Good):Pure prog 16 [a.enc,b.enc] (.bool (cmpT a b==0)):=by
 intro n H;refine aF func16 fun B=>?_
 refine gc ?_;refine cP (a53 a b ha hb) ?_;exact pB
def ZqR(b:Bnd)(t:Tm):ZV b t=if((Zv t.name b).isSome&&(t.kind==3))=true then Zg3 t.name b else .mk t.kind t.num t.name (t.args.map (ZV b)):=by
 cases t with|mk k n s l=>
 rw[J6];simp only[Tm.kind,Tm.num,Tm.name,Tm.args,Zg3];by_cases hk:k=3
 ·rw[if_pos hk];obtain h|⟨v,h⟩:Zv s b=none∨ ∃v,Zv s b=some v:=by cases Zv s b<;>simp
  ·simp[h]
  ·simp[h,hk]
 ·rw[if_neg hk];simp[hk]
def Zte(b:Bnd)(hb:V3 b)(hl:b.length≤1000000)(t:Tm)(ht:t.Good)(hm:Ze1 227 [.iptr [Zj b]] Tm.enc Tm.enc t.args (ZV b)):Z4 prog 187 [t.enc,Zj b] (ZV b t).enc:=by
 intro n H hn hT;have ha:=j70 t.args ht.len _ _ (ZV b) hm;have he:=ZqR b t;refine aF func187 fun B=>?_
 refine gh ?_;refine Z5 3 [Zj b] [(4,.ptr n 4 0),(3,.iptr [Zj b]),(2,.ptr n 2 0)] rfl ?_ ?_ ?_ ?_
 ·exact⟨(ZC n b).inside,trivial⟩
 ·refine⟨.inl ⟨.refl _,.ptr _ _ _ (.inr ⟨rfl,dc⟩)⟩,.inr ⟨0,rfl,rfl⟩,.inl ⟨.refl _,.ptr _ _ _ (.inr ⟨rfl,dc⟩)⟩,trivial⟩
 ·exact⟨Ze.Zx (ZY fun c hc=>(t.bcs.mem c hc).inside),Ze.Zx ⟨(Below.int _ _).inside,(Below.int _ _).inside,(Below.str _).inside,inZ,trivial⟩,trivial⟩
 refine gP ?_;refine cP (Ztb b hb hl t.name) ?_;by_cases hc:((Zv t.name b).isSome&&(t.kind==3))=true
 ·rw[if_pos hc]at he;rw[he];rw[Qh]at hc;refine nq2 hc.1 hc.2 ?_;refine gj ?_;refine Ye (.inl rfl) _ n 4 0 (Zg3 t.name b).cs sS sF rfl (Qe _) sS ?_ (Tm.blw _ _) rfl;exact xS
 ·rw[if_neg hc]at he;rw[he];cases h1:(Zv t.name b).isSome with
  |false=>
   refine nq h1 ?_;refine gv ?_;refine cT (ha) ?_;refine ge ?_;refine Ye (.inl rfl) _ n 4 0 (Tm.mk t.kind t.num t.name (t.args.map (ZV b))).cs sS (by simp only[go_sem,simprocAttr,full];rfl) rfl (Qe _) sS ?_ (Tm.blw _ _) rfl;rw[Tm.Zcz];exact .refl _
  |true=>
   have h2:(t.kind==3)=false:=by rw[h1,UZ,MQ]at hc;exact hc
   refine nq2 h1 h2 ?_;refine gv ?_;refine cT (ha) ?_;refine ge ?_;refine Ye (.inl rfl) _ n 4 0 (Tm.mk t.kind t.num t.name (t.args.map (ZV b))).cs sS (by simp only[go_sem,simprocAttr,full];rfl) rfl (Qe _) sS ?_ (Tm.blw _ _) rfl;rw[Tm.Zcz];exact .refl _
def Zvh(b:Bnd)(t:Tm)(ht:t.Good)(h:Z4 prog 187 [t.enc,Zj b] (ZV b t).enc):Z4 prog 227 [t.enc,.iptr [Zj b]] (ZV b t).enc:=by
 intro n H hn hT;refine aF func227 fun B=>?_
 refine gc ?_;refine cT (h) ?_;refine nV ?_;refine Ye (.inl rfl) _ n 3 0 (ZV b t).cs sS sF rfl (Qe _) sS ?_ (Tm.blw _ _) rfl;exact xS
def Zsj(b:Bnd)(hb:V3 b)(hl:b.length≤1000000)(t:Tm)(ht:t.Good):Z4 prog 187 [t.enc,Zj b] (ZV b t).enc:=
 Zte b hb hl t ht ⟨⟨_,_,Zf func227 rfl rfl⟩,fun u hu=>Zvh b u (ht.arg hu) (Zsj b hb hl u (ht.arg hu)),fun _=>⟨Zl ⟨ZC _ b,trivial⟩,trivial⟩⟩
termination_by SizeOf.sizeOf t
decreasing_by exact Tm.Xp hu
structure GB (b:Bnd):Prop where
 asc:V3 b
 good:∀q∈b,q.2.Good
section
variable {b:Bnd}
def GB.look(h:GB b){s:Str}{v:Tm}(e:Zv s b=some v):v.Good:=h.good _ (Zau e)
def GB.ext(h:GB b){s:Str}{v:Tm}(e:Zv s b=none)(hv:v.Good):GB (Ws s v b):=
 ⟨Zgx h.asc (XK.1 e),fun q hq=>by rcases ZbN.1 hq with rfl|hq;all_goals first|exact hv|exact h.good q hq⟩
def ZO.gb(h:ZO b):GB b:=⟨h.asc,fun q hq=>Xx (h.val q hq)⟩
def mat_gb:(∀t v b c,matT t v b=some c→GB b→v.Good→GB c∧c.length≤b.length+t.sz)∧ ∀l q b c,matT.matL l q b=some c→GB b→(∀v∈q,v.Good)→GB c∧c.length≤b.length+Tm.sz.szs l:=by
 refine X4 (fun k n s l ih v b c h hb hv=>?_) (fun q b c h hb hq=>?_) fun t r h1 h2 q b c h hb hq=>?_
 ·rw[matT]at h;split at h
  ·rename_i k3;obtain e|⟨w,e⟩:Zv s b=none∨ ∃v,Zv s b=some v:=by cases Zv s b<;>simp
   ·rw[e]at h;simp only[Qr]at h;subst h;exact⟨hb.ext e hv,by rw[ZkL];simp only[Tm.sz];omega⟩
   ·rw[e]at h;simp only at h;split at h
    ·cases h;exact⟨hb,om⟩
    ·cases h
  ·split at h
   ·obtain⟨a,b'⟩:=ih v.args b c h hb (fun u hu=>hv.arg hu);exact⟨a,by simp only[Tm.sz];omega⟩
   ·cases h
 ·rw[matT.matL]at h;cases h;exact⟨hb,om⟩
 ·cases q with
  |nil=>rw[matT.matL]at h;cases h;exact⟨hb,om⟩
  |cons v q=>
   rw[matT.matL]at h;cases e:matT t v b with
   |none=>rw[e]at h;cases h
   |some d=>
    rw[e]at h;obtain⟨a1,a2⟩:=h1 v b d e hb (hq v sm);obtain⟨a3,a4⟩:=h2 q d c h a1 (fun u hu=>hq u (by simp[hu]));exact⟨a3,by simp only[Tm.sz.szs];omega⟩
def Zk9(o:Option Bnd):AV:=.tup [Zj (o.getD []),.bool o.isSome]
def Zkz(l v:List Tm)(c:Bnd)(H:Za)(i:Nat):Zb:=
 ⟨[(16,.int .i64 i),(15,.int .i64 l.length),(14,.sl 4 (l.map Tm.enc) .any),(2,Zj c),(1,.sl 4 (v.map Tm.enc) .any)],[],H⟩
def Zpy(l:List Tm)(i:Nat)(h:i<l.length):Tm.sz.szs (l.drop i)=l[i].sz+Tm.sz.szs (l.drop (i+1)):=by
 rw[Qz h];rfl
def Ztc(l v:List Tm)(b:Bnd)(hlen:l.length=v.length)(hl:∀t∈l,t.Good)(hv:∀u∈v,u.Good)(hb:GB b)(hB:b.length+Tm.sz.szs l≤900000)
  (hc:∀t∈l,∀u∈v,∀c,GB c→t.args.length=u.args.length→c.length+Tm.sz.szs t.args≤900000→Pure prog 141 [.sl 4 (t.args.map Tm.enc) .any,.sl 4 (u.args.map Tm.enc) .any,Zj c] (Zk9 (matT.matL t.args u.args c))):
  Pure prog 141 [.sl 4 (l.map Tm.enc) .any,.sl 4 (v.map Tm.enc) .any,Zj b] (Zk9 (matT.matL l v b)):=by
 intro n H;have hll:=Tm.sz_len l;refine aF func141 fun B=>?_
 refine gk ?_;refine Zaf (fun m st=>∃i c,i≤l.length∧m=l.length - i∧st=Zkz l v c H i∧GB c∧c.length+Tm.sz.szs (l.drop i)≤900000∧matT.matL (l.drop i) (v.drop i) c=matT.matL l v b) (m0:=l.length) (s0:=Zkz l v b H 0) rfl ?_
  ⟨0,b,Uo _,rfl,rfl,hb,hB,rfl⟩ ?_
 ·exact KK
 rintro m st ⟨i,c,hi,rfl,rfl,hgc,hcB,hm⟩;refine Yc rfl ?_;rcases Qj i l.length with h|h
 ·have hiv:i<v.length:=om;have ht:=hl _ (Qa h);have hu:=hv _ (Qa hiv);have hsz:=Zpy l i h;have hstep:matT.matL (l.drop i) (v.drop i) c=match matT l[i] v[i] c with
    |none=>none
    |some d=>matT.matL (l.drop (i+1)) (v.drop (i+1)) d:=by
   rw[Qz h,Qz hiv,matT.matL];rfl
  rw[hm]at hstep;have hcc:=hc _ (Qa h) _ (Qa hiv) c hgc;have hgd:=(mat_gb.1 l[i] v[i] c)
  obtain⟨t,htl⟩:∃t,t=l[i]:=⟨_,rfl⟩
  obtain⟨u,hul⟩:∃u,u=v[i]:=⟨_,rfl⟩
  rw[←htl]at ht hsz hstep hcc hgd;rw[←hul]at hu hstep hcc hgd;have htz:=t.ZcO;have htq:=t.Zhh;have hwr:IntKind.i64.wrap ((i:Int)+1)=((i+1:Nat):Int):=by rw[iw];omega
  refine nq h ?_;refine gH ?_;simp only[go_sem,simprocAttr,Tm.Zp _ _ h,h,←htl];refine nR ?_;refine cP (Ztb c hgc.asc om t.name) ?_;refine kK ?_;by_cases k3:t.kind=3
  ·have e3:(t.kind==3)=true:=by simp[k3]
   obtain e|⟨w,e⟩:Zv t.name c=none∨ ∃w,Zv t.name c=some w:=by cases Zv t.name c<;>simp
   ·have hmt:matT t u c=some (Ws t.name u c):=by
     cases t;simp only[Tm.kind,Tm.name]at k3 e⊢;rw[matT,if_pos k3,e]
    rw[hmt]at hstep;refine nr ?_;simp only[go_sem,simprocAttr,e,G9,e3];refine nT ?_;refine nD drawO ?_;simp only[go_sem,simprocAttr,Tm.Zp _ _ hiv,hiv,←hul];refine cP (j138 c hgc.asc om t.name u) ?_;refine Zlm rfl rfl rfl ?_;refine gd ?_;refine⟨l.length - (i+1),Zkz l v (Ws t.name u c) H (i+1),om,?_,i+1,_,om,rfl,rfl,(hgd _ hmt hgc hu).1,by have:=(hgd _ hmt hgc hu).2;omega,hstep.symm⟩;apply kZ;repeat' first|apply q0|exact xx|apply aI
    all_goals first|exact(ZC n _).inside|skip
    refine aq hwr ?_;exact .refl _
   ·have ev:Zg3 t.name c=w:=by rw[Zg3,e];rfl
    refine nr ?_;simp only[go_sem,simprocAttr,e,Qaa,e3];refine nF ?_;refine nq e3 ?_;refine nT ?_;refine nD drawO ?_;simp only[go_sem,simprocAttr,Tm.Zp _ _ hiv,hiv,←hul,ev];refine cP (j16 w u (hgc.look e) hu) ?_;by_cases hq:cmpT w u=0
    ·have eq1:(cmpT w u==0)=true:=by simp[hq]
     have hmt:matT t u c=some c:=by
      cases t;simp only[Tm.kind,Tm.name]at k3 e⊢;rw[matT,if_pos k3,e];simp[hq]
     rw[hmt]at hstep;refine nFq eq1 ?_;refine Zlm rfl rfl rfl ?_;refine gd ?_;refine⟨l.length - (i+1),Zkz l v (c) H (i+1),om,?_,i+1,_,om,rfl,rfl,(hgd _ hmt hgc hu).1,by have:=(hgd _ hmt hgc hu).2;omega,hstep.symm⟩;apply kZ;repeat' first|apply q0|exact xx|apply aI
     all_goals first|exact(ZC n _).inside|skip
     refine aq hwr ?_;exact .refl _
    ·have eq1:(cmpT w u==0)=false:=by simp[hq]
     have hmt:matT t u c=none:=by
      cases t;simp only[Tm.kind,Tm.name]at k3 e⊢;rw[matT,if_pos k3,e];simp[hq]
     rw[hmt]at hstep;refine nTq eq1 ?_;refine nR ?_;refine nW ?_;rw[hstep];exact ZF (.any _ _ _) (.refl _) (ZC n _) (.bool _) rfl
  ·have e3:(t.kind==3)=false:=by simp[k3]
   refine nq e3 ?_;refine nF ?_;refine nq e3 ?_;refine gu ?_;have hmt0:matT t u c=if t.kind=u.kind∧t.num=u.num∧t.name=u.name∧t.args.length=u.args.length then matT.matL t.args u.args c else none:=by
    cases t;cases u;simp only[Tm.kind,Tm.name,Tm.num,Tm.args]at k3⊢;rw[matT,if_neg k3];rfl
   by_cases q1:t.kind=u.kind
   ·have p1:(t.kind !=u.kind)=false:=by simp[q1]
    by_cases q2:t.num=u.num
    ·have p2:(t.num !=u.num)=false:=by simp[q2]
     by_cases q3:t.name=u.name
     ·have p3:(t.name==u.name)=true:=by simp[q3]
      by_cases q4:t.args.length=u.args.length
      ·have p4:((t.args.length:Int) !=(u.args.length:Int))=false:=by simp[q4]
       rw[if_pos ⟨q1,q2,q3,q4⟩]at hmt0;refine XJ tok mixed drawO rfl rfl rfl ?_;simp -implicitDefEqProofs (maxSteps:=1000000) only[go_sem,simprocAttr,Tm.Zp _ _ hiv,hiv,←hul,p1,p2,p3,p4];refine nF ?_;refine nD drawO ?_;simp only[go_sem,simprocAttr,Tm.Zp _ _ hiv,hiv,←hul];refine cP (hcc q4 om) ?_;obtain e|⟨d,e⟩:matT.matL t.args u.args c=none∨ ∃d,matT.matL t.args u.args c=some d:=by cases matT.matL t.args u.args c<;>simp
       ·have hmt:matT t u c=none:=hmt0.trans e;rw[hmt]at hstep;simp only[go_sem,simprocAttr,Zk9,e,G9,Qbi];refine nR ?_;refine gn ?_;rw[hstep];exact ZF (.any _ _ _) (.refl _) (ZC n _) (.bool _) rfl
       ·have hmt:matT t u c=some d:=hmt0.trans e;rw[hmt]at hstep;simp only[go_sem,simprocAttr,Zk9,e,Qaa,Uk];refine nR ?_;refine nF ?_;refine gc ?_;refine nN ?_;refine⟨l.length - (i+1),Zkz l v d H (i+1),om,?_,i+1,_,om,rfl,rfl,(hgd _ hmt hgc hu).1,by have:=(hgd _ hmt hgc hu).2;omega,hstep.symm⟩;apply kZ;repeat' first|apply q0|exact xx|apply aI
        all_goals first|exact(ZC n _).inside|(simp only[go_sem,simprocAttr,hwr];exact .refl _)|exact xS|(simp only[go_sem,simprocAttr];exact Tm.Zgv _ _)|(simp only[go_sem,simprocAttr];exact(Below.int _ _).inside)|(simp only[go_sem,simprocAttr];exact(ZC n _).inside)
      ·have p4:((t.args.length:Int) !=(u.args.length:Int))=true:=by simp;omega
       have hmt:matT t u c=none:=by rw[hmt0,if_neg (fun hh=>q4 hh.2.2.2)]
       rw[hmt]at hstep;refine XJ tok mixed drawO rfl rfl rfl ?_;simp -implicitDefEqProofs (maxSteps:=1000000) only[go_sem,simprocAttr,Tm.Zp _ _ hiv,hiv,←hul,p1,p2,p3,p4];refine gn ?_;rw[hstep];exact ZF (.any _ _ _) (.refl _) (ZC n _) (.bool _) rfl
     ·have p3:(t.name==u.name)=false:=by simp[q3]
      have hmt:matT t u c=none:=by rw[hmt0,if_neg (fun hh=>q3 hh.2.2.1)]
      rw[hmt]at hstep;refine XJ tok mixed drawO rfl rfl rfl ?_;simp -implicitDefEqProofs (maxSteps:=1000000) only[go_sem,simprocAttr,Tm.Zp _ _ hiv,hiv,←hul,p1,p2,p3];refine gn ?_;rw[hstep];exact ZF (.any _ _ _) (.refl _) (ZC n _) (.bool _) rfl
    ·have p2:(t.num !=u.num)=true:=by simp[q2]
     have hmt:matT t u c=none:=by rw[hmt0,if_neg (fun hh=>q2 hh.2.1)]
     rw[hmt]at hstep;refine XJ tok mixed drawO rfl rfl rfl ?_;simp -implicitDefEqProofs (maxSteps:=1000000) only[go_sem,simprocAttr,Tm.Zp _ _ hiv,hiv,←hul,p1,p2];refine gn ?_;rw[hstep];exact ZF (.any _ _ _) (.refl _) (ZC n _) (.bool _) rfl
   ·have p1:(t.kind !=u.kind)=true:=by simp[q1]
    have hmt:matT t u c=none:=by rw[hmt0,if_neg (fun hh=>q1 hh.1)]
    rw[hmt]at hstep;refine XJ tok mixed drawO rfl rfl rfl ?_;simp -implicitDefEqProofs (maxSteps:=1000000) only[go_sem,simprocAttr,Tm.Zp _ _ hiv,hiv,←hul,p1];refine gn ?_;rw[hstep];exact ZF (.any _ _ _) (.refl _) (ZC n _) (.bool _) rfl
 ·have hi':i=l.length:=om;subst hi';rw[G5,show v.drop l.length=[] by rw[hlen];exact G5]at hm;have hm:matT.matL l v b=some c:=by rw[←hm,matT.matL]
  refine nq (QI.2 h) ?_;refine gt ?_;rw[hm];exact ZF (.refl _) (.refl _) (ZC n _) (.bool _) rfl
def Zuj(l v:List Tm)(b:Bnd)(hlen:l.length=v.length)(hl:∀t∈l,t.Good)(hv:∀u∈v,u.Good)(hb:GB b)(hB:b.length+Tm.sz.szs l≤900000):
  Pure prog 141 [.sl 4 (l.map Tm.enc) .any,.sl 4 (v.map Tm.enc) .any,Zj b] (Zk9 (matT.matL l v b)):=
 Ztc l v b hlen hl hv hb hB fun t ht u hu c hc hq hs=>Zuj t.args u.args c hq (fun _ h=>(hl t ht).arg h) (fun _ h=>(hv u hu).arg h) hc hs
termination_by SizeOf.sizeOf l
decreasing_by
 have h1:=QW ht;have h2:SizeOf.sizeOf t.args<SizeOf.sizeOf t:=by cases t;simp only[Tm.args,Tm.mk.sizeOf_spec];omega
 omega
end
def sw8(l:List Lt)(A:List Am)(b:Bnd)(H:Za)(N:Int):Zb:=⟨[(7,.int .i64 N),(0,.sl 13 (l.map Lt.enc) .any),(1,.sl 2 (A.map Am.enc) .any),(2,.sl 5 (b.map eBd) .any)],[],H⟩
def Zn0(l:List Lt)(A:List Am)(b:Bnd)(H:Za)(t:Nat)(N:Int)(i:Nat):Zb:=⟨[(t,.int .i64 i),(7,.int .i64 N),(0,.sl 13 (l.map Lt.enc) .any),(1,.sl 2 (A.map Am.enc) .any),(2,.sl 5 (b.map eBd) .any)],[],H⟩
def ZkG{n:Int}{s:Nat}(h:n≤300):Zav n s=n+YA s (300 - n):=if_pos h
def w8(l:List Lt)(A:List Am)(b:Bnd)(hl:l.length≤100000000000000)(hA:A.length≤100000000000000)(hb:b.length≤100000000000000)(gl:szLs l≤300→ ∀x∈l,x.Good)(gb:sumN (b.map fun p=>p.2.sz)≤300→ ∀p∈b,p.2.Good):
  Pure prog 8 [.sl 13 (l.map Lt.enc) .any,.sl 2 (A.map Am.enc) .any,.sl 5 (b.map eBd) .any] (.bool (ZcJ l A b)):=by
 intro n H;have hin:∀q,Inside n q (.sl 13 (l.map Lt.enc) .any)∧Inside n q (.sl 2 (A.map Am.enc) .any)∧Inside n q (.sl 5 (b.map eBd) .any):=fun q=>⟨(Yi l).inside,Am.Zgv _ _,(ZC n b).inside⟩
 have t0:=Zga (m:=300) om l;have hn0:0≤(b.length:Int)+Xi 300 l∧(b.length:Int)+Xi 300 l≤100000000002000:=by rcases t0 with t0|t0<;>omega
 have hw0:IntKind.i64.wrap ((b.length:Int)+Xi 300 l)=(b.length:Int)+Xi 300 l:=iw;have hsz:=fun h=>ZeP (l:=l) (A:=A) (b:=b) h
 refine aF func8 fun B=>?_
 refine gc ?_;refine VK (Zf func31 rfl rfl) (w31 l hl) (by simp only[go_sem,simprocAttr,hw0]) ?_;refine aq hw0 ?_;unfold ZcJ;generalize (b.length:Int)+Xi 300 l=N0 at*;have hs1:=sum_le (A.map Am.sz) hn0.1;refine nR ?_;refine V5 (sw8 l A b H (Wi N0 (A.map Am.sz))) ?_ ?_
 ·refine kK ?_;refine Zt (fun i=>Zn0 l A b H 8 (Wi N0 ((A.map Am.sz).take i)) i) A.length rfl ?_ ?_
  ·unfold Zn0;exact KK
  intro i hi;refine Yc rfl ?_;have hsi:=sum_le ((A.map Am.sz).take i) hn0.1;rcases Qj i A.length with h|h
  ·rcases Qay 300 (Wi N0 ((A.map Am.sz).take i))with h2|h2
   ·have hle:decide (Wi N0 ((A.map Am.sz).take i)≤300)=false:=by rw[decide_eq_false_iff_not];omega
    have he:=ZkK h2;refine nq2 h hle ?_;refine gJ ?_;refine⟨rfl,?_⟩;unfold sw8;rw[he];exact KK
   ·have hle:decide (Wi N0 ((A.map Am.sz).take i)≤300)=true:=by rw[decide_eq_true_eq];omega
    have he:=Zka (v:=N0) (l:=A.map Am.sz) (i:=i) (by simpa using h);rw[QV,ZkG h2]at he;generalize Wi N0 ((A.map Am.sz).take i)=N at*;have hw:IntKind.i64.wrap (300 - N)=300 - N:=iw;obtain⟨a1,a2,_⟩:=Vy (s:=A[i].sz) (m:=300 - N) om;refine nq2 h hle ?_;refine nT ?_;refine nq3 (Am.Zp _ _ h) h hw ?_;refine VK (Zf func32 rfl rfl) (a38 A[i] (300 - N) om om) (by simp only[go_sem,simprocAttr,hw]) ?_;refine aq hw ?_;refine gd ?_;unfold Zn0;exact KK
  ·have hi':i=A.length:=om;subst hi';have hta:(A.map Am.sz).take A.length=A.map Am.sz:=Q7 sm;refine nr ?_;simp only[go_sem,simprocAttr,Ui];refine gJ ?_;refine⟨rfl,?_⟩;rw[hta];unfold sw8;exact KK
 generalize Wi N0 (A.map Am.sz)=N1 at*;unfold sw8;refine nR ?_;refine V5 (sw8 l A b H (Wi N1 (b.map fun p=>p.2.sz))) ?_ ?_
 ·refine kK ?_;refine Zt (fun i=>Zn0 l A b H 9 (Wi N1 ((b.map fun p=>p.2.sz).take i)) i) b.length rfl ?_ ?_
  ·unfold Zn0;exact KK
  intro i hi;refine Yc rfl ?_;have hsi:=sum_le ((b.map fun p=>p.2.sz).take i) hs1.1;rcases Qj i b.length with h|h
  ·rcases Qay 300 (Wi N1 ((b.map fun p=>p.2.sz).take i))with h2|h2
   ·have hle:decide (Wi N1 ((b.map fun p=>p.2.sz).take i)≤300)=false:=by rw[decide_eq_false_iff_not];omega
    have he:=ZkK h2;refine nq2 h hle ?_;refine gJ ?_;refine⟨rfl,?_⟩;unfold sw8;rw[he];exact KK
   ·have hle:decide (Wi N1 ((b.map fun p=>p.2.sz).take i)≤300)=true:=by rw[decide_eq_true_eq];omega
    have he:=Zka (v:=N1) (l:=b.map fun p=>p.2.sz) (i:=i) (by simpa using h);rw[QV,ZkG h2]at he;generalize Wi N1 ((b.map fun p=>p.2.sz).take i)=N at*;have hw:IntKind.i64.wrap (300 - N)=300 - N:=iw;obtain⟨a1,a2,_⟩:=Vy (s:=b[i].2.sz) (m:=300 - N) om;refine nq2 h hle ?_;refine nT ?_;refine nq3 (getD_map eBd _ _ h) h hw ?_;refine VK (Zf func33 rfl rfl) (a11 b[i].2 (300 - N) om om) (by simp only[go_sem,simprocAttr,hw]) ?_;refine aq hw ?_;refine gd ?_;unfold Zn0;exact KK
  ·have hi':i=b.length:=om;subst hi';have hta:(b.map fun p=>p.2.sz).take b.length=b.map fun p=>p.2.sz:=Q7 sm
   refine nr ?_;simp only[go_sem,simprocAttr,Ui];refine gJ ?_;refine⟨rfl,?_⟩;rw[hta];unfold sw8;exact KK
 generalize Wi N1 (b.map fun p=>p.2.sz)=N2 at*;unfold sw8;have c5:decide ((5:Int)<(l.length:Int))=decide (5<l.length):=by rw[decide_eq_decide];omega
 have c24:decide ((24:Int)<(A.length:Int))=decide (24<A.length):=by rw[decide_eq_decide];omega
 cases g1:decide (300<N2)with
 |true=>
  refine nq g1 ?_;exact pB
 |false=>
  cases g2:decide (5<l.length)with
  |true=>
   refine nq3 g1 c5 g2 ?_;exact pB
  |false=>
   cases g3:decide (24<A.length)with
   |true=>
    refine nr ?_;simp only[go_sem,simprocAttr,g1,c5,c24,g2,g3];exact pB
   |false=>
    have hs3:=hsz (by simpa using g1);have hl5:l.length≤5:=by simpa using g2
    have gl':=gl om;have gb':=gb om;refine nr ?_;simp only[go_sem,simprocAttr,g1,c5,c24,g2,g3];refine cP (w34 l om gl') ?_;cases g4:ZkM l with
    |true=>
     refine aq g4 ?_;exact pB
    |false=>
     refine aq g4 ?_;refine cP (w35 b om gb') ?_;exact pB
def w18(s:Str):Pure prog 18 [.str s] (Tm.mk 3 0 s []).enc:=by
 intro n H;refine aF func18 fun B=>?_
 refine gK ?_;refine Ye (.inl rfl) _ n 2 0 [.int .u8 3,.int .i64 0,.str s,.sl 4 [] .full] sS sF rfl (Qe _) sS ?_ (Tm.blw _ _) rfl;refine aS ?_;rw[Tm.VY];exact .deep (.Ze7 ⟨.refl _,.refl _,.refl _,.nil _ _ _,trivial⟩)
def ZT{κ β:Type} [DecidableEq κ](k:κ):List (κ×β)→Nat→Option Nat
 |[],_=>none
 |p::r,i=>if p.1=k then some i else ZT k r (i+1)
theorem ZdS{κ β:Type} [DecidableEq κ](enc:κ→AV)(hi:∀a b,(enc a).kls=(enc b).kls→a=b)(k:κ)(f:κ×β→AV×AV)(hf:∀p,(f p).1=enc p.1):∀(es:List (κ×β)) (i:Nat),XT (enc k).kls ((es.map f).map fun p=>p.1.kls) i=ZT k es i
 |[],_=>rfl
 |p::r,i=>by
  simp only[Qu,XT,ZT,hf];by_cases h:p.1=k
  ·rw[if_pos h,if_pos (by rw[h])]
  ·rw[if_neg h,if_neg (fun e=>h (hi _ _ e).symm),ZdS enc hi k f hf r (i+1)]
theorem ZaY{κ:Type} [DecidableEq κ](enc:κ→AV)(hi:∀a b,(enc a).kls=(enc b).kls→a=b)(k:κ)(l b:Nat):∀(es:List (κ×List Int)) (i j:Nat),XT (enc k).kls ((ents enc l b j es).map fun p=>p.1.kls) i=ZT k es i
 |[],_,_=>rfl
 |p::r,i,j=>by
  simp only[ents,Qu,XT,ZT];by_cases h:p.1=k
  ·rw[if_pos h,if_pos (by rw[h])]
  ·rw[if_neg h,if_neg (fun e=>h (hi _ _ e).symm),ZaY enc hi k l b r (i+1) (j+1)]
def Zm4(a b:List UInt8)(h:(AV.str a).kls=(AV.str b).kls):a=b:=by
 simp[AV.kls,AV.cells,klAll,AV.kl]at h;exact h
def Zlt(a b:Sg)(h:a.enc.kls=b.enc.kls):a=b:=by
 simp[AV.kls,AV.cells,klAll,AV.kl,Sg.enc]at h;cases a;cases b;simp at h;simp[h]
def ZlS(a b:Ak)(h:a.enc.kls=b.enc.kls):a=b:=by
 simp[AV.kls,AV.cells,klAll,AV.kl,Ak.enc]at h;obtain⟨⟨p,n⟩,c,t⟩:=a;obtain⟨⟨p',n'⟩,c',t'⟩:=b;simp at h;simp[h]
def ZcT(p:List UInt8×Int):AV×AV:=(.str p.1,.int .i64 p.2)
def a26(n:Nat)(H:Za)(l b:Nat)(s:Sto)(a:Am)(hl:l<n)(hs:Z7 H l b s)(ha:a.Good)(hn:0<n)(hT:Tabs H):PC prog n 65 [.ptr l b 0,a.enc] H (.bool (Yn a&&(ZT (JO a) s.N 0).isSome)):=by
 have hne:¬l=n:=om;have hb:=hs.box;have hnum:=hs.num;have hf:XT (AV.str (JO a)).kls ((s.N.map ZcT).map fun p=>p.1.kls) 0=ZT (JO a) s.N 0:=ZdS AV.str Zm4 (JO a) ZcT (fun _=>rfl) s.N 0;have hkk:∀p,p∈s.N.map ZcT→YC tt 9 p.1=true:=fun p hp=>by
  obtain⟨q,_,rfl⟩:=Qi.1 hp;exact Zeq _
 change H l (b+2)=some (Ze.map (s.N.map ZcT))at hnum;generalize s.N.map ZcT=es at hf hkk hnum;refine aF func65 fun B=>?_
 refine gc ?_;refine cQ (a55 (n+1) _ l b s om (hs.full hl _)) ?_;refine aS ?_;refine cT (a14 a ha) ?_;cases h1:Yn a with
 |false=>
  refine nTq h1 ?_;refine nR ?_;refine YB rfl rfl ?_;refine Zc ?_ (.bool _) rfl;try simp only[go_sem,simprocAttr,G6]
  exact .refl _
 |true=>
 refine Zsy rfl rfl (by simp only[go_sem,simprocAttr,h1]) ?_;refine nD drawO ?_;simp only[go_sem,simprocAttr,hne,hb,hnum,ZP];refine cT (a57 a ha h1) ?_;simp only[go_sem,simprocAttr,hne,hb,hnum,ZP,lookA,Xy,hf];refine⟨fun p hp=>hkk p hp,?_⟩;cases hk:ZT (JO a) s.N 0 with
 |none=>
  refine nR ?_;exact pB
 |some i=>
  refine nR ?_;exact pB
def Zd8(m:Nat)(H H0:Za):Prop:=∀l k,l<m→H l k=H0 l k
def Zd8.full{m n:Nat}{H H0:Za}(h:Zd8 m H H0)(hm:m≤n)(L:List (Nat×Ze)):Zd8 m (Go.Abs.full n L H) H0:=fun l k hl=>by
 rw[Zi om];exact h l k hl
structure Zup {α:Type} (m:Nat) (H0:Za) (f:Nat) (caps:List AV) (ea:α→AV) (l:List α) (g:α→Am):Prop where
 fn:∃fn c,Fun prog f fn c
 on:∀x∈l,∀n H,m≤n→Zd8 m H H0→PC prog n f (ea x::caps) H (g x).enc
 below:∀n,m≤n→Yg (fun c=>Below n c) caps
def Zs0(l:List Int)(o:Own)(f:Nat)(caps:List AV)(g:Int→Am)(n:Nat)(H:Za)(i:Nat):Zb:=
 ⟨[(10,.int .i64 i),(9,.int .i64 l.length),(8,.sl 1 (l.map eInt) o),(5,.sl 2 (((l.take i).map g).map Am.enc) (.buf n 200)),(1,.fn (.func f) caps)],[(200,.buf 52 2 i)],H⟩
def Zvv(l:List Int)(hl:l.length≤1000000)(o:Own)(m:Nat)(H0:Za)(f:Nat)(caps:List AV)(g:Int→Am)(hp:Zup m H0 f caps eInt l g)(ho:∀n,m≤n→Below n (.sl 1 (l.map eInt) o))(n:Nat)(H:Za)(hmn:m≤n)(hH:Zd8 m H H0):
  PC prog n 202 [.sl 1 (l.map eInt) o,.fn (.func f) caps] H (.sl 2 ((l.map g).map Am.enc) .any):=by
 obtain⟨⟨fn,c,hf⟩,hp,hbl⟩:=hp;have hfi:∀q,Inside n q (.fn (.func f) caps):=fun q=>(Below.fn _ _ fun i hi=>(hbl n hmn).mem _ (Qa hi)).inside
 have hoi:∀q,Inside n q (.sl 1 (l.map eInt) o):=fun q=>(ho n hmn).inside
 refine aF func202 fun B=>?_
 refine gz ?_;refine XL 5 200 52 2 rfl rfl ?_;refine Zt (Zs0 l o f caps g n H) l.length rfl ?_ ?_
 ·exact KK
 intro i hi;refine Yc rfl ?_;rcases Qj i l.length with h|h
 ·have hmin:(l.take i).length=i:=Ut om;refine nq h ?_;refine nT ?_;refine nq2 (getD_map eInt _ _ h) h ?_;refine nR ?_;refine YG (avs:=[eInt l[i]]) rfl hf (hp l[i] (Qa h) _ _ (by show m≤n+1;omega) (hH.full hmn _)) rfl ?_;refine aq hmin ?_;refine⟨by first|exact⟨rfl,dc⟩|exact rfl,⟨Zm om,om⟩,?_⟩;refine gd ?_;apply kZ;repeat' first|apply q0|exact xx|apply aI
  ·refine aS ?_;rw[iw];exact .refl _
  ·simp only[go_sem,simprocAttr,Qn h,QL];exact .refl _
  all_goals first|exact hfi _|exact hoi _
 ·refine nq (QI.2 h) ?_;refine gg ?_;have hi':i=l.length:=om;subst hi';refine gE ?_;refine Zc ?_ (Xn _) rfl;refine aS ?_;exact .any _ _ _
def ZfD(A:List Am)(ix:List Int):List Am:=ix.map fun i=>A.getD i.toNat ⟨[],[]⟩
def a98(n:Nat)(H:Za)(l b q j:Nat)(s:Sto)(i:Int)(hl:l<n)(hq:q<n)(hs:Z7 H l b s)(hbx:H q j=some (.box [.ptr l b 0]))(hg:V7 s.A)(hn:0<n)(hT:Tabs H)(h0:0≤i)(h1:i<s.A.length):
  PC prog n 203 [eInt i,.ptr q j 0] H (s.A.getD i.toNat ⟨[],[]⟩).enc:=by
 have hne:¬l=n:=om;have hqn:¬q=n:=om;have hb:=hs.box;have h2:i.toNat<s.A.length:=om;have hA:s.A≠[]:=fun e=>by rw[e]at h2;simp at h2
 have hA':¬s.A=[]:=hA;have hga:s.A.getD i.toNat ⟨[],[]⟩=s.A[i.toNat]:=by rw[Qp,Qb h2];rfl
 refine aF func203 fun B=>?_
 refine nR ?_;refine nr ?_;simp only[go_sem,simprocAttr,hne,hqn,hb,hbx,ZP,Yy,hA',h0,h1,h2,Am.Zp _ _ h2];refine cT (a59 s.A[i.toNat] (hg _ (Qa h2))) ?_;refine nV ?_;rw[hga];exact Ye (.inl rfl) _ n 3 0 s.A[i.toNat].cs sS (by simp only[go_sem,simprocAttr,Go.Abs.full]) rfl (Qe _) sS (by simp only[go_sem,simprocAttr];exact .refl _) (Am.blw _ _) rfl
def a61(n:Nat)(H:Za)(l b:Nat)(s:Sto)(ix:List Int)(o:Own)(hl:l<n)(hs:Z7 H l b s)(hg:V7 s.A)(hn:0<n)(hT:Tabs H)(hix:∀i∈ix,0≤i∧i<s.A.length)(hlen:ix.length≤1000000)(ho:Below n (.sl 1 (ix.map eInt) o)):
  PC prog n 162 [.ptr l b 0,.sl 1 (ix.map eInt) o] H (.sl 2 ((ZfD s.A ix).map Am.enc) .any):=by
 refine aF func162 fun B=>?_
 refine gc ?_;refine cQ (Zvv ix hlen o (n+1) _ _ [.ptr n 2 0] (fun i=>s.A.getD i.toNat ⟨[],[]⟩) ⟨⟨_,_,Zf func203 rfl rfl⟩,fun i hi m H1 hm hH1=>?_,fun m hm=>⟨.ptr _ _ _ om,trivial⟩⟩ (fun m hm=>ho.mono om) (n+1) _ (Qe _) (fun _ _ _=>rfl)) ?_
 ·refine a98 m H1 l b n 2 s i om om (fun k x hk=>?_) ?_ hg om ?_ (hix i hi).1 (hix i hi).2
  ·rw[hH1 _ _ om,Zi hl];exact hs k x hk
  ·rw[hH1 _ _ om];simp only[go_sem,simprocAttr,Go.Abs.full]
  ·exact hT.up (fun k=>by rw[hH1 _ _ om];exact Zi hn _ _ _)
 simp only[go_sem,simprocAttr];refine nV ?_;refine Zc ?_ (Xn _) rfl;simp only[go_sem,simprocAttr,ZfD];exact .refl _
def Y2{κ:Type} [DecidableEq κ](k:κ)(es:List (κ×List Int)):List Int:=match ZT k es 0 with
 |some j=>(es[j]?.map Prod.snd).getD []
 |none=>[]
def Ju{κ β:Type} [DecidableEq κ]{k:κ}:∀{es:List (κ×β)} {i j:Nat},ZT k es i=some j→i≤j∧j<i+es.length
 |[],_,_,h=>by cases h
 |p::r,i,j,h=>by
  simp only[ZT]at h;split at h
  ·cases h;simp
  ·have:=Ju h;simp only[Qo];omega
theorem Jj{κ:Type}(enc:κ→AV)(l b:Nat):∀(es:List (κ×List Int)) (i j:Nat) (h:j<es.length) (d:AV×AV),(ents enc l b i es).getD j d=(enc es[j].1,.sl 1 (es[j].2.map eInt) (.buf l (b+2*(i+j))))
 |p::r,i,0,_,d=>rfl
 |p::r,i,j+1,h,d=>by
  have:=Jj enc l b r (i+1) j (by simpa using h) d;simp only[ents,QaN,U0];rw[this];congr 3;omega
def ZbM{κ:Type}(enc:κ→AV)(l b:Nat):∀(es:List (κ×List Int)) (i:Nat) (p:AV×AV),p∈ents enc l b i es→ ∃k,p.1=enc k
 |q::r,i,p,h=>by
  simp only[ents,Qk]at h;rcases h with rfl|h
  ·exact⟨q.1,rfl⟩
  ·exact ZbM enc l b r (i+1) p h
def Y3{n k:Nat}{o:Own}(l:List Int)(h:∀l' j,o= .buf l' j→l'<n):Below n (.sl k (l.map eInt) o):=
 .sl k _ o (fun i hi c hc=>by
  have:=Zbm (n:=n) .i64 l _ (Qa hi);exact this.cells _ (Qa hc)) h
def a30(n:Nat)(H:Za)(l b:Nat)(s:Sto)(g:Sg)(hl:l<n)(hs:Z7 H l b s)(hg:V7 s.A)(hn:0<n)(hT:Tabs H)(hix:∀i∈Y2 g s.S,0≤i∧i<s.A.length)(hlen:(Y2 g s.S).length≤1000000):
  PC prog n 102 [.ptr l b 0,g.enc] H (.sl 2 ((ZfD s.A (Y2 g s.S)).map Am.enc) .any):=by
 have hne:¬l=n:=om;have hb:=hs.box;have hsig:=hs.sig;have hf:XT g.enc.kls ((ents Sg.enc l (b+5) 0 s.S).map fun p=>p.1.kls) 0=ZT g s.S 0:=ZaY Sg.enc Zlt g l (b+5) s.S 0 0;have hkk:∀p,p∈ents Sg.enc l (b+5) 0 s.S→YC tt 110 p.1=true:=fun p hp=>by
  obtain⟨k,hk⟩:=ZbM _ _ _ _ _ _ hp;rw[hk];exact Zlg _ _
 have hd:=fun j h=>Jj Sg.enc l (b+5) s.S 0 j h (.dead,.dead)
 generalize ents Sg.enc l (b+5) 0 s.S=es at hf hkk hsig hd;simp only[Sg.enc]at hf;refine aF func102 fun B=>?_
 refine gc ?_;refine cQ (a55 (n+1) _ l b s om (hs.full hl _)) ?_;refine aS ?_;refine nF ?_;cases hk:ZT g s.S 0 with
 |none=>
  have e:Y2 g s.S=[]:=by rw[Y2,hk]
  rw[e]at hix hlen;rw[hk]at hf;refine nD drawO ?_;simp only[go_sem,simprocAttr,hne,hb,hsig,ZP,lookA,Xy,hf];refine⟨hkk,?_⟩;refine ZhD (Zf func162 rfl rfl) (Zh.args (a61 (n+1) _ l b s [] .full om (hs.full hl _) hg om (hT.full hn) hix hlen (Y3 [] (fun _ _ e=>by cases e))) (args':=[.ptr l b 0,.Xg]) ⟨.refl _,.sem fun _ _ h=>h.ZiU,trivial⟩) (by simp only[go_sem,simprocAttr,XH]) ?_;refine gw ?_;rw[e];exact Zc (.refl _) (Xn _) rfl
 |some j=>
  have hj:=Ju hk;have hj':j<s.S.length:=om;have e:Y2 g s.S=s.S[j].2:=by rw[Y2,hk];simp[Qb hj']
  rw[e]at hix hlen;rw[hk]at hf;have hdj:=hd j hj';refine nD drawO ?_;simp only[go_sem,simprocAttr,hne,hb,hsig,ZP,lookA,Xy,hf,hdj];refine⟨hkk,?_⟩;refine cQ (a61 (n+1) _ l b s s.S[j].2 (.buf l (b+5+2*(0+j))) om (hs.full hl _) hg om (hT.full hn) hix hlen (Y3 _ (fun _ _ e=>by cases e;omega))) ?_;refine gw ?_;rw[e];exact Zc (.refl _) (Xn _) rfl
def Zkx(p:List UInt8)(m c:Int)(t:List UInt8):YC tt 116 (.agg [.str p,.int .i64 m,.int .i64 c,.str t])=true:=by
 simp only[YC,AV.cells,klAll,AV.kl];rfl
def a32(n:Nat)(H:Za)(l b:Nat)(s:Sto)(g0:Sg)(c:Int)(v:Tm)(hv:v.Good)(hl:l<n)(hs:Z7 H l b s)(hg:V7 s.A)(hn:0<n)(hT:Tabs H)(hix:∀i∈Y2 (⟨g0,c,txt v⟩:Ak) s.R,0≤i∧i<s.A.length)(hlen:(Y2 (⟨g0,c,txt v⟩:Ak) s.R).length≤1000000):
  PC prog n 190 [.ptr l b 0,g0.enc,.int .i64 c,v.enc] H (.sl 2 ((if Zr v=true then ZfD s.A (Y2 (⟨g0,c,txt v⟩:Ak) s.R)else []).map Am.enc) .any):=by
 generalize hgk:(⟨g0,c,txt v⟩:Ak)=g at*;have hne:¬l=n:=om;have hb:=hs.box;have harg:=hs.arg;have hf:XT g.enc.kls ((ents Ak.enc l (b+6) 0 s.R).map fun p=>p.1.kls) 0=ZT g s.R 0:=ZaY Ak.enc ZlS g l (b+6) s.R 0 0;have hkk:∀p,p∈ents Ak.enc l (b+6) 0 s.R→YC tt 116 p.1=true:=fun p hp=>by
  obtain⟨k,hk⟩:=ZbM _ _ _ _ _ _ hp;rw[hk];exact Zkx _ _ _ _
 have hd:=fun j h=>Jj Ak.enc l (b+6) s.R 0 j h (.dead,.dead)
 generalize ents Ak.enc l (b+6) 0 s.R=es at hf hkk harg hd;have hge:g.enc= .agg [.str g0.p,.int .i64 g0.n,.int .i64 c,.str (txt v)]:=by rw[←hgk];rfl
 rw[hge]at hf;refine aF func190 fun B=>?_
 refine gc ?_;refine cQ (a55 (n+1) _ l b s om (hs.full hl _)) ?_;refine aS ?_;refine cT (a37 v hv) ?_;cases h1:Zr v with
 |false=>
  refine nTq h1 ?_;refine ge ?_;exact Zc (.any _ _ _) (Xn []) rfl
 |true=>
 refine nFq h1 ?_;rw[if_pos rfl];cases hk:ZT g s.R 0 with
 |none=>
  have e:Y2 g s.R=[]:=by rw[Y2,hk]
  rw[e]at hix hlen;rw[hk]at hf;refine nD drawO ?_;simp only[go_sem,simprocAttr,hne,hb,harg,ZP];refine cT (a58 v hv h1) ?_;simp only[go_sem,simprocAttr,hne,hb,harg,ZP,Zkx,lookA,Xy,hf];refine⟨hkk,?_⟩;refine ZhD (Zf func162 rfl rfl) (Zh.args (a61 (n+1) _ l b s [] .full om (hs.full hl _) hg om (hT.full hn) hix hlen (Y3 [] (fun _ _ e=>by cases e))) (args':=[.ptr l b 0,.Xg]) ⟨.refl _,.sem fun _ _ h=>h.ZiU,trivial⟩) (by simp only[go_sem,simprocAttr,XH]) ?_;simp only[go_sem,simprocAttr];refine nV ?_;rw[e];exact Zc (.refl _) (Xn _) rfl
 |some j=>
  have hj:=Ju hk;have hj':j<s.R.length:=om;have e:Y2 g s.R=s.R[j].2:=by rw[Y2,hk];simp[Qb hj']
  rw[e]at hix hlen;rw[hk]at hf;have hdj:=hd j hj';refine nD drawO ?_;simp only[go_sem,simprocAttr,hne,hb,harg,ZP];refine cT (a58 v hv h1) ?_;simp only[go_sem,simprocAttr,hne,hb,harg,ZP,Zkx,lookA,Xy,hf,hdj];refine⟨hkk,?_⟩;refine cQ (a61 (n+1) _ l b s s.R[j].2 (.buf l (b+6+2*(0+j))) om (hs.full hl _) hg om (hT.full hn) hix hlen (Y3 _ (fun _ _ e=>by cases e;omega))) ?_;simp only[go_sem,simprocAttr];refine nV ?_;rw[e];exact Zc (.refl _) (Xn _) rfl
def YE(H:Za)(l b:Nat):Prop:=∀k,b≤k→H l k=none
def sto0:Sto:=⟨[],[],[],[]⟩
def Zvr(H:Za)(l b:Nat)(hf:YE H l b):(((H.upd l (b+2) (.map [])).upd l (b+3) (.map [])).upd l (b+4) (.map [])).upd l b (.box [.sl 2 [] .full,.map l (b+2),.map l (b+3),.map l (b+4)])=put H l b sto0:=by
 funext l' k;unfold put;by_cases hl:l'=l
 ·subst hl;rw[if_pos rfl,Y6];simp only[Za.upd,sto0,ZP,Yy,UD,ents,true_and,if_true,List.getElem?_nil,Qbn];by_cases h1:k=b
  ·subst h1;simp
  ·by_cases h2:k=b+2
   ·subst h2;simp
   ·by_cases h3:k=b+3
    ·subst h3;simp
    ·by_cases h4:k=b+4
     ·subst h4;simp
     ·simp[h1,h2,h3,h4]
 ·rw[if_neg hl];simp[Za.upd,hl]
def Zby{cx:Cx}{c:Code}{k:List Itm}{Q:Exit→Zb→Prop}{tm:List (Nat×AV)}{L:List (Nat×Ze)}{H:Za}(j l q:Nat)(x:Ze)(tm':List (Nat×AV))(hl:l<cx.n)(hfree:H l q=none)(hj:lkb L j=some x)(hb:x.Below cx.n)
  (h1:Yg (fun p=>Zgh cx.n j (lkv tm p.1)∧Wk (ren cx.n j l q (lkv tm p.1)) p.2) tm') (hL:Yg (fun p=>Yg (fun a=>Zgh cx.n j a) p.2.avs∧p.2.at_=[]∧p.2.isRec=false) (delb L j))
  (h:AKc cx (.code c::k) Q ⟨tm',Zd9 cx.n j l q L,H.upd l q x⟩):AKc cx (.code c::k) Q ⟨tm,L,H⟩:=
 ZK (ZkR j l q hl hfree hj hb h1.mem (fun p hp=>by
  obtain⟨g1,g2,g3⟩:=hL.mem p hp;exact⟨g1.mem,⟨(fun r hr=>absurd (g2▸hr) (QD)),g3⟩⟩)) h
def a22(n:Nat)(H:Za)(l b:Nat)(hl:l<n)(hf:YE H l b):Zh prog n 36 [] H (fun r H'=>r= .ptr l b 0∧H'=put H l b sto0):=by
 refine aF func36 fun B=>?_
 refine gk ?_;refine ZK (s':=⟨[(0,.ptr n 5 0)],[(1,.map []),(2,.map []),(3,.map []),(5,.box [.sl 2 [] .full,.map n 1,.map n 2,.map n 3])],H⟩) ?_ ?_
 ·exact KK
 have hne:¬l=n:=om;have hsl:∀q,Inside n q (.sl 2 [] .full):=fun q=>Zas (fun x hx=>by cases hx)
 have hmb:Ze.Below n (.map []):=⟨by simp[Ze.avs],by simp[Ze.at_]⟩
 have hth:∀j,Zgh n j (.sl 2 [] .full):=fun j=>.inl (hsl _)
 have hm:∀j k,k≠j→Zgh n j (.map n k):=fun j k h=>.inl (.map _ _ (.inr ⟨rfl,h⟩))
 have hm':∀j k,Zgh n j (.map l k):=fun j k=>.inl (.map _ _ (.inl hl))
 have hp:∀j k,k≠j→Zgh n j (.ptr n k 0):=fun j k h=>.inl (.ptr _ _ _ (.inr ⟨rfl,h⟩))
 refine Zby 1 l (b+2) _ [(0,.ptr n 5 0)] hl (hf _ om) rfl hmb ⟨⟨hp _ _ dc,by simp[lkv,ren];exact .refl _⟩,trivial⟩ ⟨⟨trivial,rfl,rfl⟩,⟨trivial,rfl,rfl⟩,⟨⟨hth _,.inr (.inr (.inl rfl)),hm _ _ dc,hm _ _ dc,trivial⟩,rfl,rfl⟩,trivial⟩ ?_;simp only[go_sem,simprocAttr,Zd9,delb,Ze.Zci,ren];refine Zby 2 l (b+3) _ [(0,.ptr n 5 0)] hl (by simp[Za.upd];exact hf _ om) rfl hmb ⟨⟨hp _ _ dc,by simp[lkv,ren];exact .refl _⟩,trivial⟩ ⟨⟨trivial,rfl,rfl⟩,⟨⟨hth _,hm' _ _,.inr (.inr (.inl rfl)),hm _ _ dc,trivial⟩,rfl,rfl⟩,trivial⟩ ?_;simp only[go_sem,simprocAttr,Zd9,delb,Ze.Zci,ren,hne,false_and,if_false];refine Zby 3 l (b+4) _ [(0,.ptr n 5 0)] hl (by simp[Za.upd];exact hf _ om) rfl hmb ⟨⟨hp _ _ dc,by simp[lkv,ren];exact .refl _⟩,trivial⟩ ⟨⟨⟨hth _,hm' _ _,hm' _ _,.inr (.inr (.inl rfl)),trivial⟩,rfl,rfl⟩,trivial⟩ ?_;simp only[go_sem,simprocAttr,Zd9,delb,Ze.Zci,ren,hne,false_and,if_false];refine Zby 5 l b _ [(0,.ptr l b 0)] hl (by simp[Za.upd];exact hf _ om) rfl (Ze.Zz ⟨.sl _ _ _ (fun i h=>absurd h (Qm _)) (fun _ _ e=>by cases e),.map _ _ hl,.map _ _ hl,.map _ _ hl,trivial⟩) ⟨⟨.inr (.inl ⟨0,rfl⟩),by simp[lkv,ren];exact .refl _⟩,trivial⟩ trivial ?_;simp only[go_sem,simprocAttr,Zd9,delb,Ze.Zci,ren,hne,false_and,if_false];refine nV ?_;exact⟨by simp[XZ],[.ptr l b 0],⟨.refl _,trivial⟩,by simp only[Ql,forall_eq];exact .ptr _ _ _ hl,rfl,Zvr H l b hf⟩
section
variable {κ:Type} [DecidableEq κ]
def X7(k:κ)(x:Int)(es:List (κ×List Int)):List (κ×List Int):=match ZT k es 0 with
 |some j=>es.set j (k,Y2 k es++[x])
 |none=>es++[(k,[x])]
theorem ZdQ(enc:κ→AV)(l b:Nat):∀(es:List (κ×List Int)) (i:Nat),(ents enc l b i es).length=es.length
 |[],_=>rfl
 |p::r,i=>by simp only[ents,Qo,ZdQ enc l b r]
def ZeB(enc:κ→AV)(l b:Nat)(p:κ×List Int):∀(es:List (κ×List Int)) (i:Nat),ents enc l b i (es++[p])=ents enc l b i es++[(enc p.1,.sl 1 (intsOf p.2) (.buf l (b+2*(i+es.length))))]
 |[],i=>by simp[ents]
 |q::r,i=>by
  simp only[Q9,ents,ZeB enc l b p r (i+1),Qo];rw[show i+1+r.length=i+(r.length+1) by omega]
theorem Zdx(enc:κ→AV)(l b:Nat)(p:κ×List Int):∀(es:List (κ×List Int)) (i j:Nat),ents enc l b i (es.set j p)=(ents enc l b i es).set j (enc p.1,.sl 1 (intsOf p.2) (.buf l (b+2*(i+j))))
 |[],i,j=>rfl
 |q::r,i,0=>by simp[ents]
 |q::r,i,j+1=>by
  simp only[Mc,ents,Zdx enc l b p r (i+1) j];rw[show i+1+j=i+(j+1) by omega]
def Zjn{k:κ}{β:Type}:∀{es:List (κ×β)} {i j:Nat},ZT k es i=some j→ ∃h:j - i<es.length,(es[j - i]).1=k
 |[],_,_,h=>by cases h
 |p::r,i,j,h=>by
  simp only[ZT]at h;split at h
  ·rename_i e;cases h;exact⟨sm,by simpa using e⟩
  ·obtain⟨h1,h2⟩:=Zjn h;have h3:=(Ju h).1;have e:j - i=(j - (i+1))+1:=om;refine⟨by rw[e];simp only[Qo];omega,?_⟩;simp only[e,U0];exact h2
def ZbW{k:κ}{es:List (κ×List Int)}{j:Nat}(h:ZT k es 0=some j):∃hj:j<es.length,es[j]=(k,Y2 k es):=by
 obtain⟨h1,h2⟩:=Zjn h;refine⟨h1,?_⟩;have:Y2 k es=es[j].2:=by
  unfold Y2;rw[h];simp[Qb (show j<es.length from h1)]
 rw[this];exact QaV h2 rfl
def Bd(es:List (κ×List Int))(m:Nat):Prop:=∀p∈es,p.2.length≤m
def Bd.ix{k:κ}{es:List (κ×List Int)}{m:Nat}(h:Bd es m):(Y2 k es).length≤m:=by
 unfold Y2;cases hk:ZT k es 0 with
 |none=>simp
 |some j=>
  have hj:=Ju hk;have:j<es.length:=om;simp only[Qb this,Un,Uk];exact h _ (Qa this)
def Bd.add{k:κ}{x:Int}{es:List (κ×List Int)}{m:Nat}(h:Bd es m):Bd (X7 k x es) (m+1):=by
 intro p hp;unfold X7 at hp;split at hp
 ·rcases Qak hp with hp|rfl
  ·exact Qa6 (h p hp)
  ·have:=h.ix (k:=k);simp;exact this
 ·rcases Qg.1 hp with hp|hp
  ·exact Qa6 (h p hp)
  ·simp only[Ql]at hp;subst hp;simp
def Jw{n l b:Nat}(enc:κ→AV)(hl:l<n)(he:∀k,Below n (enc k)):∀(es:List (κ×List Int)) (i:Nat),∀p∈ents enc l b i es,Below n p.1∧Below n p.2
 |[],_,p,h=>by cases h
 |q::r,i,p,h=>by
  simp only[ents,Qk]at h;rcases h with rfl|h
  ·exact⟨he _,Y3 _ (fun _ _ e=>by cases e;exact hl)⟩
  ·exact Jw enc hl he r (i+1) p h
end
section
variable {n:Nat}
def Xo{es:List (AV×AV)}(h:∀p∈es,Below n p.1∧Below n p.2):Ze.Below n (.map es):=by
 refine⟨fun a ha=>?_,by simp[Ze.at_]⟩;rcases Qg.1 ha with ha|ha<;>obtain⟨p,hp,rfl⟩:=Qi.1 ha
 ·exact(h p hp).1
 ·exact(h p hp).2
def Wl(n e sz fr:Nat):Ze.Below n (.buf e sz fr):=⟨by simp[Ze.avs],by simp[Ze.at_]⟩
def Ak.blw(n:Nat)(k:Ak):Below n k.enc:=Xa (by simp only[Qk,QD,or_false,forall_eq_or_imp,forall_eq];exact⟨.str _,.int _ _,.int _ _,.str _⟩)
def Zhb(N:List (List UInt8×Int)):∀p∈N.map ZcT,Below n p.1∧Below n p.2:=fun p hp=>by
 obtain⟨q,_,rfl⟩:=Qi.1 hp;exact⟨.str _,.int _ _⟩
def ZgC{l b:Nat}(hl:l<n)(A:List Am):Ze.Below n (.box (ZP l b A)):=by
 refine Ze.Zz ⟨?_,.map _ _ hl,.map _ _ hl,.map _ _ hl,trivial⟩;unfold Yy;split
 ·exact .sl _ _ _ (fun i h=>absurd h (Qm _)) (fun _ _ e=>by cases e)
 ·exact YR (mB fun u=>u.blw n) (fun _ _ e=>by cases e;exact hl)
section
variable {H:Za} {l b:Nat} {s:Sto}
def ZdM(hf:YE H l b){k:Nat}(hk:b≤k):put H l b s l k=lkb (lst l b s) k:=by
 unfold put;rw[if_pos rfl,hf k hk,Option.or_none]
def Zrp(hf:YE H l b)(N:List (List UInt8×Int)):(put H l b s).upd l (b+2) (.map (N.map ZcT))=put H l b ⟨s.A,N,s.S,s.R⟩:=by
 funext l' k;unfold Za.upd put;by_cases hl:l'=l
 ·subst hl;simp only[true_and,if_true,Y6];by_cases h:k=b+2
  ·subst h;simp[ZcT]
  ·simp[h]
 ·simp[hl]
theorem Za0(H:Za)(l b:Nat)(s:Sto)(l' k:Nat):put H l b s l' k=if l'=l then(lkb (lst l b s) k).or (H l' k)else H l' k:=rfl
def ZjR(hf:YE H l b)(p:Sg×List Int)(m:Ze):
  (((put H l b s).upd l (b+3) m).upd l (b+5+2*s.S.length) (.buf 3 1 p.2.length)).upd l (b+3) (.map (ents Sg.enc l (b+5) 0 (s.S++[p])))=put H l b ⟨s.A,s.N,s.S++[p],s.R⟩:=by
 funext l' k;simp only[Za.upd,Za0];by_cases hl:l'=l
 ·subst hl;simp only[true_and,if_true,Y6];by_cases h:k=b+3
  ·subst h;simp
  ·simp only[h,if_false];by_cases h2:k=b+5+2*s.S.length
   ·subst h2;rw[if_pos rfl,if_neg om,if_neg om,if_neg om,if_neg om,if_pos om];have:(b+5+2*s.S.length - (b+5)) / 2=s.S.length:=om;rw[this];simp
   ·rw[if_neg h2];by_cases h3:b+5≤k∧(k - (b+5)) % 2=0
    ·rw[if_pos h3,if_pos h3];have:(k - (b+5)) / 2≠s.S.length:=om;have e:(s.S++[p])[(k - (b+5)) / 2]? =s.S[(k - (b+5)) / 2]?:=by
      rcases Qj ((k - (b+5)) / 2) s.S.length with h4|h4
      ·rw[Uw h4]
      ·rw[Ur (by simp;omega),Ur h4]
     rw[e]
    ·rw[if_neg h3,if_neg h3]
 ·simp[hl]
def Zjd(hf:YE H l b)(p:Sg×List Int)(j:Nat)(hj:j<s.S.length)(m:Ze):
  (((put H l b s).upd l (b+3) m).upd l (b+5+2*j) (.buf 3 1 p.2.length)).upd l (b+3) (.map (ents Sg.enc l (b+5) 0 (s.S.set j p)))=put H l b ⟨s.A,s.N,s.S.set j p,s.R⟩:=by
 funext l' k;simp only[Za.upd,Za0];by_cases hl:l'=l
 ·subst hl;simp only[true_and,if_true,Y6];by_cases h:k=b+3
  ·subst h;simp
  ·simp only[h,if_false];by_cases h2:k=b+5+2*j
   ·subst h2;rw[if_pos rfl,if_neg om,if_neg om,if_neg om,if_neg om,if_pos om];have:(b+5+2*j - (b+5)) / 2=j:=om;rw[this];simp[hj]
   ·rw[if_neg h2];by_cases h3:b+5≤k∧(k - (b+5)) % 2=0
    ·rw[if_pos h3,if_pos h3];rw[QaF om]
    ·rw[if_neg h3,if_neg h3]
 ·simp[hl]
def Zi3(hf:YE H l b)(p:Ak×List Int)(m:Ze):
  (((put H l b s).upd l (b+4) m).upd l (b+6+2*s.R.length) (.buf 3 1 p.2.length)).upd l (b+4) (.map (ents Ak.enc l (b+6) 0 (s.R++[p])))=put H l b ⟨s.A,s.N,s.S,s.R++[p]⟩:=by
 funext l' k;simp only[Za.upd,Za0];by_cases hl:l'=l
 ·subst hl;simp only[true_and,if_true,Y6];by_cases h:k=b+4
  ·subst h;simp
  ·simp only[h,if_false];by_cases h2:k=b+6+2*s.R.length
   ·subst h2;rw[if_pos rfl,if_neg om,if_neg om,if_neg om,if_neg om,if_neg om,if_pos om];have:(b+6+2*s.R.length - (b+6)) / 2=s.R.length:=om;rw[this];simp
   ·rw[if_neg h2];by_cases h3:b+6≤k∧(k - (b+6)) % 2=0
    ·rw[if_pos h3,if_pos h3];have:(k - (b+6)) / 2≠s.R.length:=om;have e:(s.R++[p])[(k - (b+6)) / 2]? =s.R[(k - (b+6)) / 2]?:=by
      rcases Qj ((k - (b+6)) / 2) s.R.length with h4|h4
      ·rw[Uw h4]
      ·rw[Ur (by simp;omega),Ur h4]
     rw[e]
    ·rw[if_neg h3,if_neg h3]
 ·simp[hl]
def Zkt(hf:YE H l b)(p:Ak×List Int)(j:Nat)(hj:j<s.R.length)(m:Ze):
  (((put H l b s).upd l (b+4) m).upd l (b+6+2*j) (.buf 3 1 p.2.length)).upd l (b+4) (.map (ents Ak.enc l (b+6) 0 (s.R.set j p)))=put H l b ⟨s.A,s.N,s.S,s.R.set j p⟩:=by
 funext l' k;simp only[Za.upd,Za0];by_cases hl:l'=l
 ·subst hl;simp only[true_and,if_true,Y6];by_cases h:k=b+4
  ·subst h;simp
  ·simp only[h,if_false];by_cases h2:k=b+6+2*j
   ·subst h2;rw[if_pos rfl,if_neg om,if_neg om,if_neg om,if_neg om,if_neg om,if_pos om];have:(b+6+2*j - (b+6)) / 2=j:=om;rw[this];simp[hj]
   ·rw[if_neg h2];by_cases h3:b+6≤k∧(k - (b+6)) % 2=0
    ·rw[if_pos h3,if_pos h3];rw[QaF om]
    ·rw[if_neg h3,if_neg h3]
 ·simp[hl]
def ZnC(hf:YE H l b)(a:Am):
  ((put H l b s).upd l (b+1) (.buf 52 2 (s.A.length+1))).upd l b (.box (ZP l b (s.A++[a])))=put H l b ⟨s.A++[a],s.N,s.S,s.R⟩:=by
 funext l' k;simp only[Za.upd,Za0];by_cases hl:l'=l
 ·subst hl;simp only[true_and,if_true,Y6];by_cases h:k=b
  ·subst h;simp
  ·simp only[h,if_false];by_cases h2:k=b+1
   ·subst h2;rw[if_pos rfl,if_neg om,if_neg om,if_neg om,if_pos rfl,if_neg sm];simp
   ·simp only[if_neg h2]
 ·simp[hl]
end
end
end Go.Proofs.YtmdeagmbfhbbnaaGreatDoorR
