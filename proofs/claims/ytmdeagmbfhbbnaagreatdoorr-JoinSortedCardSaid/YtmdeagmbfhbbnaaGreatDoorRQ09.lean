/- The store's Add. -/
import Derived.Test.YtmdeagmbfhbbnaaGreatDoorRQ08
import Derived.Test.YtmdeagmbfhbbnaaGreatDoorRQ07
import Derived.Test.YtmdeagmbfhbbnaaGreatDoorRQ05
import Derived.Test.YtmdeagmbfhbbnaaGreatDoorRQ03
set_option linter.all false
namespace Go.Proofs.YtmdeagmbfhbbnaaGreatDoorR
open Go.Abs
set_option maxRecDepth 100000
def Wi(a:Am):List Ak:=a.args.zipIdx.map fun p=>⟨a.sg,p.2,txt p.1⟩
def ZbT(s:Sto)(a:Am):Sto:=⟨s.A++[a],s.N++[(JZ a,(s.A.length:Int))],X7 a.sg s.A.length s.S,(Wi a).foldl (fun R k=>X7 k (s.A.length:Int) R) s.R⟩
def WR(s:Sto)(a:Am):Sto×Bool×Int:=
 if Yv a=false then(s,false,2)else if(ZU (JZ a) s.N 0).isSome=true then(s,false,0)else if s.A.length=2000 then(s,false,5)else(ZbT s a,true,0)
structure Fit (s:Sto):Prop where
 A:s.A.length≤2000
 S:Bd s.S 100000
 R:Bd s.R 100000
 g:JO s.A
section
variable {κ:Type}
theorem Zgo [DecidableEq κ](enc:κ→AV)(hi:∀a b,(enc a).kls=(enc b).kls→a=b)(k:κ)(l b:Nat)(es:List (κ×List Int)):Xz (enc k) (ents enc l b 0 es)=ZU k es 0:=Zbc enc hi k l b es 0 0
theorem Zlx{β:Type} [DecidableEq κ]{k:κ}{es:List (κ×β)}(h:(ZU k es 0).isSome=false):ZU k es 0=none:=by
 cases hk:ZU k es 0 with
 |none=>rfl
 |some j=>rw[hk]at h;cases h
def op9:Opt:=⟨true,true,fun _=>.auto,[7]⟩
def op15:Opt:=⟨true,true,fun d=>if d=68 then .heap else .auto,[10]⟩
def opS(l q:Nat)(nw:Bool):Opt:=⟨true,false,fun d=>if d=55 then(if nw then .place l q false else .heap)else .auto,[]⟩
def opR(l q:Nat)(nw:Bool):Opt:=⟨true,false,fun d=>if d=79 then(if nw then .place l q false else .heap)else .auto,[]⟩
def opA(l q:Nat)(nw:Bool):Opt:=⟨true,false,fun d=>if d=91 then(if nw then .place l q false else .heap)else .auto,[]⟩
def Rat(s:Sto)(a:Am)(i:Nat):List (Ak×List Int):=((Wi a).take i).foldl (fun R k=>X7 k (s.A.length:Int) R) s.R
def ZtY(n l b:Nat)(s:Sto)(a:Am)(H:Za)(i:Nat):Zb:=
 ⟨[(60,.int .i64 i),(58,.sl 4 (a.args.map Tm.enc) .any),(59,.int .i64 a.args.length),(0,.ptr l b 0),(3,.ptr n 3 0),(6,.int .i64 s.A.length),(7,.ptr n 7 0)],[(3,.box a.cs),(7,.box a.sg.cs)],
  put H l b ⟨s.A,s.N,s.S,Rat s a i⟩⟩
variable {l b:Nat} {H:Za}
theorem ZoY{s:Sto}{k:Nat}(h:k<b):put H l b s l k=H l k:=by
 rw[Za8,if_pos rfl,Y6,if_neg om,if_neg om,if_neg om,if_neg om,if_neg om,if_neg om,if_neg om];rfl
theorem Zd4{s:Sto}{l' k:Nat}(h:l'≠l):put H l b s l' k=H l' k:=by
 rw[Za8,if_neg h]
theorem Tabs.put{H:Za}{l b:Nat}(hT:Tabs H)(hf:YF H l b)(s:Sto):Tabs (Go.Abs.put H l b s):=by
 have key:∀k x,H 0 k=some x→Go.Abs.put H l b s 0 k=H 0 k:=fun k x hx=>by
  by_cases h:0=l
  ·subst h;refine ZoY ?_;rcases Qg k b with h1|h1
   ·exact h1
   ·rw[hf k h1]at hx;cases hx
  ·exact Zd4 h
 obtain⟨m,t,t',h1,h2⟩:=hT;exact⟨m,t,t',by rw[key _ _ h1];exact h1,by rw[key _ _ h2];exact h2⟩
variable {j:Nat}
theorem Zmi [DecidableEq κ](enc:κ→AV)(hi:∀a b,(enc a).kls=(enc b).kls→a=b)(k:κ)(l b:Nat)(es:List (κ×List Int))(re:Zv)(h:ZU k es 0=some j):
  Ze6 re (enc k) (ents enc l b 0 es)=(.tup [.sl 1 (intsOf (Y3 k es)) (.buf l (b+2*j)),.int .i64 j],ents enc l b 0 es):=by
 obtain⟨hj,he⟩:=Zce h;have h1:=Js enc l b es 0 j hj (.dead,.dead);rw[he,QF]at h1;unfold Ze6;rw[Zgo enc hi,h];simp only[h1];refine Qa9 rfl ?_;have h2:=Zc2 enc l b es[j] es 0 j;rw[Qbi,he,QF]at h2;exact h2.symm
theorem Zmj [DecidableEq κ](enc:κ→AV)(hi:∀a b,(enc a).kls=(enc b).kls→a=b)(k:κ)(l b:Nat)(es:List (κ×List Int))(re:Zv)(h:ZU k es 0=none):
  Ze6 re (enc k) (ents enc l b 0 es)=(.tup [XI re,.int .i64 es.length],ents enc l b 0 es++[(enc k,XI re)]):=by
 unfold Ze6;rw[Zgo enc hi,h,Zd2]
theorem Zht{α:Type}(es:List α)(m:Nat)(h:es.length=m)(x d:α):(es++[x]).getD m d=x:=by
 subst h;rw[Qp];simp
theorem Zjn{α:Type}(es:List α)(m:Nat)(h:es.length=m)(x q:α):(es++[x]).set m q=es++[q]:=by
 subst h;simp
theorem Zhl [DecidableEq κ](enc:κ→AV)(l b:Nat)(es:List (κ×List Int))(k:κ)(x:Int):ents enc l b 0 es++[(enc k,.sl 1 [.int .i64 x] (.buf l (b+2*es.length)))]=ents enc l b 0 (es++[(k,[x])]):=by
 rw[ZeK,QF];rfl
def Q23(n:Nat)(H':Za):Exit→Zb→Prop:=PostF Tryz.prog tt n Tryz.f20.results.toList fun r G=>r=AV.tup [AV.bool true,eInt 0]∧G=H'
theorem Zpx(s:Sto)(hf:YF H l b)(X:Ze):((put H l b s).upd l (b+3) X) l (b+5+2*s.S.length)=none:=by
 rw[Za.upd_ne _ _ om,Zdv hf om,Y6,if_neg om,if_neg om,if_neg om,if_neg om,if_neg om,if_pos om];have:(b+5+2*s.S.length - (b+5)) / 2=s.S.length:=by omega
 rw[this];simp
theorem ZpV(s:Sto)(hf:YF H l b)(X:Ze):((put H l b s).upd l (b+4) X) l (b+6+2*s.R.length)=none:=by
 rw[Za.upd_ne _ _ om,Zdv hf om,Y6,if_neg om,if_neg om,if_neg om,if_neg om,if_neg om,if_neg om,if_pos om];have:(b+6+2*s.R.length - (b+6)) / 2=s.R.length:=by omega
 rw[this];simp
theorem Zq0(s:Sto)(hj:j<s.S.length)(X:Ze):((put H l b s).upd l (b+3) X) l (b+5+2*j)=some (.buf 3 1 s.S[j].2.length):=by
 rw[Za.upd_ne _ _ om];refine Yf.put H l b s _ _ ?_;rw[Y6,if_neg om,if_neg om,if_neg om,if_neg om,if_neg om,if_pos om];have:(b+5+2*j - (b+5)) / 2=j:=by omega
 rw[this,Qd hj];rfl
theorem Zql(s:Sto)(hj:j<s.R.length)(X:Ze):((put H l b s).upd l (b+4) X) l (b+6+2*j)=some (.buf 3 1 s.R[j].2.length):=by
 rw[Za.upd_ne _ _ om];refine Yf.put H l b s _ _ ?_;rw[Y6,if_neg om,if_neg om,if_neg om,if_neg om,if_neg om,if_neg om,if_pos om];have:(b+6+2*j - (b+6)) / 2=j:=by omega
 rw[this,Qd hj];rfl
theorem Zct(p:List Int)(x:Int):intsOf p++[.int .i64 x]=intsOf (p++[x]):=by simp[intsOf]
theorem ZfP(p:List Int):(intsOf p).length=p.length:=by simp[intsOf]
theorem Zvy(n:Nat)(H:Za)(l b:Nat)(s:Sto)(a:Am)(hl:l<n)(hf:YF H l b)(hA2:s.A.length≤2000)(ha:a.Good)(hn:0<n)(hT0:Tabs H)(B:Base)(tm:List (Nat×AV))(h0:lkv tm 0= .ptr l b 0)(h3:lkv tm 3= .ptr n 3 0)(L:List (Nat×Ze))(hL:lkb L 3=some (.box a.cs)):
  AKc ⟨Tryz.prog,tt,⟨none,B⟩,n,Tryz.f20.ntmps⟩ [.code (ZQ Tryz.f20).snd.snd.snd.snd.snd.snd] (Q23 n (put H l b ⟨s.A++[a],s.N,s.S,s.R⟩)) ⟨tm,L,put H l b s⟩:=by
 have hne:¬l=n:=by omega
 have hst:=Yf.put H l b s;have hb:=hst.box;have hT:=hT0.put hf s;have hab:=ZnB (s:=s) hf a;unfold Q23;by_cases hA:s.A=[]
 ·have hq:put H l b s l (b+1)=none:=by rw[Zdv hf om,Y6,if_neg om,if_neg om,if_neg om,if_neg om,if_pos rfl,if_pos hA]
  have hq':∀Y,((put H l b s).upd l (b+1) Y) l b=(put H l b s) l b:=fun Y=>Za.upd_ne _ _ om
  generalize put H l b s=G at*;refine kK ?_;refine Zan tok mixed (opA l (b+1) true) rfl rfl (by kernel_rfl) (by kernel_rfl) ?_;simp only[go_sem,simprocAttr,opA,Uz,Nat.reduceBEq,U0,U5,Nat.reduceEqDiff,hne,hb,h0,h3,hL,ZR,Yz,hA];refine cT (a59 a ha) ?_;simp only[go_sem,simprocAttr,opA,Uz,Nat.reduceBEq,U0,U5,Nat.reduceEqDiff,hne,hb,h0,h3,hL,ZR,Yz,hA,hq,hq'];refine⟨dc,⟨om,Zn om⟩,.inr (Wj _ _ _ _),.inr ?_,?_⟩
  ·refine Ze.ZB ⟨YT (fun x hx=>?_) (fun _ _ e=>by cases e;exact hl),.map _ _ hl,.map _ _ hl,.map _ _ hl,trivial⟩;simp only[Ql]at hx;subst hx;exact a.blw n
  have hab':(G.upd l (b+1) (.buf 52 2 1)).upd l b (.box [.sl 2 [a.enc] (.buf l (b+1)),.map l (b+2),.map l (b+3),.map l (b+4)])=put H l b ⟨s.A++[a],s.N,s.S,s.R⟩:=by
   rw[←hab,hA];rfl
  rw[hab',hA];refine nR ?_;refine nV ?_;exact ZG (.refl _) (.refl _) (.bool _) (.int _ _) rfl
 ·have hq:put H l b s l (b+1)=some (.buf 52 2 s.A.length):=Yf.put H l b s _ _ (by rw[Y6,if_neg om,if_neg om,if_neg om,if_neg om,if_pos rfl,if_neg hA]);have hq':∀Y,((put H l b s).upd l (b+1) Y) l b=(put H l b s) l b:=fun Y=>Za.upd_ne _ _ om
  generalize put H l b s=G at*;refine kK ?_;refine Zan tok mixed (opA l (b+1) false) rfl rfl (by kernel_rfl) (by kernel_rfl) ?_;simp only[go_sem,simprocAttr,opA,Uz,Nat.reduceBEq,U0,U5,Nat.reduceEqDiff,hne,hb,h0,h3,hL,ZR,Yz,hA];refine cT (a59 a ha) ?_;simp only[go_sem,simprocAttr,opA,Uz,Nat.reduceBEq,U0,U5,Nat.reduceEqDiff,hne,hb,h0,h3,hL,ZR,Yz,hA,hq,hq'];refine⟨dc,⟨Zn om,om⟩,.inr (Wj _ _ _ _),.inr ?_,?_⟩
  ·refine Ze.ZB ⟨YT (fun x hx=>?_) (fun _ _ e=>by cases e;exact hl),.map _ _ hl,.map _ _ hl,.map _ _ hl,trivial⟩;rcases Qj.1 hx with hx|hx
   ·obtain⟨u,_,rfl⟩:=Qb.1 hx;exact u.blw n
   ·simp only[Ql]at hx;subst hx;exact a.blw n
  have hab':(G.upd l (b+1) (.buf 52 2 (s.A.length+1))).upd l b (.box [.sl 2 (s.A.map Am.enc++[a.enc]) (.buf l (b+1)),.map l (b+2),.map l (b+3),.map l (b+4)])=put H l b ⟨s.A++[a],s.N,s.S,s.R⟩:=by
   rw[←hab];simp[ZR,Yz]
  rw[hab'];refine nR ?_;refine nV ?_;exact ZG (.refl _) (.refl _) (.bool _) (.int _ _) rfl
theorem Zgl{a:Am}{t:Tm}(h:Yv a=true)(ht:t∈a.args):Zu t=true:=by
 simp only[Yv,Qi,QA]at h;exact h.2 t ht
theorem Zk3{a:Am}(h:Yv a=true):a.args.length≤8:=by
 simp only[Yv,Qi,decide_eq_true_eq]at h;omega
theorem Zk4{s:Sto}{a:Am}{m:Nat}(h:Bd s.R m):∀i,Bd (Rat s a i) (m+i)
 |0=>by rw[Rat,Qas,Qbp];exact h
 |i+1=>by
  rcases Qg i (Wi a).length with hi|hi
  ·rw[Rat,Zgi _ _ _ _ hi];exact(Zk4 h i).add
  ·have:=Zk4 (a:=a) h i;rw[Rat,Q5 om];rw[Rat,Q5 hi]at this;exact fun p hp=>Qa0 (this p hp)
theorem Zaf(a:Am):(Wi a).length=a.args.length:=by simp[Wi]
theorem Zl2(a:Am)(i:Nat)(h:i<a.args.length):(Wi a)[i]'(by rw[Zaf];exact h)=⟨a.sg,i,txt a.args[i]⟩:=by simp[Wi]
theorem Zpo(p:List UInt8)(m c:Int)(t:List UInt8):YE tt 116 (.agg [.str p,.int .i64 m,.int .i64 c,.str t])=true:=Zj9 p m c t
theorem ZuU(n:Nat)(H:Za)(l b:Nat)(s:Sto)(a:Am)(hl:l<n)(hf:YF H l b)(hA2:s.A.length≤2000)(hR:Bd s.R 100000)(ha:a.Good)(hva:Yv a=true)(hn:0<n)(hT0:Tabs H)(B:Base):
  AKc ⟨Tryz.prog,tt,⟨none,B⟩,n,Tryz.f20.ntmps⟩ [.code (ZQ Tryz.f20).snd.snd.snd.snd.snd] (Q23 n (put H l b ⟨s.A++[a],s.N,s.S,Rat s a a.args.length⟩))
   ⟨[(0,.ptr l b 0),(3,.ptr n 3 0),(6,.int .i64 s.A.length),(7,.ptr n 7 0)],[(3,.box a.cs),(7,.box a.sg.cs)],put H l b s⟩:=by
 have hne:¬l=n:=by omega
 have hlen:=ha.len;obtain⟨Q,hQ⟩:∃Q,Q=Q23 n (put H l b ⟨s.A++[a],s.N,s.S,Rat s a a.args.length⟩):=⟨_,rfl⟩
 rw[←hQ];have hR0:s=⟨s.A,s.N,s.S,Rat s a 0⟩:=rfl;refine ZbZ rfl ?_;refine VU (ZtY n l b s a H a.args.length) ?_ ?_
 ·refine nR ?_;refine kK ?_;refine Zr (ZtY n l b s a H) a.args.length rfl ?_ ?_
  ·exact KK
  intro i hi;refine Ya rfl ?_;rcases Qg i a.args.length with h|h
  ·refine nq h ?_;refine nT ?_;refine nr ?_;simp only[go_sem,simprocAttr,Tm.Zp _ _ h,h];refine kK ?_;have hst:=Yf.put H l b ⟨s.A,s.N,s.S,Rat s a i⟩;have hb:=hst.box;have harg:=hst.arg;have hT:=hT0.put hf ⟨s.A,s.N,s.S,Rat s a i⟩;have hRi:=Zk4 (a:=a) hR i;simp only at harg;have hva':Zu a.args[i]=true:=Zgl hva (Qa h);have hrat:Rat s a (i+1)=X7 ⟨a.sg,i,txt a.args[i]⟩ s.A.length (Rat s a i):=by
    rw[Rat,Zgi _ _ _ _ (by rw[Zaf];exact h),Zl2 a i h];rfl
   refine Zan tok mixed op15 rfl rfl (by kernel_rfl) (by kernel_rfl) ?_;simp only[go_sem,simprocAttr,op15,Uz,Nat.reduceBEq,U0,U5,Nat.reduceEqDiff,hne];refine ZbR (Zf Tryz.func68 rfl rfl) (fun G hG=>a58 _ (ha.arg (Qa h)) hva' _ _ (QW _) (hT.up (fun k=>?_))) sS ?_
   ·rw[hG 0 k (fun e=>absurd e (Qat hn))];exact Zj hn _ _ _
   simp only[go_sem,simprocAttr,op15,Uz,Nat.reduceBEq,U0,U5,Nat.reduceEqDiff,hne];have hbox2:∃c0,ZR l b s.A=[c0,.map l (b+2),.map l (b+3),.map l (b+4)]:=⟨_,rfl⟩
   obtain⟨c0,hbc⟩:=hbox2;simp only[hbc]at hb;obtain⟨k,hkk0⟩:∃k:Ak,k=⟨a.sg,i,txt a.args[i]⟩:=⟨_,rfl⟩
   have hke:k.enc= .agg [.str a.sg.p,.int .i64 a.sg.n,.int .i64 i,.str (txt a.args[i])]:=by rw[hkk0];rfl
   rw[←hkk0]at hrat;generalize hRR:Rat s a i=R at*;have hkk:∀p,p∈ents Ak.enc l (b+6) 0 R→YE tt 116 p.1=true:=fun p hp=>by
    obtain⟨k,hk⟩:=ZbF _ _ _ _ _ _ hp;rw[hk];exact Zj9 _ _ _ _
   have hbe:=JC (b:=b+6) Ak.enc hl (Ak.blw n) R 0;have hel:=Zd2 Ak.enc l (b+6) R 0;have hq3:∀G:Za,∀X,(G.upd l (b+4) X) l (b+4)=some X:=fun G X=>Za.upd_same _ _ _ _
   have hq':∀(G:Za) (X Y) (j:Nat),((G.upd l (b+4) X).upd l (b+6+2*j) Y) l (b+4)=some X:=fun G X Y j=>by
    rw[Za.upd_ne _ _ om,Za.upd_same]
   cases hk:ZU k R 0 with
   |none=>
    have hent:=fun re=>Zmj Ak.enc Zk9 k l (b+6) R re hk
    have hsn:=Zhl Ak.enc l (b+6) R k s.A.length;have hfr:=fun X=>ZpV ⟨s.A,s.N,s.S,R⟩ hf (l:=l) X
    have hnew:=ZkG (s:=⟨s.A,s.N,s.S,R⟩) hf (k,[(s.A.length:Int)]);have hadd:X7 k (s.A.length:Int) R=R++[(k,[(s.A.length:Int)])]:=by rw[X7,hk]
    have hgl:=fun x d=>Zht (α:=AV×AV) _ _ hel x d
    have hsl:=fun x q=>Zjn (α:=AV×AV) _ _ hel x q
    have hbk:=Ak.blw n k;simp only[hke]at hent hsn hbk;simp only at hfr hnew;generalize ents Ak.enc l (b+6) 0 R=es at*;generalize put H l b ⟨s.A,s.N,s.S,R⟩=G at*;refine kK ?_;refine Zan tok mixed (opR l (b+6+2*R.length) true) rfl rfl (by kernel_rfl) (by kernel_rfl) ?_;simp only[go_sem,simprocAttr,opR,Uz,Nat.reduceBEq,U0,U5,Nat.reduceEqDiff,hne,hb,harg,hent,hfr,hq',hq3,XI,hel,Zpo,hgl,hsl];refine⟨dc,fun p hp=>hkk p hp,.inr (Xo fun p hp=>?_),⟨om,Zn om⟩,.inr (Wj _ _ _ _),by simp[hel],.inr (Xo fun p hp=>?_),?_⟩
    ·rcases Qj.1 hp with hp|hp
     ·exact hbe p hp
     ·simp only[Ql]at hp;subst hp;exact⟨hbk,.sl _ _ _ (fun i h=>absurd h (Qm _)) (fun _ _ e=>by cases e)⟩
    ·rcases Qj.1 hp with hp|hp
     ·exact hbe p hp
     ·simp only[Ql]at hp;subst hp;exact⟨hbk,Y8 [(s.A.length:Int)] (fun _ _ e=>by cases e;exact hl)⟩
    rw[hsn];have hnew':=hnew (.map (es++[(AV.agg [AV.str a.sg.p,AV.int .i64 a.sg.n,AV.int .i64 i,AV.str (txt a.args[i])],AV.sl 1 [] .full)]));simp only[Qo,QB,QF]at hnew';rw[hnew',←hadd,←hrat];refine nR ?_;refine nN ?_;refine Zh ?_ ?_ ?_ ?_<;>repeat' first|apply q0|exact xx|apply aI
    all_goals first|exact Inside.ptr _ _ _ (.inl hl)|skip
    refine aS ?_;rw[iw];exact .refl _
   |some j=>
    obtain⟨hj,hje⟩:=Zce hk;have hent:=fun re=>Zmi Ak.enc Zk9 k l (b+6) R re hk
    have hgd:=Js Ak.enc l (b+6) R 0 j hj (.dead,.dead);have hold:=fun X=>Zql (l:=l) (b:=b) (H:=H) ⟨s.A,s.N,s.S,R⟩ (j:=j) hj X
    have hixb:=hRi.ix (k:=k);have hadd:X7 k (s.A.length:Int) R=R.set j (k,Y3 k R++[(s.A.length:Int)]):=by rw[X7,hk]
    have hset:=Zc2 Ak.enc l (b+6) (k,Y3 k R++[(s.A.length:Int)]) R 0 j;have hnew:=ZjV (s:=⟨s.A,s.N,s.S,R⟩) hf (k,Y3 k R++[(s.A.length:Int)]) j hj;simp only[hje,QF]at hold hgd hset;have hbk:=Ak.blw n k;simp only[hke]at hent hgd hset hbk;simp only[Qh,Qo,QB,QF]at hnew;have hsetb:∀p∈(ents Ak.enc l (b+6) 0 R).set j (AV.agg [AV.str a.sg.p,AV.int .i64 a.sg.n,AV.int .i64 i,AV.str (txt a.args[i])],.sl 1 (intsOf (Y3 k R++[(s.A.length:Int)])) (.buf l (b+6+2*j))),Below n p.1∧Below n p.2:=fun p hp=>by
     rcases Qai hp with hp|rfl
     ·exact hbe p hp
     ·exact⟨hbk,Y8 _ (fun _ _ e=>by cases e;exact hl)⟩
    generalize Y3 k R=ix at*;generalize ents Ak.enc l (b+6) 0 R=es at*;generalize put H l b ⟨s.A,s.N,s.S,R⟩=G at*;refine kK ?_;refine Zan tok mixed (opR 0 0 false) rfl rfl (by kernel_rfl) (by kernel_rfl) ?_;simp only[go_sem,simprocAttr,opR,Uz,Nat.reduceBEq,U0,U5,Nat.reduceEqDiff,hne,hb,harg,hent,hold,hq',hq3,XI,hel,Zpo,hgd,ZfP,Zct];refine⟨dc,fun p hp=>hkk p hp,.inr (Xo hbe),⟨Zn om,om⟩,.inr (Wj _ _ _ _),om,.inr (Xo hsetb),?_⟩;rw[←hset,hnew,←hadd,←hrat];refine nR ?_;refine nN ?_;refine Zh ?_ ?_ ?_ ?_<;>repeat' first|apply q0|exact xx|apply aI
    all_goals first|exact Inside.ptr _ _ _ (.inl hl)|skip
    refine aS ?_;rw[iw];exact .refl _
  ·refine nq (QE.2 h) ?_;refine nF ?_;refine nX ?_;refine nN ?_;refine⟨rfl,?_⟩;have hi':i=a.args.length:=by omega
   subst hi';exact KK
 ·rw[hQ];exact Zvy n H l b ⟨s.A,s.N,s.S,Rat s a a.args.length⟩ a hl hf hA2 ha hn hT0 B _ rfl rfl _ rfl
theorem a23(n:Nat)(H:Za)(l b:Nat)(s:Sto)(a:Am)(hl:l<n)(hf:YF H l b)(hs:Fit s)(ha:a.Good)(hn:0<n)(hT:Tabs H):
  Zi Tryz.prog n 20 [.ptr l b 0,a.enc] (put H l b s) (fun r H'=>r= .tup [.bool (WR s a).2.1,eInt (WR s a).2.2]∧H'=put H l b (WR s a).1):=by
 have hne:¬l=n:=by omega
 have hne':¬n=l:=by omega
 have hst:=Yf.put H l b s;have hb:=hst.box;have hTp:=hT.put hf s;have hkk:∀p,p∈s.N.map ZcF→YE tt 9 p.1=true:=fun p hp=>by
  obtain⟨q,_,rfl⟩:=Qb.1 hp;exact Zex _
 obtain⟨G,hG⟩:∃G,G=put H l b s:=⟨_,rfl⟩
 rw[←hG]at hst hb hTp⊢;have hT0:=hT
 replace hT:=hTp
 refine aF Tryz.func20 fun B=>?_
 refine nR ?_;refine nR ?_;refine cQ (a55 (n+1) _ l b s om (hst.full hl _)) ?_;refine aS ?_;refine nF ?_;refine nR ?_;refine cT (a14 a ha) ?_;cases h1:Yv a with
 |false=>
  refine VK rfl rfl (by simp only[go_sem,simprocAttr,h1]) ?_;refine nR ?_;refine nV ?_;have e:WR s a=(s,false,2):=by simp[WR,h1]
  rw[e];exact ZG (.refl _) (.refl _) (.bool _) (.int _ _) hG
 |true=>
 refine VB rfl rfl (by simp only[go_sem,simprocAttr,h1]) ?_;refine nR ?_;refine cQ (a26 (n+1) _ l b s a om (hst.full hl _) ha om (hT.full hn)) ?_;cases h2:(ZU (JZ a) s.N 0).isSome with
 |true=>
  refine aq2 h1 h2 ?_;refine nT ?_;refine nR ?_;refine nV ?_;have e:WR s a=(s,false,0):=by simp[WR,h1,h2]
  rw[e];exact ZG (.refl _) (.refl _) (.bool _) (.int _ _) hG
 |false=>
 refine aq2 h1 h2 ?_;refine nF ?_;have hlen:(if s.A=[]then(AV.sl 2 [] .full)else .sl 2 (s.A.map Am.enc) (.buf l (b+1)))=Yz l b s.A:=rfl;have hk2:=Zlx h2;cases h3:((s.A.length:Int)==2000)with
 |true=>
  by_cases hA:s.A=[]
  ·rw[hA]at h3;cases h3
  refine nr ?_;simp only[go_sem,simprocAttr,hne,hb,ZR,Yz,hA,h3];refine nT ?_;refine nR ?_;refine nV ?_;have e:WR s a=(s,false,5):=by simp[WR,h1,h2,nat_eq h3]
  rw[e];exact ZG (.refl _) (.refl _) (.bool _) (.int _ _) hG
 |false=>
 have e:WR s a=(ZbT s a,true,0):=by simp[WR,h1,h2,nat_ne h3]
 rw[e]
 have hbox2:∃xs o,ZR l b s.A=[.sl 2 xs o,.map l (b+2),.map l (b+3),.map l (b+4)]∧xs.length=s.A.length:=by
  by_cases hA:s.A=[]
  ·exact⟨[],.full,by simp[ZR,Yz,hA],by simp[hA]⟩
  ·exact⟨s.A.map Am.enc,.buf l (b+1),by simp[ZR,Yz,hA],sm⟩
 obtain⟨xs,ow,hbc,hxl⟩:=hbox2;rw[hbc]at hb;refine nr ?_;simp only[go_sem,simprocAttr,hne,hb,hxl,h3];refine nF ?_;repeat refine kn rfl ?_
 refine Zan tok mixed op9 rfl rfl (by kernel_rfl) (by kernel_rfl) ?_;simp only[go_sem,simprocAttr,op9,Uz,Nat.reduceBEq,U0,U5,Nat.reduceEqDiff,hne,hb,hxl];refine Zgs (Zf Tryz.func66 rfl rfl) (a56 a) sS ?_;simp only[go_sem,simprocAttr,op9,Uz,Nat.reduceBEq,U0,U5,Nat.reduceEqDiff,hne,hb,hxl];refine nD drawO ?_;simp only[go_sem,simprocAttr,hne,hb,hxl];refine cT (a57 a ha h1) ?_;have hnum:=hst.num;change G l (b+2)=some (Ze.map (s.N.map ZcF))at hnum;simp only[go_sem,simprocAttr,hne,hb,hnum];refine⟨fun p hp=>hkk p hp,?_⟩;have hput:ZaH (AV.str (JZ a)) (AV.int IntKind.i64 s.A.length) (s.N.map ZcF)=(s.N++[(JZ a,(s.A.length:Int))]).map ZcF:=by
  have:Xz (AV.str (JZ a)) (s.N.map ZcF)=none:=(Zd5 AV.str ZmA (JZ a) ZcF (fun _=>rfl) s.N 0).trans hk2;unfold ZaH;rw[this];simp[ZcF]
 rw[hput];refine⟨.inr (Xo (ZhE _)),?_⟩;rw[hG,Zq5 hf]
 obtain⟨N1,hN1⟩:∃N1,N1=s.N++[(JZ a,(s.A.length:Int))]:=⟨_,rfl⟩
 rw[←hN1];clear hst hb hT hkk hnum hput hG hTp;obtain⟨G1,hG1⟩:∃G1,G1=put H l b ⟨s.A,N1,s.S,s.R⟩:=⟨_,rfl⟩
 have hT:=hT0.put hf ⟨s.A,N1,s.S,s.R⟩;have hst:=Yf.put H l b ⟨s.A,N1,s.S,s.R⟩;rw[←hG1]at hT hst⊢;have hb:=hst.box;have hsig:=hst.sig;simp only at hb hsig;rw[hbc]at hb;have hq3:∀X,(G1.upd l (b+3) X) l (b+3)=some X:=fun X=>Za.upd_same _ _ _ _
 have hS1:=ZuU n H l b ⟨s.A,N1,X7 a.sg s.A.length s.S,s.R⟩ a hl hf hs.A hs.R ha h1 hn hT0 B;have hfin:(⟨s.A++[a],N1,X7 a.sg s.A.length s.S,Rat ⟨s.A,N1,X7 a.sg s.A.length s.S,s.R⟩ a a.args.length⟩:Sto)=ZbT s a:=by
  rw[ZbT,Rat,Q5 (by rw[Zaf];exact Qe _),hN1]
 simp only at hS1;rw[hfin]at hS1;have hkk:∀p,p∈ents Sg.enc l (b+5) 0 s.S→YE tt 110 p.1=true:=fun p hp=>by
  obtain⟨k,hk⟩:=ZbF _ _ _ _ _ _ hp;rw[hk];exact Zl7 _ _
 have hbe:=JC (b:=b+5) Sg.enc hl (Sg.blw n) s.S 0;have hel:=Zd2 Sg.enc l (b+5) s.S 0;have hq3:∀G:Za,∀X,(G.upd l (b+3) X) l (b+3)=some X:=fun G X=>Za.upd_same _ _ _ _
 have hq':∀(G:Za) (X Y) (j:Nat),((G.upd l (b+3) X).upd l (b+5+2*j) Y) l (b+3)=some X:=fun G X Y j=>by
  rw[Za.upd_ne _ _ om,Za.upd_same]
 have hA2:=hs.A;have hSb:=hs.S;obtain⟨k,hk0⟩:∃k:Sg,k=a.sg:=⟨_,rfl⟩
 have hke:k.enc= .agg [.str a.sg.p,.int .i64 a.sg.n]:=by rw[hk0];rfl
 rw[←hk0]at hS1;have hbk:=Sg.blw n k;rw[hke]at hbk;cases hk:ZU k s.S 0 with
 |none=>
  have hent:=fun re=>Zmj Sg.enc Zl5 k l (b+5) s.S re hk
  have hsn:=Zhl Sg.enc l (b+5) s.S k s.A.length;have hfr:=fun X=>Zpx ⟨s.A,N1,s.S,s.R⟩ hf (l:=l) X
  have hnew:=Zjz (s:=⟨s.A,N1,s.S,s.R⟩) hf (k,[(s.A.length:Int)]);have hadd:X7 k (s.A.length:Int) s.S=s.S++[(k,[(s.A.length:Int)])]:=by rw[X7,hk]
  have hgl:=fun x d=>Zht (α:=AV×AV) _ _ hel x d
  have hsl:=fun x q=>Zjn (α:=AV×AV) _ _ hel x q
  simp only[hke]at hent hsn;simp only at hfr hnew;rw[←hG1]at hfr hnew;generalize hes:ents Sg.enc l (b+5) 0 s.S=es at*;clear hG1;refine kK ?_;refine Zan tok mixed (opS l (b+5+2*s.S.length) true) rfl rfl (by kernel_rfl) (by kernel_rfl) ?_;simp only[go_sem,simprocAttr,opS,Uz,Nat.reduceBEq,U0,U5,Nat.reduceEqDiff,hne,hb,hsig,hent,hfr,hq',hq3,XI,hel,hgl,hsl];refine⟨dc,fun p hp=>hkk p hp,.inr (Xo fun p hp=>?_),⟨om,Zn om⟩,.inr (Wj _ _ _ _),by simp[hel],.inr (Xo fun p hp=>?_),?_⟩
  ·rcases Qj.1 hp with hp|hp
   ·exact hbe p hp
   ·simp only[Ql]at hp;subst hp;exact⟨hbk,.sl _ _ _ (fun i h=>absurd h (Qm _)) (fun _ _ e=>by cases e)⟩
  ·rcases Qj.1 hp with hp|hp
   ·exact hbe p hp
   ·simp only[Ql]at hp;subst hp;exact⟨hbk,Y8 [(s.A.length:Int)] (fun _ _ e=>by cases e;exact hl)⟩
  rw[hsn];have hnew':=hnew (.map (es++[(AV.agg [AV.str a.sg.p,AV.int .i64 a.sg.n],AV.sl 1 [] .full)]));simp only[Qo,QB,QF]at hnew';rw[hnew',←hadd];refine ZK ?_ hS1;exact KK
 |some j=>
  obtain⟨hj,hje⟩:=Zce hk;have hent:=fun re=>Zmi Sg.enc Zl5 k l (b+5) s.S re hk
  have hgd:=Js Sg.enc l (b+5) s.S 0 j hj (.dead,.dead);have hold:=fun X=>Zq0 (l:=l) (b:=b) (H:=H) ⟨s.A,N1,s.S,s.R⟩ (j:=j) hj X
  have hixb:=hSb.ix (k:=k);have hadd:X7 k (s.A.length:Int) s.S=s.S.set j (k,Y3 k s.S++[(s.A.length:Int)]):=by rw[X7,hk]
  have hset:=Zc2 Sg.enc l (b+5) (k,Y3 k s.S++[(s.A.length:Int)]) s.S 0 j;have hnew:=Zjl (s:=⟨s.A,N1,s.S,s.R⟩) hf (k,Y3 k s.S++[(s.A.length:Int)]) j hj;simp only[hje,QF]at hold hgd hset;simp only[hke]at hent hgd hset;simp only[Qh,Qo,QB,QF]at hnew;have hsetb:∀p∈(ents Sg.enc l (b+5) 0 s.S).set j (AV.agg [AV.str a.sg.p,AV.int .i64 a.sg.n],.sl 1 (intsOf (Y3 k s.S++[(s.A.length:Int)])) (.buf l (b+5+2*j))),Below n p.1∧Below n p.2:=fun p hp=>by
   rcases Qai hp with hp|rfl
   ·exact hbe p hp
   ·exact⟨hbk,Y8 _ (fun _ _ e=>by cases e;exact hl)⟩
  rw[←hG1]at hold hnew;generalize Y3 k s.S=ix at*;generalize hes:ents Sg.enc l (b+5) 0 s.S=es at*;clear hG1;refine kK ?_;refine Zan tok mixed (opS 0 0 false) rfl rfl (by kernel_rfl) (by kernel_rfl) ?_;simp only[go_sem,simprocAttr,opS,Uz,Nat.reduceBEq,U0,U5,Nat.reduceEqDiff,hne,hb,hsig,hent,hold,hq',hq3,XI,hel,hgd,ZfP,Zct];refine⟨dc,fun p hp=>hkk p hp,.inr (Xo hbe),⟨Zn om,om⟩,.inr (Wj _ _ _ _),om,.inr (Xo hsetb),?_⟩;rw[←hset,hnew,←hadd];refine ZK ?_ hS1;exact KK
end
def Wu(s:Sto)(l:List Am):Sto:=l.foldl (fun s a=>(WR s a).1) s
def plc(p:Am→Bool):Nat→List Am→List Int
 |_,[]=>[]
 |i,a::r=>if p a=true then(i:Int)::plc p (i+1) r else plc p (i+1) r
theorem ZfA(p:Am→Bool)(a:Am):∀(A:List Am) (i:Nat),plc p i (A++[a])=plc p i A++(if p a=true then [((i+A.length:Nat):Int)]else [])
 |[],i=>by simp only[QY,plc,QB,UD]
 |b::A,i=>by
  simp only[Q9,plc,ZfA p a A (i+1),Qo];rw[show i+1+A.length=i+(A.length+1) by omega];split<;>simp
theorem Zl4(p:Am→Bool):∀(A:List Am) (i:Nat),∀x∈plc p i A,(i:Int)≤x∧x<i+A.length
 |[],_,x,h=>by simp[plc]at h
 |b::A,i,x,h=>by
  simp only[plc]at h;have key:x∈plc p (i+1) A→(i:Int)≤x∧x<i+(b::A).length:=fun h=>by
   have:=Zl4 p A (i+1) x h;simp only[Qo];omega
  split at h
  ·rcases Qk.1 h with rfl|h
   ·simp only[Qo];omega
   ·exact key h
  ·exact key h
theorem ZiL(p:Am→Bool):∀(A:List Am) (i:Nat),(plc p i A).length≤A.length
 |[],_=>Qe _
 |b::A,i=>by
  have:=ZiL p A (i+1);simp only[plc];split<;>simp only[Qo]<;>omega
theorem Zkx(p:Am→Bool):∀(A pre:List Am),(plc p pre.length A).map (fun j=>(pre++A).getD j.toNat ⟨[],[]⟩)=A.filter p
 |[],_=>rfl
 |b::A,pre=>by
  have ih:=Zkx p A (pre++[b]);simp only[Qh,Qo,QB,QF,Q7,Q9,QY]at ih;simp only[plc,List.filter_cons];split
  ·rw[Qs,ih];congr 1
   simp
  ·exact ih
theorem Zho(p:Am→Bool)(A:List Am):Zf0 A (plc p 0 A)=A.filter p:=Zkx p A []
def nums:Nat→List Am→List (List UInt8×Int)
 |_,[]=>[]
 |i,a::r=>(JZ a,(i:Int))::nums (i+1) r
theorem Zhs(a:Am):∀(A:List Am) (i:Nat),nums i (A++[a])=nums i A++[(JZ a,((i+A.length:Nat):Int))]
 |[],i=>by simp[nums]
 |b::A,i=>by
  simp only[Q9,nums,Zhs a A (i+1),Qo];rw[show i+1+A.length=i+(A.length+1) by omega]
theorem Zgn(t:List UInt8):∀(A:List Am) (i j:Nat),(ZU t (nums i A) j).isSome=true↔ ∃a∈A,JZ a=t
 |[],_,_=>by simp[nums,ZU]
 |b::A,i,j=>by
  simp only[nums,ZU];split
  ·rename_i h;simp[h]
  ·rename_i h;rw[Zgn t A (i+1) (j+1)];simp[h]
section
variable {κ:Type} [DecidableEq κ]
theorem Zhz{k:κ}{β:Type}:∀{es:List (κ×β)} {i:Nat},ZU k es i=none↔k∉es.map Prod.fst
 |[],_=>by simp[ZU]
 |p::r,i=>by
  simp only[ZU,Qs,Qk,not_or];split
  ·rename_i h;simp[h]
  ·rename_i h;rw[Zhz (es:=r)];simp[Ne.symm h]
theorem ZhU{k k':κ}{β:Type}(x:β):∀(es:List (κ×β)) (i j:Nat),ZU k es i=some (i+j)→ZU k' (es.set j (k,x)) i=ZU k' es i
 |[],_,_,h=>by cases h
 |p::r,i,0,h=>by
  simp only[ZU]at h;split at h
  ·rename_i hp;subst hp;simp only[UZ,ZU]
  ·have:=(Jw h).1;omega
 |p::r,i,j+1,h=>by
  simp only[ZU]at h;split at h
  ·simp only[Qq]at h;omega
  ·rw[show i+(j+1)=i+1+j by omega]at h;simp only[MJ,ZU,ZhU x r (i+1) j h]
theorem Zcw{k k':κ}{β:Type}(x:β)(hne:k'≠k):∀(es:List (κ×β)) (i:Nat),ZU k' (es++[(k,x)]) i=ZU k' es i
 |[],i=>by simp[ZU,Ne.symm hne]
 |p::r,i=>by simp only[Q9,ZU,Zcw x hne r (i+1)]
theorem ZgT{k:κ}{β:Type}(x:β):∀(es:List (κ×β)) (i:Nat),ZU k es i=none→ZU k (es++[(k,x)]) i=some (i+es.length)
 |[],i,_=>by simp[ZU]
 |p::r,i,h=>by
  simp only[ZU]at h;split at h
  ·cases h
  ·rename_i hp;simp only[Q9,ZU,if_neg hp,ZgT x r (i+1) h,Qo];congr 1;omega
theorem Zav{k:κ}{es:List (κ×List Int)}(h:ZU k es 0=none):Y3 k es=[]:=by rw[Y3,h]
theorem Jp{k:κ}{es:List (κ×List Int)}{j:Nat}(h:ZU k es 0=some j):Y3 k es=((es[j]?).map Prod.snd).getD []:=by rw[Y3,h]
theorem Zkm(k k':κ)(x:Int)(es:List (κ×List Int)):Y3 k' (X7 k x es)=if k'=k then Y3 k es++[x]else Y3 k' es:=by
 unfold X7;cases hk:ZU k es 0 with
 |some j=>
  obtain⟨hj,he⟩:=Zce hk;have hs:=fun k'=>ZhU (k':=k') (Y3 k es++[x]) es 0 j (by rw[hk,QF])
  by_cases h:k'=k
  ·subst h;rw[if_pos rfl];simp only;rw[Jp ((hs k').trans hk)];simp[hj]
  ·rw[if_neg h];simp only;cases hk':ZU k' es 0 with
   |none=>rw[Zav ((hs k').trans hk'),Zav hk']
   |some j'=>
    obtain⟨hj',he'⟩:=Zce hk';have hne:j≠j':=fun e=>by subst e;rw[he]at he';exact h (congrArg Prod.fst he').symm
    rw[Jp ((hs k').trans hk'),Jp hk',QaD hne]
 |none=>
  by_cases h:k'=k
  ·subst h;rw[if_pos rfl,Zav hk];simp only;rw[Jp (ZgT [x] es 0 hk)];simp
  ·rw[if_neg h];simp only;have hs:=Zcw [x] h es 0;cases hk':ZU k' es 0 with
   |none=>rw[Zav (hs.trans hk'),Zav hk']
   |some j'=>
    have:=Jw hk';rw[Jp (hs.trans hk'),Jp hk',UL om]
theorem Zkc(k:κ)(x:Int)(es:List (κ×List Int)):(X7 k x es).map Prod.fst=if k∈es.map Prod.fst then es.map Prod.fst else es.map Prod.fst++[k]:=by
 unfold X7;cases hk:ZU k es 0 with
 |some j=>
  obtain⟨hj,he⟩:=Zce hk;have hm:k∈es.map Prod.fst:=Qb.2 ⟨es[j],Qa hj,by rw[he]⟩;rw[if_pos hm];simp only[List.map_set];have:(es.map Prod.fst)[j]'(by simpa using hj)=k:=by simp[he]
  conv=>lhs;rw[←this]
  exact Qbi _
 |none=>
  rw[if_neg (Zhz.1 hk)];simp
theorem Zhb(x:Int)(k':κ):∀(ks:List κ) (es:List (κ×List Int)),ks.Nodup→Y3 k' (ks.foldl (fun R k=>X7 k x R) es)=Y3 k' es++(if k'∈ks then [x]else [])
 |[],es,_=>by simp
 |k::ks,es,h=>by
  rw[Gm]at h;rw[Uu,Zhb x k' ks _ h.2,Zkm];by_cases e:k'=k
  ·subst e;rw[if_pos rfl,if_neg h.1,if_pos sm];simp
  ·rw[if_neg e];simp[e]
end
theorem Bd.fold{x:Int}:∀{ks:List Ak} {es:List (Ak×List Int)} {m:Nat},Bd es m→Bd (ks.foldl (fun R k=>X7 k x R) es) (m+ks.length)
 |[],_,_,h=>h
 |k::ks,es,m,h=>by
  have:=Bd.fold (x:=x) (ks:=ks) (h.add (k:=k) (x:=x));rw[Uu,Qo];rw[show m+(ks.length+1)=m+1+ks.length by omega];exact this
structure Ok (s:Sto):Prop where
 A:s.A.length≤2000
 g:JO s.A
 v:∀a∈s.A,Yv a=true
 nd:s.A.Nodup
 N:s.N=nums 0 s.A
 S:∀k,Y3 k s.S=plc (fun a=>a.sg==k) 0 s.A
 R:∀k,Y3 k s.R=plc (fun a=>decide (k∈Wi a)) 0 s.A
 BS:Bd s.S s.A.length
 BR:Bd s.R (8*s.A.length)
 K:(s.S.map Prod.fst).Nodup
 KM:∀k,k∈s.S.map Prod.fst↔ ∃a∈s.A,a.sg=k
theorem Bd.le{κ:Type}{es:List (κ×List Int)}{m n:Nat}(h:Bd es m)(hmn:m≤n):Bd es n:=fun p hp=>Uw (h p hp) hmn
section
variable {s:Sto}
theorem Ok.fit(h:Ok s):Fit s:=⟨h.A,h.BS.le (by have:=h.A;omega),h.BR.le (by have:=h.A;omega),h.g⟩
theorem ok0:Ok sto0:=⟨by simp[sto0],fun a h=>by simp[sto0]at h,fun a h=>by simp[sto0]at h,by simp[sto0],rfl,fun _=>rfl,fun _=>rfl,fun p h=>by simp[sto0]at h,fun p h=>by simp[sto0]at h,by simp[sto0],fun k=>by simp[sto0]⟩
theorem Ok.has(h:Ok s){a:Am}(ha:Yv a=true):(ZU (JZ a) s.N 0).isSome=s.A.any (eqA · a):=by
 rw[UQ,h.N,Zgn,GR];constructor
 ·rintro⟨b,hb,e⟩;exact⟨b,hb,(Zfi b a).2 (ZoO (h.v b hb) ha e)⟩
 ·rintro⟨b,hb,e⟩;exact⟨b,hb,by rw[(Zfi b a).1 e]⟩
theorem ZgW(a:Am):(Wi a).Nodup:=by
 unfold Wi;rw[List.nodup_iff_pairwise_ne,Qa2];refine List.Pairwise.imp_of_mem ?_ (UU (R:=fun(p q:Tm×Nat)=>p.2<q.2)|>.2 fun i j hi hj hij=>by simpa using hij);intro p q _ _ hlt e;simp only[Ak.mk.injEq]at e;omega
theorem Ok.add{s:Sto}(h:Ok s){a:Am}(hg:a.Good)(hv:Yv a=true)(hn:s.A.any (eqA · a)=false)(hl:s.A.length≠2000):Ok (ZbT s a):=by
 have hA:=h.A;have hlen:=Zk3 hv;refine⟨by simp[ZbT];omega,fun x hx=>?_,fun x hx=>?_,?_,?_,fun k=>?_,fun k=>?_,?_,?_,?_,fun k=>?_⟩
 ·simp only[ZbT,Qj,Ql]at hx;rcases hx with hx|rfl
  ·exact h.g x hx
  ·exact hg
 ·simp only[ZbT,Qj,Ql]at hx;rcases hx with hx|rfl
  ·exact h.v x hx
  ·exact hv
 ·simp only[ZbT];rw[GH];refine⟨h.nd,sm,fun x hx y hy e=>?_⟩;simp only[Ql]at hy;subst hy;subst e;rw[Qa1]at hn;exact hn x hx ((Zfi x x).2 rfl)
 ·simp only[ZbT];rw[Zhs,h.N,QF]
 ·simp only[ZbT];rw[Zkm,ZfA,QF];by_cases e:k=a.sg
  ·subst e;rw[if_pos rfl,h.S];simp
  ·rw[if_neg e,h.S];have:(a.sg==k)=false:=by rw[beq_eq_false_iff_ne];exact Ne.symm e
   simp[this]
 ·simp only[ZbT];rw[Zhb _ _ _ _ (ZgW a),ZfA,QF,h.R];simp
 ·simp only[ZbT,Qh,Qo,QB];exact h.BS.add
 ·simp only[ZbT,Qh,Qo,QB];exact(h.BR.fold).le (by rw[Zaf];omega)
 ·simp only[ZbT];rw[Zkc];split
  ·exact h.K
  ·rename_i hm;rw[GH];refine⟨h.K,sm,fun x hx y hy e=>?_⟩;simp only[Ql]at hy;subst hy;subst e;exact hm hx
 ·simp only[ZbT];rw[Zkc];have:k∈(if a.sg∈s.S.map Prod.fst then s.S.map Prod.fst else s.S.map Prod.fst++[a.sg])↔k∈s.S.map Prod.fst∨k=a.sg:=by
   split
   ·rename_i hm;exact⟨.inl,fun h=>h.elim id fun e=>e▸hm⟩
   ·simp
  rw[this,h.KM];constructor
  ·rintro(⟨x,hx,e⟩|e)
   ·exact⟨x,by simp[hx],e⟩
   ·exact⟨a,sm,e.symm⟩
  ·rintro⟨x,hx,e⟩;simp only[Qj,Ql]at hx;rcases hx with hx|rfl
   ·exact .inl ⟨x,hx,e⟩
   ·exact .inr e.symm
theorem Ok.Zrk(h:Ok s)(a:Am):((WR s a).1.A,(WR s a).2.1,(WR s a).2.2)=Zqt s.A a:=by
 unfold WR Zqt;cases h1:Yv a with
 |false=>simp
 |true=>
  simp only[Bool.true_eq_false,if_false];rw[h.has h1];split
  ·rfl
  ·split
   ·rfl
   ·simp[ZbT]
theorem Ok.WR{s:Sto}(h:Ok s){a:Am}(hg:a.Good):Ok (WR s a).1:=by
 unfold Go.Proofs.YtmdeagmbfhbbnaaGreatDoorR.WR;split
 ·exact h
 ·split
  ·exact h
  ·rename_i h1 h2;split
   ·exact h
   ·rename_i h3;have hv:Yv a=true:=by simpa using h1
    rw[h.has hv]at h2;exact h.add hg hv (by simpa using h2) h3
theorem Znv(s:Sto)(l:List Am)(a:Am):Wu s (l++[a])=(WR (Wu s l) a).1:=by
 unfold Wu;rw[U6];rfl
theorem ZnA(s:Sto)(l:List Am)(i:Nat)(h:i<l.length):Wu s (l.take (i+1))=(WR (Wu s (l.take i)) l[i]).1:=by
 rw[Qn h,Znv]
theorem Ok.Wu{s:Sto}(h:Ok s):∀{l:List Am},JO l→Ok (Wu s l):=by
 intro l;induction l generalizing s with
 |nil=>intro _;exact h
 |cons a l ih=>
  intro hg;exact ih (h.WR (hg a sm)) (fun x hx=>hg x (by simp[hx]))
def Zrt(l0 l:List Am):List Am:=l.foldl (fun s a=>(Zqt s a).1) l0
theorem Ok.ZrB(h:Ok s):∀{l:List Am},JO l→(Go.Proofs.YtmdeagmbfhbbnaaGreatDoorR.Wu s l).A=Zrt s.A l:=by
 intro l;induction l generalizing s with
 |nil=>intro _;rfl
 |cons a l ih=>
  intro hg;have h1:=ih (h.WR (hg a sm)) (fun x hx=>hg x (by simp[hx]));have h2:=h.Zrk a;show(Go.Proofs.YtmdeagmbfhbbnaaGreatDoorR.Wu (Go.Proofs.YtmdeagmbfhbbnaaGreatDoorR.WR s a).1 l).A=Zrt (Zqt s.A a).1 l;rw[h1,←h2]
theorem Ok.all(h:Ok s)(k:Sg):Zf0 s.A (Y3 k s.S)=Zsh s.A k:=by
 rw[h.S,Zho];rfl
theorem ZkD(a:Am)(k:Ak):k∈Wi a↔a.sg=k.s∧0≤k.c∧ ∃t,a.args[k.c.toNat]? =some t∧txt t=k.t:=by
 unfold Wi;rw[Qb];constructor
 ·rintro⟨⟨t,i⟩,hm,rfl⟩;rw[G6]at hm;exact⟨rfl,sm,t,by simpa using hm,rfl⟩
 ·rintro⟨h1,h2,t,h3,h4⟩;refine⟨(t,k.c.toNat),by rw[G6];exact h3,?_⟩;obtain⟨s,c,x⟩:=k;simp only at*;subst h1 h4;congr 1;omega
theorem Ok.find(h:Ok s)(k:Sg)(c:Int){v:Tm}(hv:Zu v=true):Zf0 s.A (Y3 (⟨k,c,txt v⟩:Ak) s.R)=Zl9 s.A k c v:=by
 rw[h.R,Zho];unfold Zl9;refine List.filter_congr fun a ha=>?_
 rw[UQ,decide_eq_true_eq,ZkD];simp only[Zj8,Qi,beq_iff_eq,decide_eq_true_eq,colEq];have hav:=h.v a ha;constructor
 ·rintro⟨h1,h2,t,h3,h4⟩;have ht:=Zgl hav (GK h3);have hlt:=(Q8.1 h3).1;refine⟨⟨⟨h1,h2⟩,?_⟩,?_⟩
  ·rw[←h1];simp only[Am.sg];omega
  ·rw[h3];exact(eqT_iff t v).2 (Zq6 ht hv h4)
 ·rintro⟨⟨⟨h1,h2⟩,h3⟩,h4⟩;refine⟨h1,h2,?_⟩;cases hx:a.args[c.toNat]? with
  |none=>rw[hx]at h4;cases h4
  |some t=>rw[hx]at h4;exact⟨t,rfl,by rw[(eqT_iff t v).1 h4]⟩
theorem Ok.ixS(h:Ok s)(k:Sg):(∀i∈Y3 k s.S,0≤i∧i<s.A.length)∧(Y3 k s.S).length≤1000000:=by
 rw[h.S];refine⟨fun i hi=>?_,?_⟩
 ·have:=Zl4 _ _ _ i hi;omega
 ·have:=ZiL (fun a=>a.sg==k) s.A 0;have:=h.A;omega
theorem Ok.ixR(h:Ok s)(k:Ak):(∀i∈Y3 k s.R,0≤i∧i<s.A.length)∧(Y3 k s.R).length≤1000000:=by
 rw[h.R];refine⟨fun i hi=>?_,?_⟩
 ·have:=Zl4 _ _ _ i hi;omega
 ·have:=ZiL (fun a=>decide (k∈Wi a)) s.A 0;have:=h.A;omega
end
theorem Zbw(n l b:Nat)(s:Sto)(L:List (Nat×Ze))(H:Za)(h:l≠n):put (full n L H) l b s=full n L (put H l b s):=by
 funext l' k;simp only[Za8,full];by_cases h1:l'=n
 ·subst h1;simp[Ne.symm h]
 ·simp only[if_neg h1]
section
variable {s:Sto} {n l b:Nat}
theorem Zhi(hl:l<n){k:Nat}{x:Ze}(h:lkb (lst l b s) k=some x):x.Below n:=by
 rw[Y6]at h;split at h
 ·cases h;exact Zgb hl _
 split at h
 ·cases h;exact Xo (ZhE s.N)
 split at h
 ·cases h;exact Xo (JC Sg.enc hl (Sg.blw n) _ _)
 split at h
 ·cases h;exact Xo (JC Ak.enc hl (Ak.blw n) _ _)
 split at h
 ·split at h
  ·cases h
  ·cases h;exact Wj _ _ _ _
 split at h
 ·simp only[Ul]at h;obtain⟨p,_,rfl⟩:=h;exact Wj _ _ _ _
 split at h
 ·simp only[Ul]at h;obtain⟨p,_,rfl⟩:=h;exact Wj _ _ _ _
 ·cases h
theorem ZaT{H:Za}(hl:l<n):ZL n H (put H l b s):=fun l' k x _ hx=>by
 rw[Za8]at hx;split at hx
 ·rcases Option.or_eq_some_iff.1 hx with h|⟨_,h⟩
  ·exact .inr (Zhi hl h)
  ·exact .inl h
 ·exact .inl hx
theorem Zjj{H:Za}{s':Sto}(hl:l<n)(hf:YF H l b):ZL n (put H l b s) (put H l b s'):=fun l' k x _ hx=>by
 by_cases h1:l'=l
 ·subst h1;rcases Qg k b with h2|h2
  ·rw[ZoY h2]at hx⊢;exact .inl hx
  ·rw[Zdv hf h2]at hx;exact .inr (Zhi hl hx)
 ·rw[Zd4 h1]at hx⊢;exact .inl hx
theorem YF.full{n l b:Nat}{H:Za}(hf:YF H l b)(h:l<n)(L:List (Nat×Ze)):YF (full n L H) l b:=fun k hk=>by rw[Zj h];exact hf k hk
section
variable {cx:Cx} {o:Oper} {args:List Operand} {ts:List TypeId} {F:Zb→Prop} {tm:List (Nat×AV)} {L:List (Nat×Ze)} {H:Za}
theorem Zsw(hP:cx.P=Tryz.prog)(l b:Nat)(hl:l<cx.n)(hf:YF H l b)(ha:Yo cx.T (evT tm) args ts=[])(hF:F ⟨Yl tm o.dst (.ptr l b 0),L,put H l b sto0⟩):Vg cx false o (.func 36) args ts ⟨tm,L,H⟩ F:=by
 obtain⟨P,T,φ,n,N⟩:=cx;subst hP;refine ZsU (avs:=[]) L (put H l b sto0) (Zf Tryz.func36 rfl rfl) ?_ ha (ZaT hl) hF;have h:=a22 (n+1) (full n L H) l b (Gy hl) (hf.full hl L);rw[Zbw n l b sto0 L H (Qat hl)]at h;exact h
theorem ZsC(hP:cx.P=Tryz.prog)(l b:Nat)(s:Sto)(a:Am){g:Operand}(hg:evT tm g= .fn (.func 20) [])(hl:l<cx.n)(hf:YF H l b)(hs:Fit s)(hga:a.Good)(hn:0<cx.n)(hT:Tabs H)(ha:Yo cx.T (evT tm) args ts=[.ptr l b 0,a.enc])
  (hF:F ⟨Yl tm o.dst (.tup [.bool (WR s a).2.1,eInt (WR s a).2.2]),L,put H l b (WR s a).1⟩):Vg cx false o g args ts ⟨tm,L,put H l b s⟩ F:=by
 obtain⟨P,T,φ,n,N⟩:=cx;subst hP;have h:=a23 (n+1) (full n L H) l b s a (Gy hl) (hf.full hl L) hs hga (QW _) (hT.full hn);rw[Zbw n l b s L H (Qat hl),Zbw n l b _ L H (Qat hl)]at h;refine YW (caps:=[]) (avs:=[.ptr l b 0,a.enc]) (Qc:=fun r H'=>r= .tup [.bool (WR s a).2.1,eInt (WR s a).2.2]∧H'=full n L (put H l b (WR s a).1)) hg (Zf Tryz.func20 rfl rfl) h ha ?_;rintro r H1 ⟨rfl,rfl⟩;exact⟨L,_,rfl,Zjj hl hf,hF⟩
end
end
end Go.Proofs.YtmdeagmbfhbbnaaGreatDoorR

namespace Go.Abs
theorem Zt.ZmD{m:Nat}{H:Za}{E:Env}{w:World}(hr:Zt m H E w){l k n g cap e sz off:Nat}{cs vs:List AV}{us:List Value}(hh:E.hist l k n=some (.slice (some ⟨g,0,none⟩) n cap))(hH:H l k=some (.Zg e sz cs n))(hn:0<n)(hcv:VRs E vs us)(hl:off+vs.length≤cs.length)
  {c:Array Value} (q2:w.heap[g]? =some (.cells c e (0,0))):
  Zt m (H.upd l k (.Zg e sz (splice cs off vs) n)) E (w.setRow g (c.toList.take off++us++c.toList.drop (off+us.length)).toArray)∧Ext m E w E (w.setRow g (c.toList.take off++us++c.toList.drop (off+us.length)).toArray):=by
 obtain⟨c',q1,q2',q3,q4,q5,q6,q7,q8⟩:=hr.mrow hh hH hn;rw[q2']at q2;cases q2;have hus:us.length=vs.length:=hcv.1;have hlen:=q7.1;have hle:n*sz≤cap*sz:=QD _ q3;have hsl:(splice cs off vs).length=cs.length:=by simp only[splice,Qh,QI,QL];omega
 obtain⟨⟨_,v0,hv0,hj0,_⟩,hm0⟩:=hr.Zg l k e sz cs n (hr.norm.Xr hh) hH;rw[hh]at hv0;cases hv0;exact hr.turn (w':=w.setRow g (c.toList.take off++us++c.toList.drop (off+us.length)).toArray) (.inr q1) (.Zg e sz (splice cs off vs) n) (fun _=>rfl) rfl rfl rfl (fun _=>Qe _) (by simp[World.setRow])
  (fun b' hb'=>setRow_other w g b' _ hb') q6 ⟨⟨by rw[hsl,q8],_,hh,hj0,.inr ⟨g,cap,_,rfl,q1,setRow_heap w g c _ e (0,0) q2',q3,q4,by simp only[U7,Qh,QI,QL,Uf]at hus hlen hle⊢;omega,q6,by
   have e1:((c.toList.take off++us++c.toList.drop (off+us.length)).toArray.toList).take (n*sz)=(c.toList.take (n*sz)).take off++(us++(c.toList.take (n*sz)).drop (off+vs.length)):=by
    rw[U2,hus,Q7,Qag,Qag,Qax,Qax,QaT];have h1:min off (n*sz)=off:=by omega
    have h2:min (n*sz) off=off:=by omega
    have h3:(c.toList.take off).length=off:=by rw[QI];simp;omega
    rw[h1,h2,h3,hus,Q5 (l:=us) om,show n*sz - off - vs.length=n*sz - (off+vs.length) by omega]
   rw[e1];unfold splice;exact(q7.take off).append (hcv.append (q7.drop _))⟩⟩,hm0⟩
section
variable {P:Program} {T:TT} {o:Oper} {ρ:Operand→AV}
theorem XT{m:Nat}{H:Za}{v:AV}{t:TypeId}{x:Operand}{lo hi:Option Operand}{r re:Zv}{e e':TypeId}{sz sz' q j n:Nat}{a h:Int}{cs:List AV}(hT:TOK P T)(ho:o.op= .slice t x lo hi none)(h1:T t=some r)(h2:r.td= .slice e)
  (h2':T e=some re) (hv:ρ x= .msl sz q j n) (hH:H q j=some (.Zg e' sz' cs n)) (hlo:bnd ρ lo 0=some a) (hh:bnd ρ hi n=some h) (ha:0≤a) (h0:a≤h) (h3:h≤n) (hn:0<n) (he:(if a<n then .sub re.size q j n a.toNat (h.toNat - a.toNat)else .sl re.size [] .any)=v):
  Yq P m o ρ H v H:=fun E w ac hr hops=>by
 subst he;have hx:=hops x sO;have hb:∀y,lo=some y∨hi=some y→VR E (ρ y) (ac.eval y):=fun y hy=>hops y (by rcases hy with rfl|rfl<;>simp[ho,Op.operands])
 rw[hv]at hx;have hq:q<m:=by
  have hbl:=hx.lvl hr.norm;cases hbl with|msl _ _ _ _ hb'=>exact hb'
 obtain⟨⟨_,v0,hv0,_,hr0⟩,_⟩:=hr.Zg q j e' sz' cs n hq hH;obtain⟨d,inf,z,hf⟩:=Zd (hT t r h1);obtain⟨d',i',z',hf'⟩:=Zd (hT e re h2');have hd:=ZH (h2▸hf.fits);subst hd;have he:execOp ac.eval o=(do let v←Instr.sliceAt t (ac.eval x) (lo.map ac.eval) (hi.map ac.eval) none;pure (Next.value v)):=by simp only[execOp,ho];rfl
 generalize hy:ac.eval x=y at hx;cases hx with
 |mnil=>omega
 |msl _ _ _ _ g cap hh'=>
  have hcap:n≤cap:=by
   rcases hr0 with⟨ad,q1,q2,q3⟩|⟨g',cap',cur,q1,q2,q3,q4,_⟩
   ·omega
   ·rw[hv0,q1]at hh';simp only[Qq,Value.slice.injEq]at hh';omega
  have hrun:=WG (P:=P) (s:=true) (len:=n) (cap:=cap) hb hlo hh ha h0 om w;by_cases han:a<n
  ·have hvr:=VR.sub (E:=E) re.size q j n a.toNat (h.toNat - a.toNat) g cap hh' om;rw[if_pos han];refine⟨_,E,w,.inl ?_,hvr,hr,.refl m E w⟩;rw[he,hy];have h00:¬cap=a.toNat:=by omega
   simp[Instr.sliceAt,Instr.slice,run_underlying hf.und,hrun,ZF hf',ZI,h00]
  ·have e1:h.toNat - a.toNat=0:=by omega
   rw[if_neg han];refine⟨.slice (some (if cap=a.toNat then⟨g,0,none⟩else⟨g,a.toNat*re.size,none⟩)) 0 (cap - a.toNat),E,w,.inl ?_,?_,hr,.refl m E w⟩
   ·rw[he,hy];simp[Instr.sliceAt,Instr.slice,run_underlying hf.und,hrun,ZF hf',ZI,e1];split<;>rfl
   ·split
    ·exact VR.sl re.size [] .any g 0 (cap - a.toNat) (fun _ _=>undef) (fun i h=>absurd h (Qm _)) (fun i j h=>absurd h (Qm _)) (fun i h=>absurd h (Qm _)) (Un _) (Un _) trivial
    ·exact VR.sl re.size [] .any g (a.toNat*re.size) (cap - a.toNat) (fun _ _=>undef) (fun i h=>absurd h (Qm _)) (fun i j h=>absurd h (Qm _)) (fun i h=>absurd h (Qm _)) (Un _) (Un _) trivial
theorem Zi0{m:Nat}{H:Za}{v:AV}{t:TypeId}{x:Operand}{lo hi:Option Operand}{r re:Zv}{e e':TypeId}{sz sz' q j n off k:Nat}{a h:Int}{cs:List AV}(hT:TOK P T)(ho:o.op= .slice t x lo hi none)(h1:T t=some r)(h2:r.td= .slice e)
  (h2':T e=some re) (hv:ρ x= .sub sz q j n off k) (hsz:sz=re.size) (hH:H q j=some (.Zg e' sz' cs n)) (hlo:bnd ρ lo 0=some a) (hh:bnd ρ hi k=some h) (ha:0≤a) (h0:a≤h) (h3:off+h.toNat≤n) (hn:off+a.toNat<n) (hval:.sub re.size q j n (off+a.toNat) (h.toNat - a.toNat)=v):
  Yq P m o ρ H v H:=fun E w ac hr hops=>by
 subst hval;have hx:=hops x sO;have hb:∀y,lo=some y∨hi=some y→VR E (ρ y) (ac.eval y):=fun y hy=>hops y (by rcases hy with rfl|rfl<;>simp[ho,Op.operands])
 rw[hv]at hx;have hq:q<m:=by
  have hbl:=hx.lvl hr.norm;cases hbl with|sub _ _ _ _ _ _ hb'=>exact hb'
 obtain⟨⟨_,v0,hv0,_,hr0⟩,_⟩:=hr.Zg q j e' sz' cs n hq hH;obtain⟨d,inf,z,hf⟩:=Zd (hT t r h1);obtain⟨d',i',z',hf'⟩:=Zd (hT e re h2');have hd:=ZH (h2▸hf.fits);subst hd;have he:execOp ac.eval o=(do let v←Instr.sliceAt t (ac.eval x) (lo.map ac.eval) (hi.map ac.eval) none;pure (Next.value v)):=by simp only[execOp,ho];rfl
 generalize hy:ac.eval x=y at hx;cases hx with
 |sub _ _ _ _ _ _ g cap hh' hm=>
  have hcap:n≤cap:=by
   rcases hr0 with⟨ad,q1,q2,q3⟩|⟨g',cap',cur,q1,q2,q3,q4,_⟩
   ·omega
   ·rw[hv0,q1]at hh';simp only[Qq,Value.slice.injEq]at hh';omega
  have hrun:=WG (P:=P) (s:=true) (len:=k) (cap:=cap - off) hb hlo hh ha h0 om w;have hvr:=VR.sub (E:=E) re.size q j n (off+a.toNat) (h.toNat - a.toNat) g cap hh' om;refine⟨_,E,w,.inl ?_,hvr,hr,.refl m E w⟩;rw[he,hy];have h00:¬cap - off=a.toNat:=by omega
  have h01:cap - off - a.toNat=cap - (off+a.toNat):=by omega
  subst hsz;simp[Instr.sliceAt,Instr.slice,run_underlying hf.und,hrun,ZF hf',ZI,h00,h01,Ue]
theorem Jk{m:Nat}{H:Za}{t:TypeId}{x:Operand}{r re:Zv}{e q j n off k sz:Nat}{cs D:List AV}(hT:TOK P T)(ho:o.op= .call {callee:=.builtin .clear,args:=#[x],argTypes:=#[t]})(h1:T t=some r)(h2:r.td= .slice e)
  (h2':T e=some re) (hs:sz=re.size) (hv:ρ x= .sub sz q j n off k) (hH:H q j=some (.Zg e sz cs n)) (hsz:0<sz) (hzc:(zeroV re).cells=re.zero) (hk:0<k) (hD:splice cs (off*sz) (flat (List.replicate k (zeroV re)))=D):
  Yq P m o ρ H (.tup []) (H.upd q j (.Zg e sz D n)):=fun E w ac hr hops=>by
 subst hs;subst hD;have hx:=hops x sC;rw[hv]at hx;obtain⟨d,inf,z,hf⟩:=Zd (hT t r h1);obtain⟨d',i',z',hf'⟩:=Zd (hT e re h2');have hd:=ZH (h2▸hf.fits);subst hd;generalize hy:ac.eval x=y at hx;cases hx with
 |sub _ _ _ _ _ _ g cap hh hm=>
  have hn:0<n:=by omega
  obtain⟨c,q1,q2,q3,q4,q5,q6,q7,q8⟩:=hr.mrow hh hH hn;have hv0:VRs E (zeroV re).cells z'.cells.toList:=by rw[hzc];exact Xt hf'.zfits
  have hvz:=ZbP hv0 (by rw[hf'.zsize];exact hsz) k;have hcl:(zeroV re).cells.length=re.size:=by rw[hv0.1.symm,Uf,hf'.zsize]
  have hfl:(flat (List.replicate k (zeroV re))).length=k*re.size:=by rw[flat_length (k:=re.size) (fun x hx=>by rw[(Ug.1 hx).2];exact hcl),Gx]
  have hone:∀u∈(Builtin.zeroCells z'.cells k).toList,u.oneCell'=true:=fun u hu=>by
   obtain⟨i,hi,rfl⟩:=QJ hu;have hi':i<(flat (List.replicate k (zeroV re))).length:=by rw[←hvz.1];exact hi
   refine(hvz.2 i hi' hi).one ?_;have hmem:(flat (List.replicate k (zeroV re)))[i]∈flat (List.replicate k (zeroV re)):=Qa hi';simp only[flat,Qz]at hmem;obtain⟨y',hy',hc'⟩:=hmem;rw[(Ug.1 hy').2,hzc]at hc';exact fitsAll_one hf'.zfits _ hc'
  have hlen2:(Builtin.zeroCells z'.cells k).toList.length=k*re.size:=by rw[hvz.1,hfl]
  have hle:n*re.size≤cap*re.size:=QD _ q3;have hle2:off*re.size+k*re.size≤n*re.size:=by rw[←Ue];exact QD _ hm
  obtain⟨hh2,hx'⟩:=hr.ZmD hh hH hn hvz (off:=off*re.size) (by rw[hfl,q8];exact hle2) q2;have hst:=run_storeCells_at P g (off*re.size) e (Builtin.zeroCells z'.cells k).toList 0 c w q2 (by rw[hlen2];omega) hone;simp only[UD]at hst;refine⟨.tuple #[],E,_,.inl ?_,.tup [] [] rfl (fun i h=>absurd h (Qm _)),hh2,hx'⟩;cases k with
  |zero=>omega
  |succ k=>
   simp[execOp,ho,hy,resolve,invoke,builtin,Builtin.clear_,run_underlying hf.und,Yk hf',hst]
theorem ZfU{m:Nat}{H:Za}{t:TypeId}{x y:Operand}{r re:Zv}{e q j n i off k sz:Nat}{cs D:List AV}(hT:TOK P T)(ho:o.op= .call {callee:=.builtin .append,args:=#[x,y],argTypes:=#[t,t]})(h1:T t=some r)(h2:r.td= .slice e)
  (h2':T e=some re) (hs:sz=re.size) (hv:ρ x= .sub sz q j n 0 i) (hw:ρ y= .sub sz q j n off k) (hH:H q j=some (.Zg e sz cs n)) (hsz:0<sz) (hk:0<k) (hin:i+k≤n) (hone:∀a∈cs,a.one=true) (hD:splice cs (i*sz) ((cs.drop (off*sz)).take (k*sz))=D):
  Yq P m o ρ H (.sub sz q j n 0 (i+k)) (H.upd q j (.Zg e sz D n)):=fun E w ac hr hops=>by
 subst hs;subst hD;have hx:=hops x sC;have hy:=hops y sC;rw[hv]at hx;rw[hw]at hy;obtain⟨d,inf,z,hf⟩:=Zd (hT t r h1);obtain⟨d',i',z',hf'⟩:=Zd (hT e re h2');have hd:=ZH (h2▸hf.fits);subst hd;generalize hxe:ac.eval x=xv at hx;generalize hye:ac.eval y=yv at hy;cases hx with
 |sub _ _ _ _ _ _ g cap hh hm=>
 cases hy with
 |sub _ _ _ _ _ _ g2 cap2 hhy hmy=>
  rw[hh]at hhy;simp only[Qq,Value.slice.injEq,Addr.mk.injEq]at hhy;obtain⟨⟨rfl,_,_⟩,_,rfl⟩:=hhy;have hn:0<n:=by omega
  obtain⟨c,q1,q2,q3,q4,q5,q6,q7,q8⟩:=hr.mrow hh hH hn;have hle:n*re.size≤cap*re.size:=QD _ q3;have hle2:off*re.size+k*re.size≤n*re.size:=by rw[←Ue];exact QD _ hmy
  have hle3:i*re.size+k*re.size≤n*re.size:=by rw[←Ue];exact QD _ hin
  have hcv:VRs E ((cs.drop (off*re.size)).take (k*re.size)) (((c.toList.take (n*re.size)).drop (off*re.size)).take (k*re.size)):=(q7.drop _).take _;have hvl:((cs.drop (off*re.size)).take (k*re.size)).length=k*re.size:=by simp only[QI,QL];omega
  have hul:(((c.toList.take (n*re.size)).drop (off*re.size)).take (k*re.size)).length=k*re.size:=by rw[hcv.1,hvl]
  have hnews:∀jj v,(((c.toList.take (n*re.size)).drop (off*re.size)).take (k*re.size))[jj]? =some v→w.cell? ((⟨g,off*re.size,none⟩:Addr).add jj)=some v:=fun jj v hj=>by
   have hjl:jj<k*re.size:=by rw[←hul];exact(Q8.1 hj).1
   rw[QV hjl,UC,QV om]at hj;rw[ZI];simp only[World.cell?,q2];simpa using hj
  have ho1:∀u∈((c.toList.take (n*re.size)).drop (off*re.size)).take (k*re.size),u.oneCell'=true:=fun u hu=>by
   obtain⟨ii,hi,rfl⟩:=QJ hu;have hi':ii<((cs.drop (off*re.size)).take (k*re.size)).length:=by rw[←hcv.1];exact hi
   exact(hcv.2 ii hi' hi).one (hone _ (U8 (UM (Qa hi'))))
  obtain⟨hh2,hx'⟩:=hr.ZmD hh hH hn hcv (off:=i*re.size) (by rw[hvl,q8];exact hle3) q2;have hr1:=run_append_room (P:=P) w t o.type e i' hf.und hf'.info g i cap c q2 ⟨g,off*re.size,none⟩ k (cap - off) _ (by rw[hul,hf'.size]) hnews ho1 om (by rw[hul,hf'.size,q5];omega);rw[hf'.size]at hr1;have hvr:=VR.sub (E:=E) re.size q j n 0 (i+k) g cap hh om;simp only[Gq,MI]at hvr;refine⟨_,E,_,.inl (Xw ho ?_),hvr,hh2,hx'⟩;rw[hxe,hye];simp only[Gq,MI];exact hr1
theorem ZcP{m:Nat}{H:Za}{t:TypeId}{x y:Operand}{r re:Zv}{e e':TypeId}{sz sz' q j n off i k':Nat}{ow:Own}{cs:List AV}(hT:TOK P T)(ho:o.op= .call {callee:=.builtin .append,args:=#[x,y],argTypes:=#[t,t]})(h1:T t=some r)(h2:r.td= .slice e)
  (h2':T e=some re) (hv:ρ x= .sub sz q j n off i) (hw:ρ y= .sl k' [] ow) (hH:H q j=some (.Zg e' sz' cs n)) (hn:0<n):Yq P m o ρ H (.sub sz q j n off i) H:=fun E w ac hr hops=>by
 have hx:=hops x sC;have hy:=hops y sC;rw[hv]at hx;rw[hw]at hy;refine⟨ac.eval x,E,w,.inl (Xw ho ?_),hx,hr,.refl m E w⟩;generalize ac.eval x=xv at hx;cases hx with
 |sub _ _ _ _ _ _ g cap hh hm=>
  obtain⟨c,q1,q2,q3,_⟩:=hr.mrow hh hH hn;exact WC hT h1 h2 h2' rfl om hy
theorem Zij{m:Nat}{H:Za}{t:TypeId}{x y0 y1 y2:Operand}{r re:Zv}{e e':TypeId}{sz sz' q j n:Nat}{a h b:Int}{k0 k1 k2:IntKind}{cs:List AV}(hT:TOK P T)(ho:o.op= .slice t x (some y0) (some y1) (some y2))(h1:T t=some r)(h2:r.td= .slice e)
  (h2':T e=some re) (hv:ρ x= .msl sz q j n) (hH:H q j=some (.Zg e' sz' cs n)) (hlo:ρ y0= .int k0 a) (hh:ρ y1= .int k1 h) (hmx:ρ y2= .int k2 b) (ha:0≤a) (h0:a≤h) (h3:h≤b) (h4:b≤n) (hn:0<n):
  Yq P m o ρ H .dead H:=fun E w ac hr hops=>by
 have hx:=hops x sO;have v0:=hops y0 sO;have v1:=hops y1 sO;have v2:=hops y2 sO;rw[hv]at hx;rw[hlo]at v0;rw[hh]at v1;rw[hmx]at v2;have hq:q<m:=by
  have hbl:=hx.lvl hr.norm;cases hbl with|msl _ _ _ _ hb'=>exact hb'
 obtain⟨⟨_,w0,hw0,_,hr0⟩,_⟩:=hr.Zg q j e' sz' cs n hq hH;obtain⟨d,inf,z,hf⟩:=Zd (hT t r h1);obtain⟨d',i',z',hf'⟩:=Zd (hT e re h2');have hd:=ZH (h2▸hf.fits);subst hd;have he:execOp ac.eval o=(do let v←Instr.sliceAt t (ac.eval x) (some (ac.eval y0)) (some (ac.eval y1)) (some (ac.eval y2));pure (Next.value v)):=by simp only[execOp,ho];rfl
 generalize hy:ac.eval x=y at hx;generalize hy0:ac.eval y0=u0 at v0;generalize hy1:ac.eval y1=u1 at v1;generalize hy2:ac.eval y2=u2 at v2;cases v0;cases v1;cases v2;cases hx with
 |mnil=>omega
 |msl _ _ _ _ g cap hh'=>
  have hcap:n≤cap:=by
   rcases hr0 with⟨ad,q1,q2,q3⟩|⟨g',cap',cur,q1,q2,q3,q4,_⟩
   ·omega
   ·rw[hw0,q1]at hh';simp only[Qq,Value.slice.injEq]at hh';omega
  have c1:0≤b∧b≤(cap:Int):=by omega
  have c2:0≤h∧h≤(b.toNat:Int):=by omega
  have c3:0≤a∧a≤(h.toNat:Int):=by omega
  have e3:¬(h:Int)<0:=by omega
  refine⟨.slice (if b.toNat=a.toNat then some ⟨g,0,none⟩else some (Addr.add ⟨g,0,none⟩ (a.toNat*re.size))) (h.toNat - a.toNat) (b.toNat - a.toNat),E,w,.inl ?_,.dead _,hr,.refl m E w⟩;rw[he,hy,hy0,hy1,hy2];simp[Instr.sliceAt,Instr.slice,Instr.sliceBounds,Instr.sliceBound,asIntOf,run_underlying hf.und,ZF hf',c1,c2,c3,show max h 0=h by omega,show max b 0=b by omega,show h≤b by omega,show a≤h by omega]
end
section
variable {P:Program} {T:TT} {o:Oper} {ρ:Operand→AV}
theorem ZgZ{m:Nat}{H:Za}{t:TypeId}{x y:Operand}{r re:Zv}{e k q j n sz:Nat}{ys:List AV}(hT:TOK P T)
  (ho:o.op= .call {callee:=.builtin .append,args:=#[x,y],argTypes:=#[t,t]}) (h1:T t=some r) (h2:r.td= .slice e) (h3:T e=some re) (hs:sz=re.size) (hsz:0<sz)
  (hx:ρ x= .sl k [] .full) (hy:ρ y= .msl sz q j n) (hH:H q j=some (.Zg e sz (flat ys) n)) (hk:∀y∈ys,y.cells.length=sz) (hn:ys.length=n) (h0:0<n) (hml:n≤maxLen) (hby:n*re.bytes≤140737488355328):
  Yq P m o ρ H (.sl sz ys .any) H:=fun E w a hr hops=>by
 subst hs;obtain⟨d,inf,z,hf⟩:=Zd (hT t r h1);obtain⟨d',i',z',hf'⟩:=Zd (hT e re h3);have hd:=ZH (h2▸hf.fits);subst hd;have hxv:=hops x sC;have hyv:=hops y sC;rw[hx]at hxv;rw[hy]at hyv;have he:∀w',(execOp a.eval o).run P w'=((Builtin.append_ #[t,t] o.type #[a.eval x,a.eval y]).run P w').andThen fun v w''=>.ok (.value v) w'':=fun w'=>by
  simp[execOp,ho,resolve,invoke,builtin]
 have hu:P.underlying t=some (.slice e):=hf.und;have hmx:n≤9223372036854775807:=by unfold maxLen at hml;omega
 generalize hye:a.eval y=yv at hyv;cases hyv with
 |mnil=>exact absurd h0 (Uh 0)
 |msl _ _ _ _ g cap hh=>
  subst hn;obtain⟨c,q1,q2,q3,q4,q5,q6,q7,q8⟩:=hr.mrow hh hH h0;obtain⟨cs2,hcs⟩:∃cs2,cs2=c.toList.take (ys.length*re.size):=⟨_,rfl⟩
  rw[←hcs]at q7;have hl2:cs2.length=ys.length*i'.size:=by rw[q7.1,flat_length hk,hf'.size]
  have hl2':cs2.length=ys.length*re.size:=by rw[q7.1,flat_length hk]
  have hn2:∀jj v,cs2[jj]? =some v→w.cell? ((⟨g,0,none⟩:Addr).add jj)=some v:=fun jj v hj=>by
   have hjl:jj<ys.length*re.size:=by rw[←hl2'];exact(Q8.1 hj).1
   rw[hcs,QV hjl]at hj;rw[ZI];simp only[World.cell?,q2];simpa using hj
  have fin:∀(vs:List Value) (cp:Nat),(execOp a.eval o).run P w= .ok (.value (.slice (some ⟨w.heap.size,0,none⟩) ys.length cp)) (w.drew.alloc (.cells vs.toArray e))→
    vs.take (ys.length*re.size)=cs2→ys.length≤cp→ ∃cv E' w',((execOp a.eval o).run P w= .ok (.value cv) w'∨((execOp a.eval o).run P w= .ok .skip w'∧cv=undef))∧VR E' (.sl re.size ys .any) cv∧Zt m H E' w'∧Ext m E w E' w':=by
   intro vs cp hrun hvs hcap;obtain⟨hh1,hxx⟩:=hr.newRow vs.toArray e (w1:=w.drew) rfl rfl rfl (fun _=>Uj _) rfl;refine⟨_,_,_,.inl hrun,?_,hh1,hxx⟩;refine VR.WW (cs:=cs2) hk (q7.mono hr.norm hxx.le) (fun jj u hj=>?_) hcap hml trivial;simp only[Env.addRow,if_true,QF];have hlt:jj<ys.length*re.size:=by rw[←hl2'];exact(Q8.1 hj).1
   rw[←hvs,QV hlt]at hj;simpa using hj
  have hb48:Builtin.nextslicecap ys.length 0*i'.bytes≤281474976710656:=growslice_fits om (by rw[hf'.bytes];exact hby);rcases hxv.Vd with⟨⟨a1,e1,ea1⟩,ex,_⟩|⟨b1,off1,cap1,cs1,e1,hkx,hvx,hFx,hc1,_,how⟩
  ·obtain rfl:=ea1 sm;have hr1:=run_append_nil (P:=P) w t o.type e i' z' hu hf'.info hf'.zero ⟨g,0,none⟩ ys.length cap cs2 hl2 hn2 h0 om (by rw[hf'.bytes];omega);refine fin (cs2++(Builtin.zeroCells z'.cells (grownCap w ys.length 0 e - ys.length)).toList) (grownCap w ys.length 0 e) ?_ ?_ (grownCap_ge w _ _ _)
   ·rw[he,e1,hye,hr1];simp only[Result.andThen_ok];congr 3
    apply Qar;simp
   ·rw[MB om,Q5 om]
  ·have hcap1:cap1=0:=how;subst hcap1;have hr1:=run_append_grow (P:=P) w t o.type e i' z' hu hf'.info hf'.zero ⟨b1,off1,none⟩ 0 0 [] sm sm ⟨g,0,none⟩ ys.length cap cs2 hl2 hn2 om om (by simpa using hb48);simp only[QY,QF]at hr1;refine fin (cs2++(Builtin.zeroCells z'.cells (grownCap w ys.length 0 e - ys.length)).toList) (grownCap w ys.length 0 e) ?_ ?_ (grownCap_ge w _ _ _)
   ·rw[he,e1,hye];simp only[QB];rw[hr1];simp only[Result.andThen_ok];congr 3
    apply Qar;simp
   ·rw[MB om,Q5 om]
end
section
variable {cs:List AV} {L:List (Nat×Ze)} {tm:List (Nat×AV)}
theorem Zd3{n N:Nat}{H:Za}{j0 j i k0:Nat}(e k:Nat)(hb:lkb L j0=some (.box cs))(hi:cs[i]? =some (.sl k0 [] .full))(hj:lkb L j=none):
  AWk n N ⟨tm,L,H⟩ ⟨tm,setb (setb L j (.buf e k 0)) j0 (.box (cs.set i (.sl k [] (.buf n j)))),H⟩:=fun B E w a hs=>by
 have h:=hs.heap;obtain⟨b0,hm0,c,t,hc,hv⟩:=h.box n j0 cs (Qr n) (by simp only[full,if_true];exact hb);obtain⟨hil,hie⟩:=Q8.1 hi;have hvi:=hv.2 i hil (by rw[hv.1];exact hil);rw[hie]at hvi;have hval:∃ad,c.toList[i]'(by rw[hv.1];exact hil)= .slice ad 0 0∧ ∀x,ad=some x→x.spot=none:=by
  generalize c.toList[i]'(by rw[hv.1];exact hil)=x at hvi;cases hvi with
  |slnil _ _ a ho ha=>obtain rfl:=ha sm;exact⟨none,rfl,fun _ e=>by cases e⟩
  |sl _ _ _ b off cap c hk hc hv hcap hm ho=>
   have:cap=0:=ho;subst this;exact⟨_,rfl,fun _ e=>by cases e;rfl⟩
 obtain⟨ad,hval,hsp⟩:=hval;have hfree:full n L H n j=none:=by simp only[full,if_true];exact hj
 obtain⟨hh,hx⟩:=h.adopt (Qr n) hfree ad e k false;have hne:j0≠j:=fun e=>by rw[e,hj]at hb;cases hb
 have hm1:(E.Yw n j (.slice ad 0 0)).m n j0=some b0:=hm0;obtain⟨hh2,hx2⟩:=hh.turn (w':=w) (.inl hm1) (.box (cs.set i (.sl k [] (.buf n j)))) (fun hg=>absurd (hh.m_g hm1) hg) rfl rfl rfl (fun _=>Qe _) rfl (fun _ _=>rfl) (fun o=>hh.mF _ _ _ o hm1)
  ⟨b0,hm1,c,t,hc,by rw[Mc];exact hv.1,fun i' h1 h2=>by
   rw[Gf];split
   ·rename_i e1;subst e1;rw[hval]at hvi⊢;cases hvi with
    |slnil _ _ _ ho ha=>exact .slnil k _ _ (by simp[Zaj,Env.Yw]) (fun _=>ha sm)
    |sl _ _ _ b off cap c hk hc hv hcap hm ho=>exact .sl k [] _ b off 0 c (fun i h=>absurd h (Qm _)) (fun i j h=>absurd h (Qm _)) (fun i h=>absurd h (Qm _)) (Qe _) hm (by simp[Zaj,Env.Yw])
   ·exact(hv.2 i' (by simpa using h1) h2).mono h.norm hx.le⟩
 have hxx:=hx.trans hx2;refine⟨_,⟨hs.size,hs.defs.ext hxx,fun t'=>(hs.tmps t').mono h.norm hxx.le,?_,hs.out⟩,hxx.mono (Uj n)⟩;show Zt (n+1) (full n (setb (setb L j _) j0 _) H) _ _;rw[Zm,Zm];exact hh2
theorem Zgt{cx:Cx}{c:Code}{k:List Itm}{Q:Exit→Zb→Prop}{H:Za}{k0:Nat}(j0 j i e sz:Nat)(hb:lkb L j0=some (.box cs))(hi:cs[i]? =some (.sl k0 [] .full))(hj:lkb L j=none)
  (h:AKc cx (.code c::k) Q ⟨tm,setb (setb L j (.buf e sz 0)) j0 (.box (cs.set i (.sl sz [] (.buf cx.n j)))),H⟩):AKc cx (.code c::k) Q ⟨tm,L,H⟩:=
 ZK (Zd3 e sz hb hi hj) h
theorem WkS.any(k:Nat)(xs:List AV)(o:Own):WkS (.sl k xs o) (.sl k xs .any):=.sl k xs xs o rfl fun _ _ _=>.refl _
end
end Go.Abs

namespace Go.Proofs.YtmdeagmbfhbbnaaGreatDoorR
open Go.Abs
set_option maxRecDepth 100000
def Zuf(t:Tm)(b:Bnd)(n:Nat)(H:Za)(i:Nat):Zb:=⟨[(5,.int .i64 i),(1,.sl 5 (b.map eBd) .any),(2,.ptr n 2 0),(4,.ptr n 4 0)],[(2,.box t.cs),(4,.box [.int .u8 0,.int .i64 0,.str [],.sl 4 [] .full])],H⟩
def Zs4(t:Tm)(b:Bnd)(n:Nat)(H:Za)(i:Nat):Zb:=⟨[(7,.int .i64 i),(6,.sl 4 (((t.args.take i).map (ZN b)).map Tm.enc) (.buf n 200)),(1,.sl 5 (b.map eBd) .any),(2,.ptr n 2 0),(4,.ptr n 4 0)],[(200,.buf 40 4 i),(2,.box t.cs),(4,.box [.int .u8 0,.int .i64 0,.str [],.sl 4 [] .full])],H⟩
theorem Zsc(b:Bnd)(t:Tm):ZN b t=match (if t.kind=3 then Zz t.name b else none)with
  |some v=>v
  |none=>.mk t.kind t.num t.name (t.args.map (ZN b)):=by
 cases t;rw[ZN,Jg];rfl
theorem w17(b:Bnd)(hb:b.length≤1000000)(t:Tm)(ht:t.Good):Pure Tryz.prog 17 [t.enc,Zk b] (ZN b t).enc:=by
 intro n H;have ih:∀u∈t.args,Pure Tryz.prog 17 [u.enc,Zk b] (ZN b u).enc:=fun u hu=>w17 b hb u (ht.arg hu)
 have hl:=ht.len;have hbi:∀q,Inside n q (.sl 5 (b.map eBd) .any):=fun q=>(Zx n b).inside
 have ho:∀(q:Nat→Prop) (r:List Tm),q 200→Inside n q (.sl 4 (r.map Tm.enc) (.buf n 200)):=fun q r h=>Abs.ZW (fun x hx=>by obtain⟨u,_,rfl⟩:=Qb.1 hx;exact Tm.blw n u) h
 have hap:=Zsc b t;refine aF Tryz.func17 fun B=>?_
 refine nR ?_;refine nR ?_;refine kK ?_;refine Yc (Zuf t b n H) (fun i=>t.kind=3→Zz t.name b=Zz t.name (b.drop i)) b.length rfl ?_ (fun _=>rfl) ?_
 ·exact KK
 intro i hi hq;refine Ya rfl ?_;rcases Qg i b.length with h|h
 ·rw[Qw h]at hq;simp only[Zz]at hq;refine nq h ?_;refine nT ?_;cases hk:(t.kind==3)with
  |false=>
   have hk':¬t.kind=3:=by simpa using hk
   refine dq hk ?_;refine nF ?_;refine nR ?_;refine nN ?_;refine⟨fun e=>absurd e hk',?_⟩;exact KK
  |true=>
   have hk':t.kind=3:=by simpa using hk
   have hq:=hq hk';by_cases hnm:b[i].1=t.name
   ·have e1:(t.name==b[i].1)=true:=by simp[hnm]
    rw[if_pos hnm]at hq;rw[if_pos hk',hq]at hap;refine nD drawO ?_;simp only[go_sem,simprocAttr,hk,getD_map eBd _ _ h,h,e1];refine nT ?_;refine nr ?_;simp only[go_sem,simprocAttr,getD_map eBd _ _ h,h];refine nW ?_;rw[hap];refine ZX (.inl rfl) _ n 4 0 b[i].2.cs sS sF rfl (Qe _) sS ?_ (Tm.blw _ _) rfl;exact xS
   ·have e1:(t.name==b[i].1)=false:=by simp;exact fun e=>hnm e.symm
    rw[if_neg hnm]at hq;refine nD drawO ?_;simp only[go_sem,simprocAttr,hk,getD_map eBd _ _ h,h,e1];refine nF ?_;refine nR ?_;refine nN ?_;refine⟨fun _=>hq,?_⟩;exact KK
 ·have hap2:ZN b t= .mk t.kind t.num t.name (t.args.map (ZN b)):=by
   rw[hap];by_cases hk:t.kind=3
   ·rw[if_pos hk,hq hk,Uk h];rfl
   ·rw[if_neg hk]
  rw[hap2];refine nq (QE.2 h) ?_;refine nF ?_;refine nX ?_;refine nR ?_;refine nR ?_;refine kK ?_;refine XB 6 200 40 4 rfl rfl ?_;refine Zr (Zs4 t b n H) t.args.length rfl ?_ ?_
  ·exact KK
  intro j hj;refine Ya rfl ?_;rcases Qg j t.args.length with h'|h'
  ·have hm:((t.args.take j).map (ZN b)).map Tm.enc++[(ZN b t.args[j]).enc]=((t.args.take (j+1)).map (ZN b)).map Tm.enc:=by rw[Qn h',QG,QG];rfl
   have hmin:(t.args.take j).length=j:=Uo hj;refine nr ?_;refine aq h' ?_;refine nT ?_;refine nr ?_;simp only[go_sem,simprocAttr,Tm.Zp _ _ h',h'];refine WM (Zf Tryz.func17 rfl rfl) (ih _ (Qa h')) (by simp only[go_sem,simprocAttr,Zk]) ?_;simp only[go_sem,simprocAttr,Zk];simp only[go_sem,simprocAttr,hmin];refine⟨by first|exact⟨rfl,dc⟩|exact rfl,⟨Zn om,om⟩,?_⟩;rw[hm];refine nR ?_;refine nN ?_;exact KK
  ·have hj':j=t.args.length:=by omega
   subst hj';refine nr ?_;simp only[go_sem,simprocAttr,Uh];refine nF ?_;refine nX ?_;refine nt0 ?_;refine nR ?_;refine nV ?_;refine ZX (.inl rfl) _ n 4 0 [.int .u8 t.kind,.int .i64 t.num,.str t.name,.sl 4 ((t.args.map (ZN b)).map Tm.enc) (.buf n 200)] sS sF rfl (Qe _) sS ?_ (Tm.blw _ _) rfl;refine aS ?_;rw[Tm.Vx];exact .deep (.Zei ⟨.refl _,.refl _,.refl _,.any _ _ _,trivial⟩)
termination_by SizeOf.sizeOf t
decreasing_by exact Tm.Xm hu
def sw9(l2 b2:Nat)(A:List Am)(H:Za)(i:Nat):Zb:=
 ⟨[(4,.int .i64 i),(3,.ptr l2 b2 0),(0,.sl 2 (A.map Am.enc) .any)],[],put H l2 b2 (Wu sto0 (A.take i))⟩
theorem w9(n:Nat)(H:Za)(l2 b2:Nat)(A:List Am)(hl2:l2<n)(hf:YF H l2 b2)(hg:JO A)(hlen:A.length≤1000000)(hn:0<n)(hT:Tabs H):
  Zi Tryz.prog n 9 [.sl 2 (A.map Am.enc) .any] H (fun r H'=>r= .ptr l2 b2 0∧H'=put H l2 b2 (Wu sto0 A)):=by
 refine aF Tryz.func9 fun B=>?_
 refine nR ?_;refine nR ?_;refine Zsw rfl l2 b2 hl2 hf sS ?_;refine aS ?_;refine nR ?_;refine kK ?_;have hpi:∀q,Inside n q (.ptr l2 b2 0):=fun q=>.ptr _ _ _ (.inl hl2)
 refine Zr (sw9 l2 b2 A H) A.length rfl ?_ ?_
 ·exact KK
 intro i hi;refine Ya rfl ?_;have hok:Ok (Wu sto0 (A.take i)):=ok0.Wu fun x hx=>hg x (UM hx)
 rcases Qg i A.length with h|h
 ·have hgi:=hg _ (Qa h);have hnx2:=ZnA sto0 A i h;refine nq h ?_;refine nT ?_;refine nr ?_;simp only[go_sem,simprocAttr,Am.Zp _ _ h,h];refine ZsC rfl l2 b2 _ A[i] rfl hl2 hf hok.fit hgi hn hT sS ?_;rw[←hnx2];refine aS ?_;refine nR ?_;refine nN ?_;exact KK
 ·refine nq (QE.2 h) ?_;refine nF ?_;refine nX ?_;have hi':i=A.length:=by omega
  subst hi';rw[QM];refine nR ?_;refine nV ?_;exact Zo (.refl _) (.ptr _ _ _ hl2) ⟨rfl,rfl⟩
theorem call9{cx:Cx}{op:Oper}{args:List Operand}{ts:List TypeId}{F:Zb→Prop}{tm:List (Nat×AV)}{L:List (Nat×Ze)}{H:Za}(hP:cx.P=Tryz.prog)(l2 b2:Nat)(A:List Am)(o:Own)(hl2:l2<cx.n)(hf:YF H l2 b2)(hg:JO A)(hlen:A.length≤1000000)
  (hn:0<cx.n) (hT:Tabs H) (ha:Yo cx.T (evT tm) args ts=[.sl 2 (A.map Am.enc) o]) (hF:F ⟨Yl tm op.dst (.ptr l2 b2 0),L,put H l2 b2 (Wu sto0 A)⟩):Vg cx false op (.func 9) args ts ⟨tm,L,H⟩ F:=by
 obtain⟨P,T,φ,n,N⟩:=cx;subst hP;have h:=w9 (n+1) (full n L H) l2 b2 A (Gy hl2) (hf.full hl2 L) hg hlen (QW _) (hT.full hn);rw[Zbw n l2 b2 _ L H (Qat hl2)]at h;refine YW (caps:=[]) (avs:=[.sl 2 (A.map Am.enc) o]) (Qc:=fun r H'=>r= .ptr l2 b2 0∧H'=full n L (put H l2 b2 (Wu sto0 A))) rfl (Zf Tryz.func9 rfl rfl) (Zi.wk h ⟨.any _ _ _,trivial⟩) ha ?_;rintro r H1 ⟨rfl,rfl⟩;exact⟨L,_,rfl,ZaT hl2,hF⟩
theorem e24(x:Int):Pure Tryz.prog 24 [.int .i64 x] (Yg x).enc:=by
 intro n H;refine aF Tryz.func24 fun B=>?_
 refine nR ?_;refine nR ?_;refine nV ?_;refine ZX (.inl rfl) _ n 2 0 [.int .u8 1,.int .i64 x,.str [],.sl 4 [] .full] sS sF rfl (Qe _) sS ?_ (Tm.blw _ _) rfl;rw[Tm.Vx];exact .deep (.Zei ⟨.refl _,.refl _,.refl _,.any _ _ _,trivial⟩)
theorem e23(s:Str)(a:List Tm):Pure Tryz.prog 23 [.str s,.sl 4 (a.map Tm.enc) .any] (Tm.mk 5 0 s a).enc:=by
 intro n H;refine aF Tryz.func23 fun B=>?_
 refine nR ?_;refine nR ?_;refine nV ?_;refine ZX (.inl rfl) _ n 4 0 [.int .u8 5,.int .i64 0,.str s,.sl 4 (a.map Tm.enc) .any] sS sF rfl (Qe _) sS ?_ (Tm.blw _ _) rfl;rw[Tm.Vx];exact .deep (.Zei ⟨.refl _,.refl _,.refl _,.any _ _ _,trivial⟩)
theorem e30(a b:Tm):Pure Tryz.prog 30 [a.enc,b.enc] (Tm.mk 6 0 [] [a,b]).enc:=by
 intro n H;refine aF Tryz.func30 fun B=>?_
 refine nR ?_;refine nR ?_;refine⟨rfl,?_⟩;refine nV ?_;refine ZX (.inl rfl) _ n 4 0 [.int .u8 6,.int .i64 0,.str [],.sl 4 [a.enc,b.enc] .full] sS sF rfl (Qe _) sS ?_ (Tm.blw _ _) rfl;have he:(Tm.mk 6 0 [] [a,b]).enc= .agg [.int .u8 6,.int .i64 0,.str [],.sl 4 [a.enc,b.enc] .any]:=by
  rw[Tm.Vx];simp only[Tm.args,Qs,Uy,Tm.kind,Tm.num,Tm.name]
 rw[he];exact .deep (.Zei ⟨.refl _,.refl _,.refl _,.any _ _ _,trivial⟩)
theorem e22(s:Str)(a:List Tm):Pure Tryz.prog 22 [.str s,.sl 4 (a.map Tm.enc) .any] (Lt.mk 1 false ⟨s,a⟩ 0 zT zT).enc:=by
 intro n H;refine aF Tryz.func22 fun B=>?_
 refine nR ?_;refine nR ?_;refine nV ?_;refine ZX (.inl rfl) _ n 4 0 [.int .u8 1,.bool false,.str s,.sl 4 (a.map Tm.enc) .any,.int .u8 0,.int .u8 0,.int .i64 0,.str [],.sl 4 [] .full,.int .u8 0,.int .i64 0,.str [],.sl 4 [] .full] sS sF rfl (Qe _) sS ?_ (Lt.blw _ _) rfl;exact .deep (.Zei ⟨.refl _,.refl _,.refl _,.any _ _ _,.refl _,.refl _,.refl _,.refl _,.any _ _ _,.refl _,.refl _,.refl _,.any _ _ _,trivial⟩)
theorem e28(o:Int)(a b:Tm):Pure Tryz.prog 28 [.int .u8 o,a.enc,b.enc] (ZfZ o a b).enc:=by
 intro n H;refine aF Tryz.func28 fun B=>?_
 refine nR ?_;refine nR ?_;refine nV ?_;refine ZX (.inl rfl) _ n 6 0 [.int .u8 2,.bool false,.str [],.sl 4 [] .full,.int .u8 o,.int .u8 a.kind,.int .i64 a.num,.str a.name,.sl 4 (a.args.map Tm.enc) .any,.int .u8 b.kind,.int .i64 b.num,.str b.name,.sl 4 (b.args.map Tm.enc) .any] sS sF rfl (Qe _) sS ?_ (Lt.blw _ _) rfl;exact .deep (.Zei ⟨.refl _,.refl _,.refl _,.any _ _ _,.refl _,.refl _,.refl _,.refl _,.any _ _ _,.refl _,.refl _,.refl _,.any _ _ _,trivial⟩)
theorem ZlT(s:Str)(x y:Tm):Pure Tryz.prog 22 [.str s,.sl 4 [x.enc,y.enc] .full] (Lt.mk 1 false ⟨s,[x,y]⟩ 0 zT zT).enc:=Pure.args (e22 s [x,y]) ⟨.refl _,.any _ _ _,trivial⟩
theorem Zre(s:Str)(x y:Tm):Pure Tryz.prog 23 [.str s,.sl 4 [x.enc,y.enc] .full] (Tm.mk 5 0 s [x,y]).enc:=Pure.args (e23 s [x,y]) ⟨.refl _,.any _ _ _,trivial⟩
theorem ZrS(s:Str)(x y:Tm):Pure Tryz.prog 22 [.str s,.sl 4 [x.enc,y.enc] .full] (.agg [.int .u8 1,.bool false,.str s,.sl 4 [x.enc,y.enc] .any,.int .u8 0,.int .u8 0,.int .i64 0,.str [],.sl 4 [] .any,.int .u8 0,.int .i64 0,.str [],.sl 4 [] .any]):=ZlT s x y
theorem e25:Pure Tryz.prog 25 [] (.sl 2 (exA.map Am.enc) .any):=by
 intro n H;refine aF Tryz.func25 fun B=>?_
 refine nR ?_;refine nR ?_;refine cP (e24 1) ?_;refine cP (e24 2) ?_;refine⟨rfl,?_⟩;refine cP (ZrS [112] (Yg 1) (Yg 2)) ?_;refine cP (e24 2) ?_;refine cP (e24 3) ?_;refine⟨rfl,?_⟩;refine cP (ZrS [112] (Yg 2) (Yg 3)) ?_;refine cP (e24 3) ?_;refine cP (e24 5) ?_;refine⟨rfl,?_⟩;refine cP (ZrS [112] (Yg 3) (Yg 5)) ?_;refine⟨rfl,?_⟩;refine nV ?_;exact Zc (.any _ _ _) (YM exA) rfl
def ZuE(c:Int):Bool:=c==0
def Zu4(c:Int):Bool:=c !=0
def Zvs(c:Int):Bool:=decide (c<0)
def ZuL(c:Int):Bool:=decide (c≤0)
def Zuv(c:Int):Bool:=decide (c>0)
def Zut(c:Int):Bool:=decide (c ≥ 0)
theorem Zvi(c:Int):Pure Tryz.prog 156 [.int .i64 c] (.bool (ZuE c)):=by
 intro n H;refine aF Tryz.func156 fun B=>?_
 refine nR ?_;refine nR ?_;refine nV ?_;exact Zc (.refl _) (.bool _) rfl
theorem Zvh(c:Int):Pure Tryz.prog 157 [.int .i64 c] (.bool (Zu4 c)):=by
 intro n H;refine aF Tryz.func157 fun B=>?_
 refine nR ?_;refine nR ?_;refine nV ?_;exact Zc (.refl _) (.bool _) rfl
theorem ZuG(c:Int):Pure Tryz.prog 158 [.int .i64 c] (.bool (Zvs c)):=by
 intro n H;refine aF Tryz.func158 fun B=>?_
 refine nR ?_;refine nR ?_;refine nV ?_;exact Zc (.refl _) (.bool _) rfl
theorem ZvE(c:Int):Pure Tryz.prog 159 [.int .i64 c] (.bool (ZuL c)):=by
 intro n H;refine aF Tryz.func159 fun B=>?_
 refine nR ?_;refine nR ?_;refine nV ?_;exact Zc (.refl _) (.bool _) rfl
theorem ZuB(c:Int):Pure Tryz.prog 160 [.int .i64 c] (.bool (Zuv c)):=by
 intro n H;refine aF Tryz.func160 fun B=>?_
 refine nR ?_;refine nR ?_;refine nV ?_;exact Zc (.refl _) (.bool _) rfl
theorem ZuT(c:Int):Pure Tryz.prog 161 [.int .i64 c] (.bool (Zut c)):=by
 intro n H;refine aF Tryz.func161 fun B=>?_
 refine nR ?_;refine nR ?_;refine nV ?_;exact Zc (.refl _) (.bool _) rfl
theorem j101(op:Int)(h0:0≤op∧op≤255)(a b:Tm)(ha:a.Good)(hb:b.Good):Pure Tryz.prog 101 [.int .u8 op,a.enc,b.enc] (.bool (XL op a b)):=by
 intro n H;have hu:∀x:Int,0≤x→x≤255→IntKind.i64.wrap x=x:=fun x h1 h2=>iw
 have harr:Zjd tt 201=some (7,⟨.func,1,8,[.nilf]⟩):=rfl;have hsl:sliceOf tt 201=none:=rfl;refine aF Tryz.func101 fun B=>?_
 refine nR ?_;refine nq harr ?_;by_cases hop:1≤op∧op≤6
 ·have hc:op=1∨op=2∨op=3∨op=4∨op=5∨op=6:=by omega
  rcases hc with rfl|rfl|rfl|rfl|rfl|rfl
  ·have hd:decide (IntKind.i64.wrap 1<7)=true:=by decide
   refine nD drawO ?_;simp only[go_sem,simprocAttr,harr,hsl,hd];refine cP (a53 a b ha hb) ?_;refine YD (avs:=[.int .i64 (cmpT a b)]) rfl (Zf Tryz.func156 rfl rfl) (Zvi (cmpT a b) _ _) rfl ?_;simp only[go_sem,simprocAttr];refine nV ?_;exact Zc (.refl _) (.bool _) rfl
  ·have hd:decide (IntKind.i64.wrap 2<7)=true:=by decide
   refine nD drawO ?_;simp only[go_sem,simprocAttr,harr,hsl,hd];refine cP (a53 a b ha hb) ?_;refine YD (avs:=[.int .i64 (cmpT a b)]) rfl (Zf Tryz.func157 rfl rfl) (Zvh (cmpT a b) _ _) rfl ?_;simp only[go_sem,simprocAttr];refine nV ?_;exact Zc (.refl _) (.bool _) rfl
  ·have hd:decide (IntKind.i64.wrap 3<7)=true:=by decide
   refine nD drawO ?_;simp only[go_sem,simprocAttr,harr,hsl,hd];refine cP (a53 a b ha hb) ?_;refine YD (avs:=[.int .i64 (cmpT a b)]) rfl (Zf Tryz.func158 rfl rfl) (ZuG (cmpT a b) _ _) rfl ?_;simp only[go_sem,simprocAttr];refine nV ?_;exact Zc (.refl _) (.bool _) rfl
  ·have hd:decide (IntKind.i64.wrap 4<7)=true:=by decide
   refine nD drawO ?_;simp only[go_sem,simprocAttr,harr,hsl,hd];refine cP (a53 a b ha hb) ?_;refine YD (avs:=[.int .i64 (cmpT a b)]) rfl (Zf Tryz.func159 rfl rfl) (ZvE (cmpT a b) _ _) rfl ?_;simp only[go_sem,simprocAttr];refine nV ?_;exact Zc (.refl _) (.bool _) rfl
  ·have hd:decide (IntKind.i64.wrap 5<7)=true:=by decide
   refine nD drawO ?_;simp only[go_sem,simprocAttr,harr,hsl,hd];refine cP (a53 a b ha hb) ?_;refine YD (avs:=[.int .i64 (cmpT a b)]) rfl (Zf Tryz.func160 rfl rfl) (ZuB (cmpT a b) _ _) rfl ?_;simp only[go_sem,simprocAttr];refine nV ?_;exact Zc (.refl _) (.bool _) rfl
  ·have hd:decide (IntKind.i64.wrap 6<7)=true:=by decide
   refine nD drawO ?_;simp only[go_sem,simprocAttr,harr,hsl,hd];refine cP (a53 a b ha hb) ?_;refine YD (avs:=[.int .i64 (cmpT a b)]) rfl (Zf Tryz.func161 rfl rfl) (ZuT (cmpT a b) _ _) rfl ?_;simp only[go_sem,simprocAttr];refine nV ?_;exact Zc (.refl _) (.bool _) rfl
 ·have e:XL op a b=false:=by
   unfold XL;rw[if_neg om,if_neg om,if_neg om,if_neg om,if_neg om,if_neg om]
  rw[e];by_cases hz:op=0
  ·subst hz;refine nD drawO ?_;refine aq2 harr hsl ?_;refine nV ?_;exact Zc (.refl _) (.bool _) rfl
  ·have hd0:decide (0<op)=true:=by simp;omega
   have hd:decide (IntKind.i64.wrap op<7)=false:=by rw[hu op h0.1 h0.2];simp;omega
   refine nD drawO ?_;simp only[go_sem,simprocAttr,harr,hsl,hd0,hd];refine nV ?_;exact Zc (.refl _) (.bool _) rfl
theorem j133(e f:Int):Pure Tryz.prog 133 [eInt e,eInt f] (eInt (V9 e f)):=by
 intro n H;refine aF Tryz.func133 fun B=>?_
 refine nR ?_;cases h1:(e==3)with
 |true=>
  have e1:e=3:=by simpa using h1
  refine nq h1 ?_;refine nT ?_;refine nR ?_;refine nV ?_;have e2:V9 e f=e:=by rw[V9,if_pos (.inl e1)]
  rw[e2];exact Zc (.refl _) (.int _ _) rfl
 |false=>
  have e1:¬e=3:=by simpa using h1
  cases h2:(f==0)with
  |true=>
   have e2:V9 e f=e:=by rw[V9,if_pos (.inr (by simpa using h2))]
   refine nq2 h1 h2 ?_;refine nT ?_;refine nR ?_;refine nV ?_;rw[e2];exact Zc (.refl _) (.int _ _) rfl
  |false=>
   have e3:¬f=0:=by simpa using h2
   have e2:V9 e f=f:=by rw[V9,if_neg om]
   refine nq2 h1 h2 ?_;refine nF ?_;refine nR ?_;refine nV ?_;rw[e2];exact Zc (.refl _) (.int _ _) rfl
theorem e233(x:Int):Pure Tryz.prog 233 [.int .i64 x] (Yg x).enc:=by
 intro n H;refine aF Tryz.func233 fun B=>?_
 refine nR ?_;refine nR ?_;refine nV ?_;refine ZX (.inl rfl) _ n 2 0 [.int .u8 1,.int .i64 x,.str [],.sl 4 [] .full] sS sF rfl (Qe _) sS ?_ (Tm.blw _ _) rfl;refine aS ?_;exact .deep (.Zei ⟨.refl _,.refl _,.refl _,.nil _ _ _,trivial⟩)
theorem Zax{n:Nat}(l:List Int):Below n (.sl 1 (l.map eInt) .any):=ZC fun x hx=>by obtain⟨y,_,rfl⟩:=Qb.1 hx;exact .int _ _
theorem ZlL(l:List Tm)(i:Nat)(h:i<l.length):Ym (l.take (i+1))=Ym (l.take i)++if l[i].kind=1 then [l[i].num]else []:=by
 unfold Ym;rw[Qn h,QaU,QG];by_cases hk:l[i].kind=1
 ·simp[hk]
 ·simp[hk]
def ZoU(l:List Tm)(n:Nat)(H:Za)(i:Nat):Zb:=
 ⟨[(7,.int .i64 i),(6,.int .i64 l.length),(5,.sl 4 (l.map Tm.enc) .any),(2,.sl 1 ((Ym (l.take i)).map eInt) (.buf n 200))],[(200,.buf 3 1 (Ym (l.take i)).length)],H⟩
theorem e199(l:List Tm)(hl:l.length≤1000000):Pure Tryz.prog 199 [.sl 4 (l.map Tm.enc) .any] (.sl 1 ((Ym l).map eInt) .any):=by
 intro n H;have hbi:∀q,Inside n q (.sl 4 (l.map Tm.enc) .any):=fun q=>(ZE l).inside
 have ho:∀(q:Nat→Prop) (r:List Int),q 200→Inside n q (.sl 1 (r.map eInt) (.buf n 200)):=fun q r h=>Abs.ZW (fun x hx=>by obtain⟨u,_,rfl⟩:=Qb.1 hx;exact .int _ _) h
 refine aF Tryz.func199 fun B=>?_
 refine nR ?_;refine nR ?_;refine kK ?_;refine XB 2 200 3 1 rfl rfl ?_;refine Zr (ZoU l n H) l.length rfl ?_ ?_
 ·exact KK
 intro i hi;refine Ya rfl ?_;rcases Qg i l.length with h|h
 ·have hs:=ZlL l i h;have hil:(Ym (l.take i)).length≤1000000:=by
   have:(Ym (l.take i)).length≤(l.take i).length:=by unfold Ym;rw[Qv];exact UH _ _
   rw[QI]at this;omega
  refine nq h ?_;refine nT ?_;refine nr ?_;simp only[go_sem,simprocAttr,Tm.Zp _ _ h,h];by_cases hk:l[i].kind=1
  ·have hk':(l[i].kind==1)=true:=by simp[hk]
   rw[if_pos hk]at hs;have hm:((Ym (l.take i)).map eInt)++[.int .i64 l[i].num]=(Ym (l.take (i+1))).map eInt:=by rw[hs,QG];rfl
   have hm2:(Ym (l.take (i+1))).length=(Ym (l.take i)).length+1:=by rw[hs];simp
   refine nq hk' ?_;refine nT ?_;refine nR ?_;refine⟨rfl,⟨Zn om,om⟩,?_⟩;rw[hm];refine nR ?_;refine nN ?_;unfold ZoU;rw[hm2];exact KK
  ·have hk':(l[i].kind==1)=false:=by simp[hk]
   rw[if_neg hk,Qu]at hs;refine nq hk' ?_;refine nF ?_;refine nR ?_;refine nN ?_;unfold ZoU;rw[hs];exact KK
 ·have hi':i=l.length:=by omega
  subst hi';refine nq (QE.2 h) ?_;refine nF ?_;refine nX ?_;refine nt0 ?_;refine nV ?_;exact Zc (.any _ _ _) (Zax _) rfl
theorem Zbl{α β:Type}(f:β→α→β)(a:β)(l:List α)(i:Nat)(h:i<l.length):(l.take (i+1)).foldl f a=f ((l.take i).foldl f a) l[i]:=by
 rw[Qn h,U6];rfl
theorem ZtJ(x y:Int):(if y<x then y else x)=min x y:=by
 show(if y<x then y else x)=min x y;simp only[Int.max_def,Int.min_def];split<;>split<;>omega
theorem e230(x:Int)(l:List Int)(hl:l.length≤1000000):Pure Tryz.prog 230 [.sl 1 ((x::l).map eInt) .any] (.int .i64 (minS (x::l))):=by
 intro n H;have hbi:∀q,Inside n q (.sl 1 ((x::l).map eInt) .any):=fun q=>(Zax (x::l)).inside
 have hlen:((x::l).map eInt).length=l.length+1:=by simp
 have h0:¬(((l.length+1:Nat):Int)<1):=by omega
 generalize hX:(x::l).map eInt=X at hlen hbi⊢;refine aF Tryz.func230 fun B=>?_
 refine nR ?_;have hx0:∀d,X.getD 0 d= .int .i64 x:=fun d=>by rw[←hX];rfl
 have hxi:∀i (h:i<l.length) d,X.getD (i+1) d= .int .i64 l[i]:=fun i h d=>by
  rw[←hX,Qp];simp[h,eInt]
 refine nq hlen ?_;refine VB rfl rfl (by simp only[go_sem,simprocAttr,h0]) ?_;refine nq2 hlen hx0 ?_;refine⟨om,?_⟩;refine nR ?_;refine kK ?_;refine Zr (fun i=>⟨[(4,.int .i64 ((i+1:Nat):Int)),(3,.int .i64 ((l.take i).foldl min x)),(0,.sl 1 X .any)],[],H⟩) l.length rfl ?_ ?_
 ·exact KK
 intro i hi;refine Ya rfl ?_;rcases Qg i l.length with h|h
 ·have hm:=ZtJ ((l.take i).foldl min x) l[i];have h1:i+1<l.length+1:=by omega
  refine nq2 hlen h1 ?_;refine nT ?_;refine nr ?_;simp only[go_sem,simprocAttr,hlen,h1,hxi i h,hm];refine nR ?_;refine nN ?_;refine⟨h,?_⟩;rw[Zbl _ _ _ _ h];exact KK
 ·have hi':i=l.length:=by omega
  subst hi';refine nr ?_;simp only[go_sem,simprocAttr,hlen,Uh];refine nF ?_;refine nX ?_;refine nt0 ?_;refine nV ?_;exact Zc (.refl _) (.int _ _) rfl
theorem Zs9(x y:Int):(if y>x then y else x)=max x y:=by
 show(if y>x then y else x)=max x y;simp only[Int.max_def,Int.min_def];split<;>split<;>omega
theorem e231(x:Int)(l:List Int)(hl:l.length≤1000000):Pure Tryz.prog 231 [.sl 1 ((x::l).map eInt) .any] (.int .i64 (maxS (x::l))):=by
 intro n H;have hbi:∀q,Inside n q (.sl 1 ((x::l).map eInt) .any):=fun q=>(Zax (x::l)).inside
 have hlen:((x::l).map eInt).length=l.length+1:=by simp
 have h0:¬(((l.length+1:Nat):Int)<1):=by omega
 generalize hX:(x::l).map eInt=X at hlen hbi⊢;refine aF Tryz.func231 fun B=>?_
 refine nR ?_;have hx0:∀d,X.getD 0 d= .int .i64 x:=fun d=>by rw[←hX];rfl
 have hxi:∀i (h:i<l.length) d,X.getD (i+1) d= .int .i64 l[i]:=fun i h d=>by
  rw[←hX,Qp];simp[h,eInt]
 refine nq hlen ?_;refine VB rfl rfl (by simp only[go_sem,simprocAttr,h0]) ?_;refine nq2 hlen hx0 ?_;refine⟨om,?_⟩;refine nR ?_;refine kK ?_;refine Zr (fun i=>⟨[(4,.int .i64 ((i+1:Nat):Int)),(3,.int .i64 ((l.take i).foldl max x)),(0,.sl 1 X .any)],[],H⟩) l.length rfl ?_ ?_
 ·exact KK
 intro i hi;refine Ya rfl ?_;rcases Qg i l.length with h|h
 ·have hm:=Zs9 ((l.take i).foldl max x) l[i];have h1:i+1<l.length+1:=by omega
  refine nq2 hlen h1 ?_;refine nT ?_;refine nr ?_;simp only[go_sem,simprocAttr,hlen,h1,hxi i h,hm];refine nR ?_;refine nN ?_;refine⟨h,?_⟩;rw[Zbl _ _ _ _ h];exact KK
 ·have hi':i=l.length:=by omega
  subst hi';refine nr ?_;simp only[go_sem,simprocAttr,hlen,Uh];refine nF ?_;refine nX ?_;refine nt0 ?_;refine nV ?_;exact Zc (.refl _) (.int _ _) rfl
theorem e261(x:Int):Pure Tryz.prog 261 [.int .i64 x] (.bool (Xa x)):=by
 intro n H;refine aF Tryz.func261 fun B=>?_
 refine nR ?_;unfold Xa;cases h1:decide ((-2147483647:Int)≤x)with
 |true=>
  refine nq h1 ?_;exact pB
 |false=>
  refine nq h1 ?_;exact pB
theorem e260(x:Int):Pure Tryz.prog 260 [.int .i64 x] (.bool (!Xa x)):=by
 intro n H;refine aF Tryz.func260 fun B=>?_
 refine nR ?_;refine nR ?_;refine cP (e261 x) ?_;exact pB
theorem e262(op:Str):Pure Tryz.prog 262 [.str op] (.int .i64 (if op=[45]then 1 else 0)):=by
 intro n H;refine aF Tryz.func262 fun B=>?_
 refine nR ?_;by_cases h:op=[45]
 ·have h':(op==[45])=true:=by simp[h]
  rw[if_pos h];refine nq h' ?_;refine nT ?_;refine nR ?_;refine nV ?_;exact Zc (.refl _) (.int _ _) rfl
 ·have h':(op==[45])=false:=by simp[h]
  rw[if_neg h];refine nq h' ?_;refine nF ?_;refine nR ?_;refine nV ?_;exact Zc (.refl _) (.int _ _) rfl
theorem ZuC(a b:Int):Pure Tryz.prog 281 [.iptr [.int .i64 a],.iptr [.int .i64 b]] (.int .i64 (IntKind.i64.wrap (a+b))):=by
 intro n H;refine aF Tryz.func281 fun B=>?_
 refine nR ?_;refine nR ?_;refine nV ?_;exact Zc (.refl _) (.int _ _) rfl
theorem ZvK(a b:Int):Pure Tryz.prog 282 [.iptr [.int .i64 a],.iptr [.int .i64 b]] (.int .i64 (IntKind.i64.wrap (a-b))):=by
 intro n H;refine aF Tryz.func282 fun B=>?_
 refine nR ?_;refine nR ?_;refine nV ?_;exact Zc (.refl _) (.int _ _) rfl
theorem e283(a b:Int):Pure Tryz.prog 283 [.iptr [.int .i64 a],.iptr [.int .i64 b]] (.int .i64 (IntKind.i64.wrap (a*b))):=by
 intro n H;refine aF Tryz.func283 fun B=>?_
 refine nR ?_;refine nR ?_;refine nV ?_;exact Zc (.refl _) (.int _ _) rfl
theorem e284(a b:Int)(hb:b≠0):Pure Tryz.prog 284 [.iptr [.int .i64 a],.iptr [.int .i64 b]] (.int .i64 (IntKind.i64.wrap (a.tdiv b))):=by
 intro n H;refine aF Tryz.func284 fun B=>?_
 refine nR ?_;refine nR ?_;refine⟨hb,?_⟩;refine nV ?_;exact Zc (.refl _) (.int _ _) rfl
theorem e285(a b:Int)(hb:b≠0):Pure Tryz.prog 285 [.iptr [.int .i64 a],.iptr [.int .i64 b]] (.int .i64 (a.tmod b)):=by
 intro n H;refine aF Tryz.func285 fun B=>?_
 refine nR ?_;refine nR ?_;refine⟨hb,?_⟩;refine nV ?_;exact Zc (.refl _) (.int _ _) rfl
def fV(A B:AV)(f:Nat):AV:=.fn (.func f) [A,B]
abbrev MC:=List (Str×Nat)
def Zc7(A B:AV)(m:MC):List (AV×AV):=Zbb AV.str (fV A B) m
theorem ZbQ(A B:AV)(m:MC):∀p∈Zc7 A B m,YE tt 9 p.1=true:=fun p hp=>by
 obtain⟨q,_,rfl⟩:=Qb.1 hp;exact Zex _
def M5:MC:=[([43],281),([45],282),([42],283),([47],284),([92],285)]
def ZqS(r:Option Int):AV:=.tup [.int .i64 (r.getD 0),.bool r.isSome]
theorem Zvj(op:Str)(a b:Int)(ha:Xa a=true)(hb:Xa b=true):Pure Tryz.prog 263 [.str op,.int .i64 a,.int .i64 b] (ZqS (VZ op a b)):=by
 intro n H;have fit:∀{x:Int},Xa x=true→ -2147483647≤x∧x≤2147483647:=fun{x} h=>by
  unfold Xa at h;rw[Qi,decide_eq_true_eq,decide_eq_true_eq]at h;exact h
 obtain⟨a1,a2⟩:=fit ha;obtain⟨b1,b2⟩:=fit hb;refine aF Tryz.func263 fun B=>?_
 refine nR ?_;refine kK ?_;refine ZY 4 [.int .i64 a] [(0,.str op),(4,.iptr [.int .i64 a]),(5,.ptr n 5 0)] rfl ⟨.int _ _,trivial⟩ ?_ ⟨Ze.ZA ⟨.int _ _,trivial⟩,trivial⟩ ?_
 ·exact⟨.inl ⟨.refl _,.str _⟩,.inr ⟨0,rfl,rfl⟩,.inl ⟨.refl _,.ptr _ _ _ (.inr ⟨rfl,dc⟩)⟩,trivial⟩
 refine aS ?_;refine ZY 5 [.int .i64 b] [(0,.str op),(4,.iptr [.int .i64 a]),(5,.iptr [.int .i64 b])] rfl ⟨.int _ _,trivial⟩ ?_ trivial ?_
 ·exact⟨.inl ⟨.refl _,.str _⟩,.inl ⟨.refl _,(Zl (cs:=[.int .i64 a]) ⟨.int _ _,trivial⟩).inside⟩,.inr ⟨0,rfl,rfl⟩,trivial⟩
 refine aS ?_;obtain⟨X,hX⟩:∃X,X=AV.iptr [.int .i64 a]:=⟨_,rfl⟩
 obtain⟨Y,hY⟩:∃Y,Y=AV.iptr [.int .i64 b]:=⟨_,rfl⟩
 rw[←hX,←hY];have put:∀(k:Str) (f:Nat) (m:MC),ZaH (.str k) (.fn (.func f) [X,Y]) (Zc7 X Y m)=Zc7 X Y (ZfM k f m):=fun k f m=>Zlf kinj_str (fV X Y) k f m
 have p1:ZaH (.str [43]) (.fn (.func 281) [X,Y]) []=Zc7 X Y [([43],281)]:=put [43] 281 [];have p2:ZaH (.str [45]) (.fn (.func 282) [X,Y]) (Zc7 X Y [([43],281)])=Zc7 X Y [([43],281),([45],282)]:=put [45] 282 _;have p3:ZaH (.str [42]) (.fn (.func 283) [X,Y]) (Zc7 X Y [([43],281),([45],282)])=Zc7 X Y [([43],281),([45],282),([42],283)]:=put [42] 283 _;have p4:ZaH (.str [47]) (.fn (.func 284) [X,Y]) (Zc7 X Y [([43],281),([45],282),([42],283)])=Zc7 X Y [([43],281),([45],282),([42],283),([47],284)]:=put [47] 284 _;have p5:ZaH (.str [92]) (.fn (.func 285) [X,Y]) (Zc7 X Y [([43],281),([45],282),([42],283),([47],284)])=Zc7 X Y M5:=put [92] 285 _;refine nr ?_;simp only[go_sem,simprocAttr,p1,p2,p3,p4,p5];refine⟨ZbQ _ _ _,ZbQ _ _ _,ZbQ _ _ _,ZbQ _ _ _,ZbQ _ _ _,?_⟩;have look:=ZqU kinj_str (fV X Y) ⟨.func,1,8,[.nilf]⟩ op M5;change lookA _ (.str op) (Zc7 X Y M5) false=_ at look;generalize hE:Zc7 X Y M5=E5 at look⊢;have hYi:∀q,Inside n q Y:=fun q=>by rw[hY];exact(Zl (cs:=[.int .i64 b]) ⟨.int _ _,trivial⟩).inside
 have hXi:∀q,Inside n q X:=fun q=>by rw[hX];exact(Zl (cs:=[.int .i64 a]) ⟨.int _ _,trivial⟩).inside
 have hfi:∀q f,Inside n q (.fn (.func f) [X,Y]):=fun q f=>Inside.fn _ _ fun i hi=>Yi.mem (l:=[X,Y]) (p:=fun c=>Inside n q c) ⟨hXi q,hYi q,trivial⟩ _ (Qa hi)
 have tail:∀f r,Pure Tryz.prog f [X,Y] (.int .i64 r)→(∃fn c,Fun Tryz.prog f fn c)→(b=0→op≠[47]∧op≠[92])→VZ op a b=(if Xa r then some r else none)→
   AKc ⟨Tryz.prog,tt,⟨none,B⟩,n,Tryz.f263.ntmps⟩ [.code (ZQ Tryz.f263).snd.snd] (PostF Tryz.prog tt n Tryz.f263.results.toList fun r' H'=>r'=ZqS (VZ op a b)∧H'=H)
    ⟨[(8,.fn (.func f) [X,Y]),(0,.str op),(5,Y)],[],H⟩:=by
  rintro f r hp ⟨fn,c,hf⟩ hb0 hc;refine kK ?_;refine VU ⟨[(32,.bool false),(8,.fn (.func f) [X,Y])],[],H⟩ ?_ ?_
  ·cases h0:(b==0)with
   |true=>
    obtain⟨o1,o2⟩:=hb0 (by simpa using h0);have o1':(op==[47])=false:=by simp[o1]
    have o2':(op==[92])=false:=by simp[o2]
    refine nr ?_;simp only[go_sem,simprocAttr,h0,hY,o1',o2'];refine nN ?_;refine⟨rfl,?_⟩;rw[←hY];exact KK
   |false=>
    refine nq2 h0 hY ?_;refine nN ?_;refine⟨rfl,?_⟩;rw[←hY];exact KK
  refine nF ?_;refine nR ?_;refine YD (avs:=[]) (caps:=[X,Y]) rfl hf (hp _ _) rfl ?_;refine aS ?_;refine nR ?_;refine cP (e261 r) ?_;rw[hc];cases hfr:Xa r with
  |false=>
   refine aS ?_;refine nT ?_;refine nR ?_;refine nV ?_;exact ZG (.refl _) (.refl _) (.int _ _) (.bool _) rfl
  |true=>
   refine aS ?_;refine nF ?_;refine nR ?_;refine nV ?_;exact ZG (.refl _) (.refl _) (.int _ _) (.bool _) rfl
 have hm:(a*b).natAbs≤2147483647*2147483647:=by rw[Int.natAbs_mul];exact QaQ om om
 by_cases h43:op=[43]
 ·have hl:lookA ⟨.func,1,8,[.nilf]⟩ (.str op) E5 false= .fn (.func 281) [X,Y]:=by rw[look,h43];rfl
  rw[hl];have hw:IntKind.i64.wrap (a+b)=a+b:=iw;exact ZK (s':=⟨[(8,.fn (.func 281) [X,Y]),(0,.str op),(5,Y)],[],H⟩) (by
   refine Zh ?_ ?_ ?_ ?_<;>repeat' first|apply q0|exact xx|apply aI
   all_goals first|exact hfi _ _|exact hYi _) (tail 281 (a+b) (by have:=ZuC a b;rw[hw,←hX,←hY]at this;exact this) ⟨_,_,Zf Tryz.func281 rfl rfl⟩ (fun _=>by rw[h43];decide) (by rw[h43];simp[VZ]))
 by_cases h45:op=[45]
 ·have hl:lookA ⟨.func,1,8,[.nilf]⟩ (.str op) E5 false= .fn (.func 282) [X,Y]:=by rw[look,h45];rfl
  rw[hl];have hw:IntKind.i64.wrap (a - b)=a - b:=iw;exact ZK (s':=⟨[(8,.fn (.func 282) [X,Y]),(0,.str op),(5,Y)],[],H⟩) (by
   refine Zh ?_ ?_ ?_ ?_<;>repeat' first|apply q0|exact xx|apply aI
   all_goals first|exact hfi _ _|exact hYi _) (tail 282 (a - b) (by have:=ZvK a b;rw[hw,←hX,←hY]at this;exact this) ⟨_,_,Zf Tryz.func282 rfl rfl⟩ (fun _=>by rw[h45];decide) (by rw[h45];simp[VZ]))
 by_cases h42:op=[42]
 ·have hl:lookA ⟨.func,1,8,[.nilf]⟩ (.str op) E5 false= .fn (.func 283) [X,Y]:=by rw[look,h42];rfl
  rw[hl];have hw:IntKind.i64.wrap (a*b)=a*b:=iw;exact ZK (s':=⟨[(8,.fn (.func 283) [X,Y]),(0,.str op),(5,Y)],[],H⟩) (by
   refine Zh ?_ ?_ ?_ ?_<;>repeat' first|apply q0|exact xx|apply aI
   all_goals first|exact hfi _ _|exact hYi _) (tail 283 (a*b) (by have:=e283 a b;rw[hw,←hX,←hY]at this;exact this) ⟨_,_,Zf Tryz.func283 rfl rfl⟩ (fun _=>by rw[h42];decide) (by rw[h42];simp[VZ]))
 by_cases h47:op=[47]
 ·have hl:lookA ⟨.func,1,8,[.nilf]⟩ (.str op) E5 false= .fn (.func 284) [X,Y]:=by rw[look,h47];rfl
  rw[hl];by_cases h0:b=0
  ·have h0':(b==0)=true:=by simp[h0]
   have o1:(op==[47])=true:=by simp[h47]
   have hc:VZ op a b=none:=by rw[h47];simp[VZ,h0]
   rw[hc];refine nq3 h0' hY o1 ?_;refine nT ?_;refine nR ?_;refine nV ?_;exact ZG (.refl _) (.refl _) (.int _ _) (.bool _) rfl
  ·have hw:IntKind.i64.wrap (a.tdiv b)=a.tdiv b:=IntWalk.i64_in _ (by
    have h1:(a.tdiv b).natAbs≤a.natAbs:=by rw[Int.natAbs_tdiv];exact Nat.div_le_self _ _
    omega)
   exact ZK (s':=⟨[(8,.fn (.func 284) [X,Y]),(0,.str op),(5,Y)],[],H⟩) (by
   refine Zh ?_ ?_ ?_ ?_<;>repeat' first|apply q0|exact xx|apply aI
   all_goals first|exact hfi _ _|exact hYi _) (tail 284 (a.tdiv b) (by have:=e284 a b h0;rw[hw]at this;rw[←hX,←hY]at this;exact this) ⟨_,_,Zf Tryz.func284 rfl rfl⟩ (fun h=>absurd h h0) (by rw[h47];simp[VZ,h0]))
 by_cases h92:op=[92]
 ·have hl:lookA ⟨.func,1,8,[.nilf]⟩ (.str op) E5 false= .fn (.func 285) [X,Y]:=by rw[look,h92];rfl
  rw[hl];by_cases h0:b=0
  ·have h0':(b==0)=true:=by simp[h0]
   have o1:(op==[92])=true:=by simp[h92]
   have o2:(op==[47])=false:=by simp[h92]
   have hc:VZ op a b=none:=by rw[h92];simp[VZ,h0]
   rw[hc];refine nr ?_;simp only[go_sem,simprocAttr,h0',hY,o1,o2];refine nT ?_;refine nR ?_;refine nV ?_;exact ZG (.refl _) (.refl _) (.int _ _) (.bool _) rfl
  ·skip
   exact ZK (s':=⟨[(8,.fn (.func 285) [X,Y]),(0,.str op),(5,Y)],[],H⟩) (by
   refine Zh ?_ ?_ ?_ ?_<;>repeat' first|apply q0|exact xx|apply aI
   all_goals first|exact hfi _ _|exact hYi _) (tail 285 (a.tmod b) (by have:=e285 a b h0;rw[←hX,←hY]at this;exact this) ⟨_,_,Zf Tryz.func285 rfl rfl⟩ (fun h=>absurd h h0) (by rw[h92];simp[VZ,h0]))
 have hl:lookA ⟨.func,1,8,[.nilf]⟩ (.str op) E5 false= .nilf:=by
  rw[look];simp only[M5,getM,Ne.symm h43,Ne.symm h45,Ne.symm h42,Ne.symm h47,Ne.symm h92,if_false];rfl
 have hc:VZ op a b=none:=by simp[VZ,h43,h45,h42,h47,h92]
 rw[hl,hc];refine nR ?_;refine nT ?_;refine nR ?_;refine nV ?_;exact ZG (.refl _) (.refl _) (.int _ _) (.bool _) rfl
theorem Zvm(op:Str)(a:List Int)(hl:a.length≤1000000):Pure Tryz.prog 235 [.str op,.sl 1 (a.map eInt) .any] (ZqS (X6 op a)):=by
 intro n H;have hbi:∀q,Inside n q (.sl 1 (a.map eInt) .any):=fun q=>(Zax a).inside
 refine aF Tryz.func235 fun B=>?_
 refine nR ?_;refine nR ?_;refine cQ (ZuP a hl 260 [] (fun x=>!Xa x) (n+1) _ ⟨⟨_,_,Zf Tryz.func260 rfl rfl⟩,fun x _ m G _ _=>e260 x m G,fun _ _=>trivial⟩) ?_;refine aS ?_;have hna:(!a.any fun x=>!Xa x)=a.all Xa:=by rw[UQ];simp
 cases hf:a.all Xa with
 |false=>
  have hc:X6 op a=none:=by unfold X6;rw[hf];rfl
  rw[hc];refine aq2 hna hf ?_;refine nF ?_;refine nR ?_;refine nV ?_;exact ZG (.refl _) (.refl _) (.int _ _) (.bool _) rfl
 |true=>
  refine aq2 hna hf ?_;refine nT ?_;refine nR ?_
  match a,hf,hbi with
  |[x],hf,hbi=>
   have hx:Xa x=true:=by simpa using hf
   have hx2:-2147483647≤x∧x≤2147483647:=by
    unfold Xa at hx;rw[Qi,decide_eq_true_eq,decide_eq_true_eq]at hx;exact hx
   have hw:IntKind.i64.wrap (0 - x)= -x:=by rw[show(0:Int) - x= -x by omega];exact iw
   have hc:X6 op [x]=if op=[45]then some (-x)else none:=by unfold X6;rw[hf];rfl
   refine nR ?_;refine nT ?_;refine nD drawO ?_;simp only[go_sem,simprocAttr,eInt];refine cP (e262 op) ?_;rw[hc];by_cases ho:op=[45]
   ·have ho':(op==[45])=true:=by simp[ho]
    rw[if_pos ho,if_pos ho];refine aq2 hw ho' ?_;refine nV ?_;refine ZG ?_ (.refl _) (.int _ _) (.bool _) rfl;refine aS ?_;rw[Int.mul_one,iw];exact .refl _
   ·have ho':(op==[45])=false:=by simp[ho]
    rw[if_neg ho,if_neg ho];refine aq2 hw ho' ?_;refine nV ?_;refine ZG ?_ (.refl _) (.int _ _) (.bool _) rfl;refine aS ?_;rw[Int.mul_zero];exact .refl _
  |[x,y],hf,hbi=>
   have hxy:Xa x=true∧Xa y=true:=by simpa using hf
   have hc:X6 op [x,y]=VZ op x y:=by unfold X6;rw[hf];rfl
   rw[hc];refine nR ?_;refine nF ?_;refine nR ?_;refine nT ?_;refine nD drawO ?_;simp only[go_sem,simprocAttr,eInt];refine cP (Zvj op x y hxy.1 hxy.2) ?_;simp only[go_sem,simprocAttr,ZqS];refine nV ?_;exact ZG (.refl _) (.refl _) (.int _ _) (.bool _) rfl
  |[],hf,hbi=>
   have hc:X6 op []=none:=by unfold X6;rw[hf];rfl
   rw[hc];refine nR ?_;refine nF ?_;refine nR ?_;refine nF ?_;refine nR ?_;refine nV ?_;exact ZG (.refl _) (.refl _) (.int _ _) (.bool _) rfl
  |x::y::z::r,hf,hbi=>
   have hc:X6 op (x::y::z::r)=none:=by unfold X6;rw[hf];rfl
   have h1:(((r.length+1+1+1:Nat):Int)==1)=false:=by simp;omega
   have h2:(((r.length+1+1+1:Nat):Int)==2)=false:=by simp;omega
   rw[hc];refine nq h1 ?_;refine nF ?_;refine nq h2 ?_;refine nF ?_;refine nR ?_;refine nV ?_;exact ZG (.refl _) (.refl _) (.int _ _) (.bool _) rfl
end Go.Proofs.YtmdeagmbfhbbnaaGreatDoorR

namespace Go.Abs
def ch(t:TypeId):List PanicEntry:=[{v:=.iface t (.agg #[]),recovered:=false}]
def Zg6(t n:Nat)(E:Env)(w:World)(Q:AV→Za→Prop)(X:Za→Prop)(e:Ending)(w':World):Prop:=
 (∃r v H' E',e= .returned v∧Q r H'∧VR E' r v∧Zt n H' E' w'∧Ext n E w E' w')∨
 (∃H' E',e= .panicked (ch t)∧X H'∧Zt n H' E' w'∧Ext n E w E' w')
def Z9(P:Program)(t n:Nat)(f:FuncId)(args:List AV)(H:Za)(Q:AV→Za→Prop)(X:Za→Prop):Prop:=
 ∀E w vs,Zt n H E w→VRs E args vs→Calls P f vs.toArray w (Zg6 t n E w Q X)
def Zdk(P:Program)(t m l:Nat)(args:List AV)(H:Za)(Q:AV→Za→Prop)(X:Za→Prop):Prop:=
 ∀E w vs,Zt m H E w→VRs E args vs→ ∃fn tmps ca cb,(Instr.yield l vs.toArray).run P w= .ok (.round l fn tmps ca cb) w∧
  ∀ro n,RoundIn (fr ro) n P l fn tmps ca cb w (Zg6 t m E w Q X)
section
variable {w' w:World} {X:Za→Prop} {Q:AV→Za→Prop} {E:Env} {t n:Nat}
theorem Zg6.mono{Q':AV→Za→Prop}{X':Za→Prop}(hq:∀r H',Q r H'→Q' r H')(hx:∀H',X H'→X' H'){e:Ending}(h:Zg6 t n E w Q X e w'):Zg6 t n E w Q' X' e w':=by
 rcases h with⟨r,v,H',E',h1,h2,h3⟩|⟨H',E',h1,h2,h3⟩
 ·exact .inl ⟨r,v,H',E',h1,hq _ _ h2,h3⟩
 ·exact .inr ⟨H',E',h1,hx _ h2,h3⟩
theorem Z9.mono{P:Program}{t n:Nat}{f:FuncId}{args:List AV}{H:Za}{Q Q':AV→Za→Prop}{X X':Za→Prop}(h:Z9 P t n f args H Q X)(hq:∀r H',Q r H'→Q' r H')(hx:∀H',X H'→X' H'):Z9 P t n f args H Q' X':=
 fun E w vs hr hv=>(h E w vs hr hv).mono fun _ _ he=>Zg6.mono hq hx he
variable {H:Za} {args:List AV} {f:FuncId} {P:Program}
theorem Zi.x(h:Zi P n f args H Q):Z9 P t n f args H Q X:=
 fun E w vs hr hv=>(h E w vs hr hv).mono fun _ _ he=>.inl he
theorem Z9.ret(h:Z9 P t n f args H Q X)(hx:∀H',¬X H'):Zi P n f args H Q:=
 fun E w vs hr hv=>(h E w vs hr hv).mono fun _ _ he=>by
  rcases he with he|⟨H',E',_,h2,_⟩
  ·exact he
  ·exact absurd h2 (hx _)
theorem Z9.wk{args':List AV}(h:Z9 P t n f args' H Q X)(hw:Wks args args'):Z9 P t n f args H Q X:=
 fun E w vs hr hv=>h E w vs hr (forall₂_vr hw hv)
def Zec(P:Program)(T:TT)(t n:Nat)(rs:List ResultVar)(Q:AV→Za→Prop)(X:Za→Prop):Exit→Zb→Prop:=fun e s=>match e with
 | .panic c=>c=ch t∧X s.H
 |e=>PostF P T n rs Q e s
variable {E':Env}
theorem Zb5{w2:World}(hx:Ext n E w E' w')(k2:∀b,b<w.heap.size→w2.heap[b]? =w'.heap[b]?)(k3:w2.os=w'.os)(k4:w2.tape=w'.tape)(k5:w2.output=w'.output)(k6:w2.drawn=w'.drawn)(k7:w2.heap.size=w'.heap.size):Ext n E w (E'.cut n) w2:=by
 refine⟨Env.ZiT hx.le,k3.trans hx.os,k4.trans hx.tape,k5.trans hx.output,fun hq=>by rw[k6];exact hx.drawn hq,by rw[k7];exact hx.size,fun b hb' ho=>?_,fun b hb' ho=>hx.own b hb' ?_⟩
 ·rw[k2 b hb'];exact hx.block b hb' ho
 ·rcases ho with⟨l,k,hm⟩|⟨l,k,hm⟩
  ·simp only[Env.cut]at hm;split at hm
   ·exact .inl ⟨l,k,hm⟩
   ·cases hm
  ·simp only[Env.cut]at hm;split at hm
   ·exact .inr ⟨l,k,hm⟩
   ·cases hm
theorem JY{P:Program}{fn:Func}{tmps:Array Value}{R:Ending→World→Prop}{m:Nat}{H:Za}{E:Env}{chain:List PanicEntry}:∀(l:List Nat) (w:World),l.Nodup→(∀D∈l,w.heap[D]? =some (.deferred (some []))∧ ¬E.own D)→Zt m H E w→
  (∀w2,Zt m H E w2→(∀b,b∉l→w2.heap[b]? =w.heap[b]?)→w2.os=w.os→w2.tape=w.tape→w2.output=w.output→w2.drawn=w.drawn→w2.heap.size=w.heap.size→R (.panicked chain) w2)→
  ∀{F:Fence} {n:Nat},LeavesInM F n P fn tmps R (l.map mark) (.panicking chain) w
 |[],w,_,_,hr,hk,_,_=>hk w hr (fun _ _=>rfl) rfl rfl rfl rfl rfl
 |D::l,w,hn,hD,hr,hk,_,_=>by
  obtain⟨h1,h2⟩:=hD D sm;obtain⟨n1,n2⟩:=Gm.1 hn;refine⟨sm,.inl ⟨D,_,rfl,run_takeDeferred h1,?_⟩⟩;refine JY l _ n2 (fun D' hD'=>?_) (hr.putObj h1 (fun _ _ _ e=>by cases e) h2) (fun w2 q1 q2 q3 q4 q5 q6 q7=>?_)
  ·obtain⟨a1,a2⟩:=hD D' (Qx _ hD');exact⟨(World.putObj_heap_other (show D'≠D from fun e=>n1 (e▸hD'))).trans a1,a2⟩
  ·refine hk w2 q1 (fun b hb=>?_) q3 q4 q5 q6 (by rw[q7,World.putObj_size]);simp only[Qk,not_or]at hb;rw[q2 b hb.2,World.putObj_heap_other hb.1]
variable {m:Nat} {fn:Func}
theorem ZeU{B:Base}{N:Nat}{s':Zb}{a':Act}(hB:B=⟨w.heap.size,[]⟩)(hs':Yn B n N s' E' a' w')(hx:Ext n E w E' w')(hX:X s'.H){F:Fence}:
  LeavesInM F m P fn a'.tmps (Zg6 t n E w Q X) a'.defers (.panicking (ch t)) w':=by
 subst hB;obtain⟨hl0,l,hl1,hl2,hl3⟩:=hs'.defs;rw[hl1,Qu];refine JY l w' hl2 (fun D hD=>(hl3 D hD).2) hs'.heap (fun w2 k1 k2 k3 k4 k5 k6 k7=>?_);have hs2:Yn ⟨w.heap.size,[]⟩ n N s' E' {a' with defers:=[]} w2:=⟨hs'.size,.nil _ (by rw[k7];exact hl0),hs'.tmps,k1,hs'.out⟩
 refine .inr ⟨s'.H,E'.cut n,rfl,hX,Zt.leave hs2,Zb5 hx (fun b hb=>k2 b (fun hm=>?_)) k3 k4 k5 k6 k7⟩;have:w.heap.size≤b:=(hl3 b hm).1;omega
theorem Jr{T:TT}(hT:TOK P T){B:Base}{s':Zb}{a':Act}(hB:B=⟨w.heap.size,[]⟩)(hs':Yn B n fn.ntmps s' E' a' w')(hx:Ext n E w E' w')
  (h:(∀x∈fn.results.toList,XW s'.tmps s'.H n s'.L T x)∧(∃r,Wks (fn.results.toList.map (ZdT s'.tmps s'.H n s'.L T)) r∧(∀v∈r,Below n v)∧Q (tupR r) s'.H)):
  LeavesInM Fence.wide 0 P fn a'.tmps (Zg6 t n E w Q X) a'.defers .returning w':=by
 obtain⟨hok,r,hw,hb,hq⟩:=h;subst hB;obtain⟨hl0,l,hl1,hl2,hl3⟩:=hs'.defs;rw[hl1,Qu];refine ZaP l w' hl2 (fun D hD=>(hl3 D hD).2) hs'.heap (fun w2 k1 k2 k3 k4 k5 k6 k7=>?_);have hs2:Yn ⟨w.heap.size,[]⟩ n fn.ntmps s' E' {a' with defers:=[]} w2:=⟨hs'.size,.nil _ (by rw[k7];exact hl0),hs'.tmps,k1,hs'.out⟩
 obtain⟨us,hu1,hu2⟩:=ZbU hT hs2 fn.results.toList hok;have hvr:=forall₂_vr hw hu2;have hvc:VRs (E'.cut n) r us:=⟨hvr.1,fun i h1 h2=>(hvr.2 i h1 h2).cut (hb _ (Qa h1))⟩
 have hres:(results fn a'.tmps).run P w2= .ok (if h:us.toArray.size=1 then us.toArray[0]else .tuple us.toArray) w2:=by
  rw[ZcR,Qah];simp only[Sem.run_bind,Sem.run_map,hu1,Result.andThen_ok,Sem.run_pure]
 refine⟨_,hres,.inl ⟨tupR r,_,s'.H,E'.cut n,rfl,hq,?_,Zt.leave hs2,Zb5 hx (fun b hb=>k2 b (fun hm=>?_)) k3 k4 k5 k6 k7⟩⟩
 ·by_cases h1:us.toArray.size=1
  ·rw[dif_pos h1];cases r with
   |nil=>have:=hvc.1;simp at this h1;rw[this]at h1;simp at h1
   |cons x r=>
    cases r with
    |nil=>
     obtain⟨v,q,rfl,h3,h4⟩:=hvc.YR;exact h3
    |cons y r=>have:=hvc.1;simp at this h1;omega
  ·rw[dif_neg h1];have:tupR r= .tup r:=by
    cases r with
    |nil=>rfl
    |cons x r=>
     cases r with
     |nil=>have:=hvc.1;simp at this h1;omega
     |cons y r=>rfl
   rw[this];exact .tup r us hvc.1 hvc.2
 ·have:w.heap.size≤b:=(hl3 b hm).1;omega
theorem Yn.start{vs:List Value}(hr:Zt n H E w)(hv:VRs E args vs)(hN:args.length≤fn.ntmps):
  Yn ⟨w.heap.size,[]⟩ n fn.ntmps ⟨numbered 0 args,[],H⟩ E {tmps:=vs.toArray++Array.replicate (fn.ntmps - vs.toArray.size) undef,defers:=[]} w:=by
 have hlen:vs.length=args.length:=hv.1;refine⟨by simp;omega,.nil _ (Qe _),fun t=>?_,?_,fun l k b hl hb=>hr.out hl hb⟩
 ·rw[lkv_numbered];simp only[Un,if_true,MI];by_cases ht:t<args.length
  ·have h1:=hv.2 t ht om;have e1:args.getD t .dead=args[t]:=by simp[Qp,Qd ht]
   have e2:(vs.toArray++Array.replicate (fn.ntmps - vs.toArray.size) undef).getD t undef=vs[t]'om:=by
    rw[Ua,MR (by simp;omega)];simp[Qd (show t<vs.length by omega)]
   rw[e1,e2];exact h1
  ·have e1:args.getD t .dead= .dead:=by simp[Qp,Ut (by omega:args.length≤t)]
   rw[e1];exact .dead _
 ·exact hr.enter
theorem ZlF{P:Program}{T:TT}{t n:Nat}{f:FuncId}{fn:Func}{c:Code}{args:List AV}{H:Za}{Q:AV→Za→Prop}{X:Za→Prop}(hT:TOK P T)(hf:Fun P f fn c)(hN:args.length≤fn.ntmps)
  (h:∀B,AK P ⟨none,B⟩ n fn.ntmps [.code c] (Zec P T t n fn.results.toList Q X) ⟨numbered 0 args,[],H⟩):Z9 P t n f args H Q X:=fun E w vs hr hv=>by
 refine(callsIn_wide (n:=0)).1 (callsIn_of_wp_marks hf.get hf.body trivial ?_);refine wpIn_mono (h ⟨w.heap.size,[]⟩ E w _ (Yn.start hr hv hN)) ?_;rintro e a' w' ⟨s',E',hQ,hs',hx⟩;cases e with
 |normal=>exact Jr hT rfl hs' hx hQ
 |ret=>exact Jr hT rfl hs' hx hQ
 |panic c=>
  obtain⟨rfl,hX⟩:=hQ;exact ZeU rfl hs' hx hX
 |_=>exact hQ.elim
theorem WU{P:Program}{φ:Fm}{n N:Nat}{Q:Exit→Zb→Prop}{s:Zb}{c:List PanicEntry}(h:Q (.panic c) s):∀k,AX P φ n N Q k (.panic c) s
 |[]=>h
 | .code _::k=>WU h k
 | .blk _::k=>WU h k
/-! A call that may panic, in a region in the text's order. -/
def Zie(P:Program)(t m:Nat)(o:Oper)(ρ:Operand→AV)(H:Za)(S:AV→Za→Prop)(X:Za→Prop):Prop:=
 ∀E w (a:Act) (Q:Exit→Act→World→Prop) (K:Act→World→Prop),Zt m H E w→(∀x∈o.op.operands,VR E (ρ x) (a.eval x))→
  (∀E' w' cv v H',S v H'→VR E' v cv→Zt m H' E' w'→Ext m E w E' w'→K (a.put o.dst cv) w')→
  (∀E' w' H',X H'→Zt m H' E' w'→Ext m E w E' w'→Q (.panic (ch t)) a w')→ ∀ro,o.wpIn (fr ro) 0 P a w K Q
variable {c:Code} {o:Oper}
theorem ZjT{t m:Nat}{ρ:Operand→AV}{H:Za}{g:Operand}{caps:List AV}{args:Array Operand}{ts:Array TypeId}{S:AV→Za→Prop}{X:Za→Prop}(hf:Fun P f fn c)
  (ho:o.op= .call {callee:=.value g,args:=args,argTypes:=ts}) (hg:ρ g= .fn (.func f) caps) (az:List AV) (has:∀E (a:Act),(∀x∈args,VR E (ρ x) (a.eval x))→VRs E az (args.toList.map a.eval))
  (hc:Z9 P t m f (az++caps) H S X):Zie P t m o ρ H S X:=fun E w a Q K hr hops hk hx ro=>by
 have hgv:=hops g (by rw[ho];simp[Op.operands,Call.operands]);rw[hg]at hgv;have he:execOp a.eval o=(do let d←resolve a.eval {callee:=.value g,args:=args,argTypes:=ts} o.type;invoke d.target d.args):=by simp only[execOp,ho]
 generalize hy:a.eval g=y at hgv;cases hgv with|fn _ _ vs hl hvs=>
 have hrun:(execOp a.eval o).run P w= .ok (.enter f (args.map a.eval++vs.toArray)) w:=by
  rw[he];simp[resolve,hy,Deferred.ofValue,invoke,Y4 hf]
 refine Y9 hrun (fun _ e=>by cases e) ⟨JI,JA ?_⟩;have h1:=hc E w (args.toList.map a.eval++vs) hr ((has E a (fun x hx=>hops x (by rw[ho];simp[Op.operands,Call.operands,hx]))).append ⟨hl,hvs⟩);rw[show(args.toList.map a.eval++vs).toArray=args.map a.eval++vs.toArray by rw[←List.append_toArray,←Array.toList_map]]at h1;refine h1.mono ?_;rintro e w' (⟨r',v,H1,E',rfl,hq,hv,hh,hxx⟩|⟨H1,E',rfl,hq,hh,hxx⟩)
 ·exact hk E' w' v r' H1 hq hv hh hxx
 ·exact hx E' w' H1 hq hh hxx
theorem Zhg{P:Program}{t m:Nat}{ρ:Operand→AV}{H:Za}{l:Nat}{g:Operand}{args:Array Operand}{ts:Array TypeId}{S:AV→Za→Prop}{X:Za→Prop}
  (ho:o.op= .call {callee:=.value g,args:=args,argTypes:=ts}) (hg:ρ g= .fn (.yield l) []) (az:List AV) (has:∀E (a:Act),(∀x∈args,VR E (ρ x) (a.eval x))→VRs E az (args.toList.map a.eval))
  (hc:Zdk P t m l az H S X):Zie P t m o ρ H S X:=fun E w a Q K hr hops hk hx ro=>by
 have hgv:=hops g (by rw[ho];simp[Op.operands,Call.operands]);rw[hg]at hgv;have he:execOp a.eval o=(do let d←resolve a.eval {callee:=.value g,args:=args,argTypes:=ts} o.type;invoke d.target d.args):=by simp only[execOp,ho]
 generalize hy:a.eval g=y at hgv;cases hgv with|fn _ _ vs hl hvs=>
 have hvs0:vs=[]:=by simpa using hl
 subst hvs0;obtain⟨fn,tmps,ca,cb,h1,h2⟩:=hc E w (args.toList.map a.eval) hr (has E a (fun x hx=>hops x (by rw[ho];simp[Op.operands,Call.operands,hx])));rw[show(args.toList.map a.eval).toArray=args.map a.eval by rw[←Array.toList_map]]at h1;have hrun:(execOp a.eval o).run P w= .ok (.round l fn tmps ca cb) w:=by
  rw[he];simp[resolve,hy,Deferred.ofValue,invoke,h1]
 refine Y9 hrun (fun _ e=>by cases e) ⟨JI,(h2 ro _).mono ?_⟩;rintro e w' (⟨r',v,H1,E',rfl,hq,hv,hh,hxx⟩|⟨H1,E',rfl,hq,hh,hxx⟩)
 ·exact hk E' w' v r' H1 hq hv hh hxx
 ·exact hx E' w' H1 hq hh hxx
def ZfX(cx:Cx)(t:Nat)(o:Oper)(g:Operand)(args:List Operand)(ts:List TypeId)(s:Zb)(F XF:Zb→Prop):Prop:=
 ∃Qc:AV→Za→Prop,∃Xc:Za→Prop,
  ((∃f fn c caps,evT s.tmps g= .fn (.func f) caps∧Fun cx.P f fn c∧Z9 cx.P t (cx.n+1) f (Yo cx.T (evT s.tmps) args ts++caps) (full cx.n s.L s.H) Qc Xc)∨
   (∃l,evT s.tmps g= .fn (.yield l) []∧Zdk cx.P t (cx.n+1) l (Yo cx.T (evT s.tmps) args ts) (full cx.n s.L s.H) Qc Xc))∧
  (∀r H1,Qc r H1→ ∃L' H',H1=full cx.n L' H'∧ZL cx.n s.H H'∧F ⟨Yl s.tmps o.dst r,L',H'⟩)∧
  (∀H1,Xc H1→ ∃L' H',H1=full cx.n L' H'∧ZL cx.n s.H H'∧XF ⟨s.tmps,L',H'⟩)
def XC(cx:Cx)(op:Opt)(all:List Oper)(F:Zb→Prop):List Oper→Zb→Prop
 |[],s=>F s
 |o::r,s=>match o.guard with
  |none=>VT cx op o s (XC cx op all F r)
  |some (j,want)=>match X3 all j with
   |none=>XC cx op all F r ⟨Yl s.tmps o.dst (.tup []),s.L,s.H⟩
   |some d=>vcG cx op o s (XC cx op all F r) want (lkv s.tmps d)
theorem ZlX(cx:Cx)(op:Opt)(all:List Oper)(F:Zb→Prop)(s:Zb):XC cx op all F [] s=F s:=rfl
theorem Zjx(cx:Cx)(op:Opt)(all:List Oper)(F:Zb→Prop)(o:Oper)(r:List Oper)(s:Zb):XC cx op all F (o::r) s=match o.guard with
  |none=>VT cx op o s (XC cx op all F r)
  |some (j,want)=>match X3 all j with
   |none=>XC cx op all F r ⟨Yl s.tmps o.dst (.tup []),s.L,s.H⟩
   |some d=>vcG cx op o s (XC cx op all F r) want (lkv s.tmps d):=rfl
theorem Vm{cx:Cx}(hT:TOK cx.P cx.T){op:Opt}(hop:op.dr=false){ops:Array Oper}{F:Zb→Prop}(hd:∀o∈ops.toList,∀x,o.dst=some x→x<cx.N){E0:Env}{w0:World}{Q':Exit→Act→World→Prop}{post:List Oper}:
  ∀(l:List Oper) (i:Nat) (s:Zb),ops.toList.drop i=l++post→XC cx op ops.toList F l s→
   (∀s' E' w' a',F s'→Yn cx.φ.B cx.n cx.N s' E' a' w'→Ext cx.n E0 w0 E' w'→wpOpsIn (fr cx.φ.ro) 0 cx.P ops Q' ((List.range ops.size).drop (i+l.length)) a' w')→ ∀E w a,Yn cx.φ.B cx.n cx.N s E a w→Ext cx.n E0 w0 E w→
   wpOpsIn (fr cx.φ.ro) 0 cx.P ops Q' ((List.range ops.size).drop i) a w
 |[],i,s,hi,h,hF=>fun E w a hs hx=>by simpa using hF s E w a h hs hx
 |o::r,i,s,hi,h,hF=>fun E w a hs hx=>by
  have hlt:i<ops.size:=by
   rcases Qg i ops.size with h|h
   ·exact h
   ·rw[Ux (by simpa using h)]at hi;cases hi
  have hoi:ops[i]? =some o:=by
   have:=congrArg (·[0]?) hi;simpa[UC]using this
  have hmem:o∈ops.toList:=U8 (by rw[hi];simp);have hi':ops.toList.drop (i+1)=r++post:=by rw[←List.drop_drop,hi];rfl
  have hF':∀s' E' w' a',F s'→Yn cx.φ.B cx.n cx.N s' E' a' w'→Ext cx.n E0 w0 E' w'→wpOpsIn (fr cx.φ.ro) 0 cx.P ops Q' ((List.range ops.size).drop (i+1+r.length)) a' w':=fun s' E' w' a' h1 h2 h3=>by
   have:=hF s' E' w' a' h1 h2 h3
   rwa [Qo,show i+(r.length+1)=i+1+r.length by omega]at this
  rw[Qw (by simpa using hlt)];simp only[MK,wpOpsIn,hoi];have key:(Yp ops.toList s.tmps o=some true∧VT cx op o s (XC cx op ops.toList F r))∨(Yp ops.toList s.tmps o=some false∧XC cx op ops.toList F r ⟨Yl s.tmps o.dst (.tup []),s.L,s.H⟩):=by
   simp only[XC]at h;split at h
   ·rename_i hgd;exact .inl ⟨by simp only[Yp,hgd],h⟩
   ·rename_i j want hgd;split at h
    ·rename_i hd;exact .inr ⟨by unfold X3 at hd;simp only[Yp,hgd,hd],h⟩
    ·rename_i d hd;unfold X3 at hd;unfold vcG at h;split at h
     ·rename_i hv;split at h
      ·exact .inl ⟨by simp only[Yp,hgd,hd,hv];rfl,h⟩
      ·exact .inr ⟨by simp only[Yp,hgd,hd,hv];rfl,h⟩
     ·rename_i hv;split at h
      ·exact .inr ⟨by simp only[Yp,hgd,hd,hv];rfl,h⟩
      ·exact .inl ⟨by simp only[Yp,hgd,hd,hv];rfl,h⟩
     ·rename_i hv;exact .inr ⟨by simp only[Yp,hgd,hd,hv],h⟩
     ·exact h.elim
  rcases key with⟨hg,hr⟩|⟨hg,hr⟩
  ·rw[Xd (fun j w d _ _=>hs.tmps d) hg];simp only[if_true];refine Zcx hT hop hr E w a _ _ hs.heap (fun x _=>Zdp hs.tmps x) ?_ cx.φ.ro;rintro E' w' cv v H1 ⟨L',H',rfl,ho,hF2⟩ hcv hh hx';refine Vm hT hop hd r (i+1) _ hi' hF2 hF' E' w' _ ⟨by rw[size_put];exact hs.size,by rw[X8];exact hs.defs.ext hx',fun t=>?_,hh,Yn.Wx hs.out ho⟩ (hx.trans (hx'.mono (Uj _)));rw[JE,VN hs.size (hd o hmem)];split
   ·exact hcv
   ·exact(hs.tmps t).mono hs.heap.norm hx'.le
  ·rw[Xd (fun j w d _ _=>hs.tmps d) hg];simp only[QT,if_false];refine⟨fun _ _=>trivial,?_⟩;refine Vm hT hop hd r (i+1) _ hi' hr hF' E w _ ⟨by rw[size_put];exact hs.size,by rw[X8];exact hs.defs,fun t=>?_,hs.heap,hs.out⟩ hx;rw[JE,VN hs.size (hd o hmem)];split
   ·exact VY E
   ·exact hs.tmps t
variable {pre post:List Oper} {ops:Array Oper}
theorem ZeL{cx:Cx}{k:List Itm}{Q:Exit→Zb→Prop}{s:Zb}(t:Nat)(hT:TOK cx.P cx.T)(op:Opt)(hop:op.dr=false){id:Nat}{g:Operand}{args:Array Operand}{ts:Array TypeId}(hc:c= .region id ops false)(hl:ops.toList=pre++o::post)
  (hg:o.guard=none) (ho:o.op= .call {callee:=.value g,args:=args,argTypes:=ts})
  (h:XC cx op ops.toList (fun s=>ZfX cx t o g args.toList ts.toList s (XC cx op ops.toList (AKc cx k Q) post) (Q (.panic (ch t)))) pre s)
  (hd:X4 cx.N ops.toList=true:=by kernel_rfl):AKc cx (.code c::k) Q s:=by
 subst hc;intro E w a hs;refine wpIn_region ?_;have hd':=WH hd;have key:=Vm hT (op:=op) hop (post:=o::post) (E0:=E) (w0:=w) (Q':=fun e a' w'=>∃s' E',AX cx.P cx.φ cx.n cx.N Q k e s'∧Yn cx.φ.B cx.n cx.N s' E' a' w'∧Ext cx.n E w E' w') hd' pre 0 s (by simpa using hl) h ?_ E w a hs (.refl _ _ _)
 ·simpa using key
 intro s1 E1 w1 a1 hF hs1 hx1;simp only[QF];have hlt:pre.length<ops.size:=by
  have:=congrArg List.length hl;simp at this;omega
 have hoi:ops[pre.length]? =some o:=by
  have:ops.toList[pre.length]? =some o:=by rw[hl];simp
  simpa using this
 have hmem:o∈ops.toList:=by rw[hl];simp
 rw[Qw (by simpa using hlt)];simp only[MK,wpOpsIn,hoi];have hwant:Region.wanted o (yielded ops a1.tmps)=true:=by simp[Region.wanted,hg]
 rw[hwant];simp only[if_true];obtain⟨Qc,Xc,hcall,hk,hX⟩:=hF;have has:∀E (a:Act),(∀x∈args,VR E (evT s1.tmps x) (a.eval x))→VRs E (Yo cx.T (evT s1.tmps) args.toList ts.toList) (args.toList.map a.eval):=fun E a hx=>Wh _ _ (fun x hx'=>hx x (by simpa using hx'))
 have hsem:Zie cx.P t (cx.n+1) o (evT s1.tmps) (full cx.n s1.L s1.H) Qc Xc:=by
  rcases hcall with⟨f,fn,c,caps,e1,e2,e3⟩|⟨l,e1,e2⟩
  ·exact ZjT e2 ho e1 _ has e3
  ·exact Zhg ho e1 _ has e2
 refine hsem E1 w1 a1 _ _ hs1.heap (fun x _=>Zdp hs1.tmps x) ?_ ?_ cx.φ.ro
 ·rintro E' w' cv v H1 hq hcv hh hx';obtain⟨L',H',rfl,hos,hF2⟩:=hk _ _ hq;refine Vm hT (op:=op) hop (post:=[]) hd' post (pre.length+1) _ (by rw[Qu,hl,Qa7];simp) hF2 ?_ E' w' _ ⟨by rw[size_put];exact hs1.size,by rw[X8];exact hs1.defs.ext hx',fun t=>?_,hh,Yn.Wx hs1.out hos⟩ (hx1.trans (hx'.mono (Uj _)))
  ·intro s2 E2 w2 a2 hf hs2 hx2;have:ops.size≤pre.length+1+post.length:=by
    have:=congrArg List.length hl;simp at this;omega
   rw[Ux (by simpa using this)];exact⟨s2,E2,hf,hs2,hx2⟩
  ·rw[JE,VN hs1.size (hd' o hmem)];split
   ·exact hcv
   ·exact(hs1.tmps t).mono hs1.heap.norm hx'.le
 ·rintro E' w' H1 hq hh hx';obtain⟨L',H',rfl,hos,hF2⟩:=hX _ hq;exact⟨⟨s1.tmps,L',H'⟩,E',WU hF2 k,⟨hs1.size,hs1.defs.ext hx',fun t=>(hs1.tmps t).mono hs1.heap.norm hx'.le,hh,Yn.Wx hs1.out hos⟩,hx1.trans (hx'.mono (Uj _))⟩
theorem Yx{cx:Cx}{k:List Itm}{Q:Exit→Zb→Prop}{s:Zb}(t:Nat)(hT:TOK cx.P cx.T){id:Nat}{g:Operand}{args:Array Operand}{ts:Array TypeId}(hc:c= .region id ops false)(hl:ops.toList=pre++o::post)
  (hg:o.guard=none) (ho:o.op= .call {callee:=.value g,args:=args,argTypes:=ts})
  (h:XC cx plainO ops.toList (fun s=>ZfX cx t o g args.toList ts.toList s (XC cx plainO ops.toList (AKc cx k Q) post) (Q (.panic (ch t)))) pre s)
  (hd:X4 cx.N ops.toList=true:=by kernel_rfl):AKc cx (.code c::k) Q s:=ZeL t hT plainO rfl hc hl hg ho h hd
end
theorem ZlW{cx:Cx}{k:List Itm}{Q:Exit→Zb→Prop}{s:Zb}{c:Code}(t:Nat)(hT:TOK cx.P cx.T){id:Nat}{ops:Array Oper}{pre post:List Oper}{o:Oper}{x:Operand}(hc:c= .region id ops false)(hl:ops.toList=pre++o::post)
  (hg:o.guard=none) (ho:o.op= .panic x)
  (h:XC cx plainO ops.toList (fun s=>evT s.tmps x= .ifc t (.agg [])∧Q (.panic (ch t)) s) pre s)
  (hd:X4 cx.N ops.toList=true:=by kernel_rfl):AKc cx (.code c::k) Q s:=by
 subst hc;intro E w a hs;refine wpIn_region ?_;have hd':=WH hd;have key:=Vm hT (op:=plainO) rfl (post:=o::post) (E0:=E) (w0:=w) (Q':=fun e a' w'=>∃s' E',AX cx.P cx.φ cx.n cx.N Q k e s'∧Yn cx.φ.B cx.n cx.N s' E' a' w'∧Ext cx.n E w E' w') hd' pre 0 s (by simpa using hl) h ?_ E w a hs (.refl _ _ _)
 ·simpa using key
 intro s1 E1 w1 a1 hF hs1 hx1;simp only[QF];have hlt:pre.length<ops.size:=by
  have:=congrArg List.length hl;simp at this;omega
 have hoi:ops[pre.length]? =some o:=by
  have:ops.toList[pre.length]? =some o:=by rw[hl];simp
  simpa using this
 rw[Qw (by simpa using hlt)];simp only[MK,wpOpsIn,hoi];have hwant:Region.wanted o (yielded ops a1.tmps)=true:=by simp[Region.wanted,hg]
 rw[hwant];simp only[if_true];obtain⟨hv,hQ⟩:=hF;have hxv:=Zdp hs1.tmps x;rw[hv]at hxv;generalize hy:a1.eval x=y at hxv;cases hxv with
 |ifc _ _ v hvv=>
  cases hvv with
  |agg _ vs hl2 hvs=>
   have e:vs=[]:=by simpa using hl2
   subst e;have hsem:o.semAt (fr cx.φ.ro).round a1.eval=execOp a1.eval o:=by unfold Oper.semAt;rw[ho];split<;>simp_all
   refine⟨fun _ _=>trivial,?_⟩;rw[hsem];have hrun:(execOp a1.eval o).run cx.P w1= .halt (.panic (.iface t (.agg #[]))) w1:=by
    simp[execOp,ho,hy,Instr.panic,goPanic]
   rw[hrun];exact⟨s1,E1,WU hQ k,hs1,hx1⟩
end Go.Abs

namespace Go.Proofs.YtmdeagmbfhbbnaaGreatDoorR
open Go.Abs
set_option maxRecDepth 100000
section
variable {X:Za→Prop} {Q:AV→Za→Prop} {args:List AV} {fn:Func} {f:FuncId} {t n:Nat} {T:TT} {P:Program}
theorem ZkF{H:Za}(hT:TOK P T)(hf:Fun P f fn (ZQ fn))(hN:args.length≤fn.ntmps)
  (h:∀B,AKc ⟨P,T,⟨none,B⟩,n,fn.ntmps⟩ [.code (ZQ fn)] (Zec P T t n fn.results.toList Q X) ⟨numbered 0 args,[],H⟩):Z9 P t n f args H Q X:=ZlF hT hf hN h
theorem xF{H:Za}(h0:P.funcs[f]? =some fn)
  (h : ∀ B, AKc ⟨P, T, ⟨none, B⟩, n, fn.ntmps⟩ [.code (ZQ fn)] (Zec P T t n fn.results.toList Q X) ⟨numbered 0 args, [], H⟩) (hN : args.length ≤ fn.ntmps := by simp) (hb : fn.body.isSome = true := by exact rfl) (hn : (fn.name == "runtime.NumGoroutine") = false := by exact rfl) (hT : TOK P T := by exact tok) : Z9 P t n f args H Q X := ZkF hT (Zf h0 hb hn) hN h
attribute [go_sem] ZlX Zjx
theorem Vk{rs:List ResultVar}{s:Zb}(h:PostF P T n rs Q .ret s):Zec P T t n rs Q X .ret s:=h
theorem JL{cx:Cx}{o:Oper}{args:List Operand}{ts:List TypeId}{s:Zb}{F XF:Zb→Prop}{c:Code}{avs:List AV}{Qc:AV→Za→Prop}{Xc:Za→Prop}(hf:Fun cx.P f fn c)(hc:Z9 cx.P t (cx.n+1) f avs (full cx.n s.L s.H) Qc Xc)(ha:Yo cx.T (evT s.tmps) args ts=avs)
  (hq:∀r H1,Qc r H1→ ∃L' H',H1=full cx.n L' H'∧ZL cx.n s.H H'∧F ⟨Yl s.tmps o.dst r,L',H'⟩) (hx:∀H1,Xc H1→ ∃L' H',H1=full cx.n L' H'∧ZL cx.n s.H H'∧XF ⟨s.tmps,L',H'⟩):ZfX cx t o (.func f) args ts s F XF:=
 ⟨Qc,Xc,.inl ⟨f,fn,c,[],rfl,hf,by rw[Qu,ha];exact hc⟩,hq,hx⟩
theorem Zef{f:Int→Int→Int}(hf:∀x y,f x y=x∨f x y=y){P:Int→Prop}:∀(l:List Int) (x:Int),P x→(∀y∈l,P y)→P (l.foldl f x)
 |[],x,h,_=>h
 |y::l,x,h,hl=>by
  refine Zef hf l (f x y) ?_ fun z hz=>hl z (by simp[hz])
  rcases hf x y with e|e
  ·rw[e];exact h
  ·rw[e];exact hl y sm
theorem e232(n:Nat)(H:Za)(x:Int):Z9 Tryz.prog 197 n 232 [.int .i64 x] H (fun r H'=>x≤1000∧r= .int .i64 x∧H'=H) fun H'=>1000<x∧H'=H:=by
 refine xF Tryz.func232 fun B=>?_
 refine nR ?_;refine nR ?_;by_cases h:1000<x
 ·refine VK rfl rfl (by simp only[go_sem,simprocAttr,h]) ?_;refine ZlW 197 tok (pre:=[_,_]) (post:=[]) rfl rfl rfl rfl ?_;refine aq (show JM tt 197=some (.struct []) from rfl) ?_;exact⟨rfl,h,rfl⟩
 ·refine VB rfl rfl (by simp only[go_sem,simprocAttr,h]) ?_;refine nR ?_;refine nV ?_;exact Vk (Zo (v:=.int .i64 x) (.refl _) (.int _ _) ⟨om,rfl,rfl⟩)
def Zrw(lo hi:Int)(n:Nat)(H:Za)(i:Nat):Zb:=
 ⟨[(7,.int .i64 (lo+i)),(6,.int .i64 hi),(4,.sl 4 (((List.range i).map fun j:Nat=>Yg (lo+(j:Int))).map Tm.enc) (.buf n 200))],[(200,.buf 40 4 i)],H⟩
theorem Zvd(n:Nat)(H:Za)(a b:List Int)(ha:a.length≤1000000)(hb:b.length≤1000000)(ia:∀x∈a,-2147483648≤x∧x≤2147483648)(ib:∀x∈b,-2147483648≤x∧x≤2147483648):
  Z9 Tryz.prog 197 n 198 [.sl 1 (a.map eInt) .any,.sl 1 (b.map eInt) .any] H (fun r H'=>∃l,WI a b=some l∧r= .sl 4 (l.map Tm.enc) .any∧H'=H) fun H'=>WI a b=none∧H'=H:=by
 refine xF Tryz.func198 fun B=>?_
 refine nR ?_
 match a,b,ha,hb,ia,ib with
 |[],b,ha,hb,ia,ib=>
  have hi:WI [] b=some []:=by unfold WI;rw[if_pos (.inl rfl)]
  refine nR ?_;refine nT ?_;refine nR ?_;refine nV ?_;exact Vk (Zo (v:=.sl 4 (([]:List Tm).map Tm.enc) .any) (.any _ _ _) (ZE []) ⟨[],hi,rfl,rfl⟩)
 |x::a,[],ha,hb,ia,ib=>
  have hi:WI (x::a) []=some []:=by unfold WI;rw[if_pos (.inr rfl)]
  have h1:(((a.length+1:Nat):Int)==0)=false:=by simp;omega
  refine nq h1 ?_;refine nT ?_;refine nR ?_;refine nV ?_;exact Vk (Zo (v:=.sl 4 (([]:List Tm).map Tm.enc) .any) (.any _ _ _) (ZE []) ⟨[],hi,rfl,rfl⟩)
 |x::a,y::b,ha,hb,ia,ib=>
  have h1:(((a.length+1:Nat):Int)==0)=false:=by simp;omega
  have h2:(((b.length+1:Nat):Int)==0)=false:=by simp;omega
  have hI:WI (x::a) (y::b)=if 1000<maxS (y::b) - minS (x::a)+1 then none else some ((List.range (maxS (y::b) - minS (x::a)+1).toNat).map fun i:Nat=>Yg (minS (x::a)+(i:Int))):=by
   unfold WI;rw[if_neg sm]
  have b1:-2147483648≤minS (x::a)∧minS (x::a)≤2147483648:=Zef (P:=fun z=>-2147483648≤z∧z≤2147483648) (fun x y=>by omega) a x (ia x sm) fun z hz=>ia z (by simp[hz])
  have b2:-2147483648≤maxS (y::b)∧maxS (y::b)≤2147483648:=Zef (P:=fun z=>-2147483648≤z∧z≤2147483648) (fun x y=>by omega) b y (ib y sm) fun z hz=>ib z (by simp[hz])
  have c1:=e230 x a (by simp at ha;omega);have c2:=e231 y b (by simp at hb;omega);generalize minS (x::a)=lo at hI b1 c1;generalize maxS (y::b)=hi at hI b2 c2;refine nq2 h1 h2 ?_;refine nF ?_;refine nR ?_;refine cP (c1) ?_;refine cP (c2) ?_;refine kK ?_;refine Yx 197 tok (pre:=[_,_,_,_]) (post:=[]) rfl rfl rfl rfl ?_;refine aS ?_;rw[IntWalk.i64_in (hi - lo) om,iw];refine JL (Zf Tryz.func232 rfl rfl) (e232 (n+1) _ (hi - lo+1)) sS ?_ ?_;rotate_left
  ·rintro H1 ⟨hgt,rfl⟩;exact⟨_,_,rfl,.refl _ _,rfl,by rw[hI,if_pos hgt],rfl⟩
  rintro r H1 ⟨hle,rfl,rfl⟩;refine⟨_,_,rfl,.refl _ _,?_⟩;rw[if_neg om]at hI;refine aS ?_;refine nR ?_;refine kK ?_;refine XB 4 200 40 4 rfl rfl ?_;obtain⟨N,hN⟩:∃N,N=(hi - lo+1).toNat:=⟨_,rfl⟩
  rw[←hN]at hI;have hls:∀i,((List.range (i+1)).map fun j:Nat=>Yg (lo+(j:Int))).map Tm.enc=((List.range i).map fun j:Nat=>Yg (lo+(j:Int))).map Tm.enc++[(Yg (lo+(i:Int))).enc]:=fun i=>by rw[List.range_succ,QG,QG];rfl
  have ho:∀(q:Nat→Prop) (r:List Tm),q 200→Inside n q (.sl 4 (r.map Tm.enc) (.buf n 200)):=fun q r h=>Abs.ZW (fun x hx=>by obtain⟨u,_,rfl⟩:=Qb.1 hx;exact Tm.blw n u) h
  refine Zr (Zrw lo hi n H) N rfl ?_ ?_
  ·refine Zh ?_ ?_ ?_ ?_<;>repeat' first|apply q0|exact xx|apply aI
   all_goals first|exact ho _ [] rfl|(simp only[go_sem,simprocAttr,Int.add_zero];exact .refl _)
  intro i hiN;refine Ya rfl ?_;rcases Qg i N with h|h
  ·have hc:lo+(i:Int)≤hi:=by omega
   refine nq hc ?_;refine nT ?_;refine nR ?_;refine WM (Zf Tryz.func233 rfl rfl) (e233 (lo+i)) (by simp only[go_sem,simprocAttr,MS]) ?_;simp only[go_sem,simprocAttr,MS];generalize hG:((List.range i).map fun j:Nat=>Yg (lo+(j:Int))).map Tm.enc=G;refine⟨rfl,⟨Zn om,om⟩,?_⟩;refine nR ?_;refine nN ?_;refine⟨h,?_⟩;unfold Zrw;rw[hls i,hG];refine Zh ?_ ?_ ?_ ?_<;>repeat' first|apply q0|exact xx|apply aI
   ·refine aS ?_;rw[iw];have e:lo+((i+1:Nat):Int)=lo+(i:Int)+1:=by omega
    rw[e];exact .refl _
   all_goals(rw[←hG,←hls i];exact ho _ _ rfl)
  ·have hi':i=N:=by omega
   subst hi';have hc:¬lo+(i:Int)≤hi:=by omega
   refine nq hc ?_;refine nF ?_;refine nX ?_;refine nR ?_;refine nV ?_;refine Vk (Zo (v:=.sl 4 (((List.range i).map fun j:Nat=>Yg (lo+(j:Int))).map Tm.enc) .any) (.any _ _ _) (ZE _) ⟨_,hI,rfl,rfl⟩)
end
end Go.Proofs.YtmdeagmbfhbbnaaGreatDoorR
