/- All combinations of elements of lists: what a loop over them does. -/
import Derived.Test.YtmdeagmbfhbbnaaGreatDoorRM07
import Derived.Test.YtmdeagmbfhbbnaaGreatDoorRM06
import Derived.Test.YtmdeagmbfhbbnaaGreatDoorRM05
import Derived.Test.YtmdeagmbfhbbnaaGreatDoorRM03
import Derived.Ground.SlsfProg
import Derived.Shelf.SlGeneric
import Derived.Shelf.SlSortCmp.NoneTotal
import Derived.Shelf.SlSortCmp.WholeK
import Derived.Test.YtmdeagmbfhbbnaaGreatDoorRM04
import Derived.Shelf.SlSortCmp.Whole1
set_option linter.all false
set_option maxRecDepth 100000
open Go.Proofs.Tryz
namespace Go.Proofs.YtmdeagmbfhbbnaaGreatDoorR
open Go.Abs
def low(n:Nat)(A G:Za):Za:=fun a b=>if a<n then A a b else G a b
section
variable {A G:Za} {n:Nat}
def Zc0{a:Nat}(h:a<n)(b:Nat):low n A G a b=A a b:=if_pos h
def J6{a:Nat}(h:¬a<n)(b:Nat):low n A G a b=G a b:=if_neg h
def Zm6(n:Nat)(A B G:Za):low n A (low n B G)=low n A G:=by
 funext a b;unfold low;split<;>rfl
def ZmK(n l k:Nat)(A G:Za)(x:Ze)(h:¬l<n):low n A (G.upd l k x)=(low n A G).upd l k x:=by
 funext a b;unfold low Za.upd;by_cases ha:a<n
 ·have:¬(a=l∧b=k):=fun c=>h (c.1▸ha)
  simp[ha,this]
 ·simp[ha]
def Zkv(h:∀a b,a<n→G a b=A a b):low n A G=G:=by
 funext a b;unfold low;split
 ·rename_i ha;exact(h a b ha).symm
 ·rfl
variable {m:Nat}
def WS(hm:n≤m)(L:List (Nat×Ze))(A G:Za):full m L (low n A G)=low n A (full m L G):=by
 funext a b;unfold full low;by_cases ha:a=m
 ·subst ha;simp[show¬a<n by omega]
 ·simp[ha]
def ZfQ(H:Za)(l k:Nat)(x y:Ze):(H.upd l k x).upd l k y=H.upd l k y:=by
 funext a b;unfold Za.upd;split<;>rfl
def ZN{c:AV}(h:Below n c):Below n (.iptr [c]):=Zq (cs:=[c]) ⟨h,trivial⟩
def Zfx{cx:Cx}{t:Nat}{o:Oper}{g:Operand}{args:List Operand}{ts:List TypeId}{s:Zb}{F XF:Zb→Prop}{f:FuncId}{fn:Func}{c:Code}{avs caps:List AV}{Qc:AV→Za→Prop}{Xc:Za→Prop}(hg:evT s.tmps g= .fn (.func f) caps)(hf:Fun cx.P f fn c)(hc:Yc cx.P t (cx.n+1) f avs (full cx.n s.L s.H) Qc Xc)(ha:Yn cx.T (evT s.tmps) args ts++caps=avs)
  (hq:∀r H1,Qc r H1→ ∃L' H',H1=full cx.n L' H'∧ZM cx.n s.H H'∧F ⟨Yk s.tmps o.dst r,L',H'⟩) (hx:∀H1,Xc H1→ ∃L' H',H1=full cx.n L' H'∧ZM cx.n s.H H'∧XF ⟨s.tmps,L',H'⟩):ZgI cx t o g args ts s F XF:=
 ⟨Qc,Xc,.inl ⟨f,fn,c,caps,hg,hf,by rw[ha];exact hc⟩,hq,hx⟩
def Zeg(k:Nat)(y:AV):Prop:=y.cells.length=k∧ ∀m,∀c∈y.cells,Below m c
def ZoA(k:Nat)(l:List AV)(n:Nat):Prop:=l.length=n∧ ∀y∈l,Zeg k y
variable {l:List AV} {k i:Nat}
def Zag{e:Nat}(h:∀y∈l,Zeg k y):Ze.Below m (.Zg e k (flat l) i):=⟨fun c hc=>by
 obtain⟨y,hy,hc⟩:=Qx.1 hc;exact(h y hy).2 m c hc,by simp[Ze.at_]⟩
variable {α:Type}
def Zcd{enc:α→AV}(hk:∀x,Zeg k (enc x)){p:List α}(h:∀y∈l,Zeg k y):∀y∈p.map enc++l,Zeg k y:=fun y hy=>by
 rcases Qk.1 hy with hy|hy
 ·obtain⟨x,_,rfl⟩:=Qi.1 hy;exact hk x
 ·exact h y hy
structure ZoQ {St α:Type} (n l N e k:Nat) (enc:α→AV) (A:St→Za) (step:St→List α→Option St) (ok:St→List α→Prop):Prop where
 call:∀m G σ (row:List α),ok σ row→n<m→row.length=N→(∀a b,a<n→G a b=A σ a b)→G n 7=some (.Zg e k (flat (row.map enc)) N)→
  Zde prog 197 m l [.msl k n 7 N] G (fun r G'=>∃σ',step σ row=some σ'∧r= .bool true∧G'=low n (A σ') G) (fun G'=>step σ row=none∧ ∃σ',G'=low n (A σ') G)
 blw:∀σ σ' a b x,a<n→A σ' a b=some x→A σ a b=some x∨x.Below n
 el:∀x:α,Zeg k (enc x)
def eIs(l:List Int):AV:=.sl 1 (l.map eInt) .any
def Zaj(n:Nat)(l:List Int):Below n (eIs l):=ZaG l
theorem ZoT(l:List Int):(eIs l).cells=[eIs l]:=rfl
theorem ZrY(l:List Int):(eIs l).one=true:=rfl
attribute [go_sem] ZoT ZrY
variable {St:Type}
def VQ{A:St→Za}(hb:∀σ σ' a b x,a<n→A σ' a b=some x→A σ a b=some x∨x.Below n)(hm:n≤m){σ:St}(hA:∀a b,a<n→G a b=A σ a b)(σ':St):ZM m G (low n (A σ') G):=fun a b x ha hx=>by
 by_cases h:a<n
 ·rw[Zc0 h]at hx;rcases hb σ σ' a b x h hx with h1|h1
  ·exact .inl ((hA a b h).trans h1)
  ·exact .inr ⟨fun v hv=>(h1.1 v hv).mono hm,fun q hq=>Un (h1.2 q hq) hm⟩
 ·rw[J6 h]at hx;exact .inl hx
def fold_at(f:St→α→Option St){q:List α}{σ τ:St}(h:i<q.length)(hf:(q.take i).foldlM f σ=some τ):q.foldlM f σ=(f τ q[i]).bind fun u=>(q.drop (i+1)).foldlM f u:=by
 conv=>lhs;rw[←Q7 i q,QaH,hf,Qu h]
 rfl
def Zes(f:St→α→Option St){q:List α}{σ τ:St}(h:i<q.length)(hf:(q.take i).foldlM f σ=some τ):(q.take (i+1)).foldlM f σ=f τ q[i]:=by
 rw[Qj h,QaH,hf];show(List.foldlM f τ [q[i]])=_;rw[MQ];cases f τ q[i]<;>rfl
def ZnE(h:∀y∈l,Zeg k y):(flat l).length=l.length*k:=flat_length (k:=k) fun y hy=>(h y hy).1
def Znm{enc:α→AV}(hk:∀x,Zeg k (enc x))(p:List α)(y:AV)(hy:Zeg k y)(x:α)(rs:List AV):
  (flat (p.map enc++y::rs)).take (p.length*k)++((enc x).cells++(flat (p.map enc++y::rs)).drop (p.length*k+k))=flat ((p++[x]).map enc++rs):=by
 have hl:(flat (p.map enc)).length=p.length*k:=by rw[flat_length (k:=k) (mB fun z=>(hk z).1),Qw]
 simp only[QC,Qv,YZ,Yw,Ux,flat_nil,Qs];rw[Gv hl,←List.drop_drop,QaC hl,QaC hy.1,Uc]
def W9{St α:Type}(step:St→List α→Option St)(p:List α)(ls:List (List α))(σ:St):Option St:=(Z7 ls).foldlM (fun σ r=>step σ (p++r)) σ
def Zcr(step:St→List α→Option St)(p:List α)(σ:St):W9 step p [] σ=step σ p:=by
 simp[W9,Z7]
theorem J8(step:St→List α→Option St)(p q:List α)(ls:List (List α))(σ:St):W9 step p (q::ls) σ=q.foldlM (fun σ x=>W9 step (p++[x]) ls σ) σ:=by
 unfold W9;rw[Z7];induction q generalizing σ with
 |nil=>rfl
 |cons x q ih=>
  rw[QV,QaH,MQ,List.foldlM_map];simp only[Uc,List.singleton_append]at ih⊢;cases(Z7 ls).foldlM (fun σ r=>step σ (p++x::r)) σ with
  |none=>rfl
  |some τ=>exact ih τ
def Zlx{q:List α}(h:i<q.length){ls:List (List α)}{pr:List (List α)}{r:List α}{po:List (List α)}(e:Z7 ls=pr++r::po):Z7 (q::ls)=(Z7 (q.take i::ls)++pr.map (q[i]:: ·))++(q[i]::r)::(po.map (q[i]:: ·)++Z7 (q.drop (i+1)::ls)):=by
 have:Z7 (q::ls)=Z7 (q.take i::ls)++(Z7 ls).map (q[i]:: ·)++Z7 (q.drop (i+1)::ls):=by
  simp only[Z7]
  conv=>lhs;rw[←Q7 i q,Qu h]
  rw[Ut,QV];simp
 rw[this,e];simp
def ZpW{step:St→List α→Option St}{ok:St→List α→Prop}{p q:List α}{ls:List (List α)}{σ σi:St}(h:i<q.length)(hok:∀pr r po σ',Z7 (q::ls)=pr++r::po→pr.foldlM (fun σ r=>step σ (p++r)) σ=some σ'→ok σ' (p++r))
  (hf:(q.take i).foldlM (fun σ x=>W9 step (p++[x]) ls σ) σ=some σi):∀pr r po σ',Z7 ls=pr++r::po→pr.foldlM (fun σ r=>step σ (p++[q[i]]++r)) σi=some σ'→ok σ' (p++[q[i]]++r):=fun pr r po σ' e1 e2=>by
 have:=hok _ (q[i]::r) _ σ' (Zlx h e1) (by
  have h1:(Z7 (q.take i::ls)).foldlM (fun σ r=>step σ (p++r)) σ=some σi:=(J8 step p (q.take i) ls σ).trans hf;rw[QaH,h1];show(pr.map (q[i]:: ·)).foldlM _ σi=_;rw[List.foldlM_map];simpa using e2)
 simpa using this
def Zq2(_:Int):List (Nat×Ze):=[]
def Zpl(x:Tm):List (Nat×Ze):=[(8,.box [.int .u8 x.kind,.int .i64 x.num,.str x.name,.sl 4 (x.args.map Tm.enc) .any])]
theorem Zpc(x:Int)(D:List AV):(eInt x).cells++D= .int .i64 x::D:=rfl
def Zqu(x:Tm)(D:List AV):x.enc.cells++D= .int .u8 x.kind:: .int .i64 x.num:: .str x.name:: .sl 4 (x.args.map Tm.enc) .any::D:=by rw[Tm.Xg];rfl
def Vh(ls:List (List Int))(n l N:Nat):List AV:=[.iptr [.sl 1 (ls.map eIs) .any],.iptr [.fn (.yield l) []],.iptr [.msl 1 n 7 N],.ptr n 4 0]
def Zqa(p:List Int)(q:List Int)(lists:List (List Int))(n l N i:Nat)(H:Za):Zb:=⟨[(21,.int .i64 i),(20,.int .i64 q.length),(19,.sl 1 (q.map eInt) .any),(0,.int .i64 p.length),(1,.iptr [.sl 1 (lists.map eIs) .any]),(2,.iptr [.fn (.yield l) []]),(3,.iptr [.msl 1 n 7 N]),(4,.ptr n 4 0)],[],H⟩
def e258{St:Type}{n l N:Nat}{A:St→Za}{step:St→List Int→Option St}{ok:St→List Int→Prop}(hy:ZoQ n l N 3 1 eInt A step ok)(lists:List (List Int))(hN:lists.length=N)(hlen:N≤1000000)(hl:∀q∈lists,q.length≤1000000):
  ∀(ls pre:List (List Int)) (p:List Int) (rest:List AV) (σ:St) (m:Nat) (G:Za),lists=pre++ls→pre.length=p.length→ZoA 1 rest ls.length→n<m→(∀a b,a<n→G a b=A σ a b)→G n 7=some (.Zg 3 1 (flat (p.map eInt++rest)) N)→G n 4=some (.box [.fn (.func 258) (Vh lists n l N)])→(∀pr r po σ',Z7 ls=pr++r::po→pr.foldlM (fun σ r=>step σ (p++r)) σ=some σ'→ok σ' (p++r))→
   Yc prog 197 m 258 (.int .i64 p.length::Vh lists n l N) G
    (fun r G'=>∃σ' rest',W9 step p ls σ=some σ'∧ZoA 1 rest' ls.length∧r= .bool true∧G'=(low n (A σ') G).upd n 7 (.Zg 3 1 (flat (p.map eInt++rest')) N))
    (fun G'=>W9 step p ls σ=none∧ ∃σ' b,G'=(low n (A σ') G).upd n 7 b∧b.Below (n+1))
 |[],pre,p,rest,σ,m,G,e,hp,hr,hm,hA,h7,h4,hok=>by
  have hpl:(p.length:Nat)=N:=by rw[←hN,e,Qs,hp]
  have hrn:rest=[]:=Gm.1 hr.1;subst hrn;rw[Qs]at h7;refine Zkd tok (Zf func258 rfl rfl) (by simp[Vh]) fun B=>?_
  unfold Vh;refine gc ?_;refine Zrq rfl rfl (by simp only[go_sem,simprocAttr,hpl,hN,beq_self_eq_true]) ?_;refine kK ?_;refine YA 197 tok (pre:=[_,_]) (post:=[_]) rfl rfl rfl rfl ?_;refine aS ?_;refine⟨_,_,.inr ⟨l,rfl,hy.call (m+1) _ σ (p++[]) (hok [] [] [] σ rfl rfl) om (by rw[Qs];exact hpl) (fun a b ha=>by rw[Zk (by exact QaK ha hm)];exact hA a b ha) (by rw[Zk (by exact hm),Qs];exact h7)⟩,?_,?_⟩
  ·rintro r H1 ⟨σ',hs,rfl,rfl⟩;refine⟨[],low n (A σ') G,WS (MP hm) _ _ _|>.symm,VQ hy.blw (MP hm) hA _,?_⟩;refine gw ?_;refine Vu (Zn (v:=.bool true) (.refl _) (.bool _) ⟨σ',[],by rw[Zcr,←hs,Qs],⟨rfl,fun _ h=>by cases h⟩,rfl,?_⟩);rw[Yd];rw[J6 (QY n),h7,Qs]
  ·rintro H1 ⟨hs,σ',rfl⟩;refine⟨[],low n (A σ') G,WS (MP hm) _ _ _|>.symm,VQ hy.blw (MP hm) hA _,rfl,by rw[Zcr,←hs,Qs],σ',_,(Yd (J6 (QY n) _|>.trans h7)).symm,Zag fun y h=>by obtain⟨x,_,rfl⟩:=Qi.1 h;exact hy.el x⟩
 |q::ls,pre,p,rest,σ,m,G,e,hp,hr,hm,hA,h7,h4,hok=>by
  have hpl:p.length<N:=by rw[←hN,e,Qh,hp];simp
  have hq:q.length≤1000000:=hl q (by rw[e];simp);have hne:((p.length:Int)==(lists.length:Int))=false:=by rw[hN];simp;omega
  have hgq:lists[p.length]? =some q:=by rw[e,←hp];simp
  have hgD:(lists.map eIs).getD p.length .dead= .sl 1 (q.map eInt) .any:=by rw[Qn,Ua,hgq];rfl
  have hpa:p.length<lists.length:=om;refine Zkd tok (Zf func258 rfl rfl) (by simp[Vh]) fun B=>?_
  unfold Vh;refine nR ?_;refine nq hne ?_;refine nF ?_;refine nq2 hgD hpa ?_;refine kK ?_;refine Zar (fun μ s=>∃i σi rest',i≤q.length∧μ=q.length - i∧ZoA 1 rest' (ls.length+1)∧(q.take i).foldlM (fun σ x=>W9 step (p++[x]) ls σ) σ=some σi∧s=Zqa p q lists n l N i ((low n (A σi) G).upd n 7 (.Zg 3 1 (flat (p.map eInt++rest')) N))) (m0:=q.length) (s0:=Zqa p q lists n l N 0 G) rfl ?_ ⟨0,σ,rest,Uw _,rfl,hr,rfl,by rw[Zkv hA,Yd h7]⟩ ?_
  ·apply kZ;repeat' first|apply q0|exact xx|apply aI
   all_goals first|exact(Zaj m q).inside|exact(ZN (ZB fun x hx=>by obtain⟨u,_,rfl⟩:=Qi.1 hx;exact Zaj m u)).inside|exact(ZN (Below.fn _ _ fun i h=>absurd h (Qo _))).inside|exact(ZN (.msl _ _ _ _ hm)).inside|exact(Below.ptr _ _ _ hm).inside
  rintro μ s ⟨i,σi,rest',hi,rfl,hr',hf,rfl⟩;have h7':((low n (A σi) G).upd n 7 (.Zg 3 1 (flat (p.map eInt++rest')) N)) n 7=some (.Zg 3 1 (flat (p.map eInt++rest')) N):=Za.upd_same _ _ _ _;have h4':((low n (A σi) G).upd n 7 (.Zg 3 1 (flat (p.map eInt++rest')) N)) n 4=some (.box [.fn (.func 258) (Vh lists n l N)]):=by rw[Za.upd_ne _ _ sm,J6 (QY n)];exact h4
  have hA':∀a b,a<n→((low n (A σi) G).upd n 7 (.Zg 3 1 (flat (p.map eInt++rest')) N)) a b=A σi a b:=fun a b ha=>by rw[Za.upd_ne _ _ om,Zc0 ha]
  have hG':low n (A σi) G=low n (A σi) ((low n (A σi) G).upd n 7 (.Zg 3 1 (flat (p.map eInt++rest')) N))∨True:=.inr trivial;generalize hGi:(low n (A σi) G).upd n 7 (.Zg 3 1 (flat (p.map eInt++rest')) N)=Gi at*;refine ZQ rfl ?_;rcases Qe i q.length with h|h
  ·have hgi:(q.map eInt).getD i .dead=eInt q[i]:=by simp[Qn,Qb h]
   have hc:(i:Int)<(q.length:Int):=om;refine nq2 hc h ?_;refine nT ?_;refine nq2 hgi h ?_;obtain⟨y,rs,rfl⟩:∃y rs,rest'=y::rs:=by cases rest' with|nil=>cases hr'.1|cons y rs=>exact⟨y,rs,rfl⟩
   have hnm:¬n=m:=om;have hw:=Znm hy.el p y (hr'.2 y sm) q[i] rs;rw[Zpc]at hw;have hwl:=ZnE (Zcd (p:=p) hy.el hr'.2);have hpl':p.length*1+1≤(flat (p.map eInt++y::rs)).length:=by rw[hwl,Qh,Qq,Qw];omega
   refine nq4 h7' hnm hpl hpl' ?_;refine⟨om,.inr ?_,?_⟩
   ·have:Ze.Below m (.Zg 3 1 (flat ((p++[q[i]]).map eInt++rs)) N):=Zag (Zcd hy.el fun y h=>hr'.2 y (by simp[h]));rw[←hw]at this;exact this
   refine ZQ (H:=Gi.upd n 7 (.Zg 3 1 (flat ((p++[q[i]]).map eInt++rs)) N)) (by rw[←hw]) ?_;have hG2:Gi.upd n 7 (.Zg 3 1 (flat ((p++[q[i]]).map eInt++rs)) N)=(low n (A σi) G).upd n 7 (.Zg 3 1 (flat ((p++[q[i]]).map eInt++rs)) N):=by rw[←hGi,ZfQ]
   have h72:(Gi.upd n 7 (.Zg 3 1 (flat ((p++[q[i]]).map eInt++rs)) N)) n 7=some (.Zg 3 1 (flat ((p++[q[i]]).map eInt++rs)) N):=Za.upd_same _ _ _ _;have h42:(Gi.upd n 7 (.Zg 3 1 (flat ((p++[q[i]]).map eInt++rs)) N)) n 4=some (.box [.fn (.func 258) (Vh lists n l N)]):=by rw[Za.upd_ne _ _ sm];exact h4'
   have hA2:∀a b,a<n→(Gi.upd n 7 (.Zg 3 1 (flat ((p++[q[i]]).map eInt++rs)) N)) a b=A σi a b:=fun a b ha=>by rw[Za.upd_ne _ _ om];exact hA' a b ha
   generalize Gi.upd n 7 (.Zg 3 1 (flat ((p++[q[i]]).map eInt++rs)) N)=G2 at*;refine kK ?_;refine YA 197 tok (pre:=[_,_,_]) (post:=[_]) rfl rfl rfl rfl ?_;refine aq2 h42 hnm ?_;have hup:∀σ' X,(low n (A σ') G2).upd n 7 X=(low n (A σ') G).upd n 7 X:=fun σ' X=>by rw[hG2,ZmK _ _ _ _ _ _ (QY n),Zm6,ZfQ]
   have hL:∀σ' X,(low n (A σ') (full m (Zq2 q[i]) G2)).upd n 7 X=full m (Zq2 q[i]) ((low n (A σ') G).upd n 7 X):=fun σ' X=>by rw[←hup,Yi _ _ _ _ _ _ hnm,WS (MP hm)]
   have hO:∀σ' X,Ze.Below m X→ZM m G2 ((low n (A σ') G).upd n 7 X):=fun σ' X hX=>by rw[←hup];exact(VQ hy.blw (MP hm) hA2 _).trans (.upd hX)
   have hcall:=e258 hy lists hN hlen hl ls (pre++[q]) (p++[q[i]]) rs σi (m+1) (full m (Zq2 q[i]) G2) (by rw[e];simp) (by simp[hp]) ⟨by simpa using hr'.1,fun y h=>hr'.2 y (by simp[h])⟩ om (fun a b ha=>by rw[Zk (by exact QaK ha hm)];exact hA2 a b ha) (by rw[Zk (by exact hm)];exact h72) (by rw[Zk (by exact hm)];exact h42) (ZpW h hok hf);refine Zfx (caps:=Vh lists n l N) rfl (Zf func258 rfl rfl) hcall ?_ ?_ ?_
   ·have hi64:IntKind.i64.wrap ((p.length:Int)+1)=((p++[q[i]]).length:Int):=by rw[iw];simp
    simp only[go_sem,simprocAttr,hi64]
   ·rintro r H1 ⟨σ',rest'',hs,hrl,rfl,rfl⟩;refine⟨_,_,hL _ _,hO _ _ (Zag (Zcd hy.el hrl.2)),?_⟩;refine gI ?_;refine⟨q.length - (i+1),Zqa p q lists n l N (i+1) ((low n (A σ') G).upd n 7 (.Zg 3 1 (flat (p.map eInt++eInt q[i]::rest'')) N)),om,?_,i+1,σ',eInt q[i]::rest'',h,rfl,⟨by simp[hrl.1],fun y h=>by rcases Ql.1 h with rfl|h;exact hy.el _;exact hrl.2 y h⟩,by rw[Zes _ h hf];exact hs,rfl⟩;rw[show p.map eInt++eInt q[i]::rest''=(p++[q[i]]).map eInt++rest'' by simp];apply kZ;repeat' first|apply q0|exact xx|apply aI
    ·refine aS ?_;rw[iw];exact .refl _
    all_goals first|exact(Zaj m q).inside|exact(ZN (ZB fun x hx=>by obtain⟨u,_,rfl⟩:=Qi.1 hx;exact Zaj m u)).inside|exact(ZN (Below.fn _ _ fun i h=>absurd h (Qo _))).inside|exact(ZN (.msl _ _ _ _ hm)).inside|exact(Below.ptr _ _ _ hm).inside
   ·rintro H1 ⟨hs,σ',b,rfl,hb⟩;refine⟨_,_,hL _ _,hO _ _ ⟨fun v hv=>(hb.1 v hv).mono hm,fun q hq=>Un (hb.2 q hq) hm⟩,?_⟩;refine Vm ⟨rfl,?_,σ',b,rfl,hb⟩ _;rw[J8,fold_at _ h hf,hs];rfl
  ·have hi':i=q.length:=om;subst hi';have hc:¬q.length<q.length:=QY _;rw[QI]at hf;refine nq hc ?_;refine gg ?_;refine nq hc ?_;refine nV ?_;subst hGi;refine Vu (Zn (v:=.bool true) (.refl _) (.bool _) ⟨σi,rest',by rw[J8,hf],hr',rfl,rfl⟩)
def Vg(ls:List (List Tm))(n l N:Nat):List AV:=[.iptr [.sl 1 (ls.map eTs) .any],.iptr [.fn (.yield l) []],.iptr [.msl 4 n 7 N],.ptr n 4 0]
def Zpa(p:List Tm)(q:List Tm)(lists:List (List Tm))(n l N i:Nat)(H:Za):Zb:=⟨[(21,.int .i64 i),(20,.int .i64 q.length),(19,.sl 4 (q.map Tm.enc) .any),(0,.int .i64 p.length),(1,.iptr [.sl 1 (lists.map eTs) .any]),(2,.iptr [.fn (.yield l) []]),(3,.iptr [.msl 4 n 7 N]),(4,.ptr n 4 0)],[],H⟩
def e268{St:Type}{n l N:Nat}{A:St→Za}{step:St→List Tm→Option St}{ok:St→List Tm→Prop}(hy:ZoQ n l N 40 4 Tm.enc A step ok)(lists:List (List Tm))(hN:lists.length=N)(hlen:N≤1000000)(hl:∀q∈lists,q.length≤1000000):
  ∀(ls pre:List (List Tm)) (p:List Tm) (rest:List AV) (σ:St) (m:Nat) (G:Za),lists=pre++ls→pre.length=p.length→ZoA 4 rest ls.length→n<m→(∀a b,a<n→G a b=A σ a b)→G n 7=some (.Zg 40 4 (flat (p.map Tm.enc++rest)) N)→G n 4=some (.box [.fn (.func 268) (Vg lists n l N)])→(∀pr r po σ',Z7 ls=pr++r::po→pr.foldlM (fun σ r=>step σ (p++r)) σ=some σ'→ok σ' (p++r))→
   Yc prog 197 m 268 (.int .i64 p.length::Vg lists n l N) G
    (fun r G'=>∃σ' rest',W9 step p ls σ=some σ'∧ZoA 4 rest' ls.length∧r= .bool true∧G'=(low n (A σ') G).upd n 7 (.Zg 40 4 (flat (p.map Tm.enc++rest')) N))
    (fun G'=>W9 step p ls σ=none∧ ∃σ' b,G'=(low n (A σ') G).upd n 7 b∧b.Below (n+1))
 |[],pre,p,rest,σ,m,G,e,hp,hr,hm,hA,h7,h4,hok=>by
  have hpl:(p.length:Nat)=N:=by rw[←hN,e,Qs,hp]
  have hrn:rest=[]:=Gm.1 hr.1;subst hrn;rw[Qs]at h7;refine Zkd tok (Zf func268 rfl rfl) (by simp[Vg]) fun B=>?_
  unfold Vg;refine gc ?_;refine Zrq rfl rfl (by simp only[go_sem,simprocAttr,hpl,hN,beq_self_eq_true]) ?_;refine kK ?_;refine YA 197 tok (pre:=[_,_]) (post:=[_]) rfl rfl rfl rfl ?_;refine aS ?_;refine⟨_,_,.inr ⟨l,rfl,hy.call (m+1) _ σ (p++[]) (hok [] [] [] σ rfl rfl) om (by rw[Qs];exact hpl) (fun a b ha=>by rw[Zk (by exact QaK ha hm)];exact hA a b ha) (by rw[Zk (by exact hm),Qs];exact h7)⟩,?_,?_⟩
  ·rintro r H1 ⟨σ',hs,rfl,rfl⟩;refine⟨[],low n (A σ') G,WS (MP hm) _ _ _|>.symm,VQ hy.blw (MP hm) hA _,?_⟩;refine gw ?_;refine Vu (Zn (v:=.bool true) (.refl _) (.bool _) ⟨σ',[],by rw[Zcr,←hs,Qs],⟨rfl,fun _ h=>by cases h⟩,rfl,?_⟩);rw[Yd];rw[J6 (QY n),h7,Qs]
  ·rintro H1 ⟨hs,σ',rfl⟩;refine⟨[],low n (A σ') G,WS (MP hm) _ _ _|>.symm,VQ hy.blw (MP hm) hA _,rfl,by rw[Zcr,←hs,Qs],σ',_,(Yd (J6 (QY n) _|>.trans h7)).symm,Zag fun y h=>by obtain⟨x,_,rfl⟩:=Qi.1 h;exact hy.el x⟩
 |q::ls,pre,p,rest,σ,m,G,e,hp,hr,hm,hA,h7,h4,hok=>by
  have hpl:p.length<N:=by rw[←hN,e,Qh,hp];simp
  have hq:q.length≤1000000:=hl q (by rw[e];simp);have hne:((p.length:Int)==(lists.length:Int))=false:=by rw[hN];simp;omega
  have hgq:lists[p.length]? =some q:=by rw[e,←hp];simp
  have hgD:(lists.map eTs).getD p.length .dead= .sl 4 (q.map Tm.enc) .any:=by rw[Qn,Ua,hgq];rfl
  have hpa:p.length<lists.length:=om;refine Zkd tok (Zf func268 rfl rfl) (by simp[Vg]) fun B=>?_
  unfold Vg;refine nR ?_;refine nq hne ?_;refine nF ?_;refine nq2 hgD hpa ?_;refine kK ?_;refine Zar (fun μ s=>∃i σi rest',i≤q.length∧μ=q.length - i∧ZoA 4 rest' (ls.length+1)∧(q.take i).foldlM (fun σ x=>W9 step (p++[x]) ls σ) σ=some σi∧s=Zpa p q lists n l N i ((low n (A σi) G).upd n 7 (.Zg 40 4 (flat (p.map Tm.enc++rest')) N))) (m0:=q.length) (s0:=Zpa p q lists n l N 0 G) rfl ?_ ⟨0,σ,rest,Uw _,rfl,hr,rfl,by rw[Zkv hA,Yd h7]⟩ ?_
  ·apply kZ;repeat' first|apply q0|exact xx|apply aI
   all_goals first|exact(Zao m q).inside|exact(ZN (ZB fun x hx=>by obtain⟨u,_,rfl⟩:=Qi.1 hx;exact Zao m u)).inside|exact(ZN (Below.fn _ _ fun i h=>absurd h (Qo _))).inside|exact(ZN (.msl _ _ _ _ hm)).inside|exact(Below.ptr _ _ _ hm).inside
  rintro μ s ⟨i,σi,rest',hi,rfl,hr',hf,rfl⟩;have h7':((low n (A σi) G).upd n 7 (.Zg 40 4 (flat (p.map Tm.enc++rest')) N)) n 7=some (.Zg 40 4 (flat (p.map Tm.enc++rest')) N):=Za.upd_same _ _ _ _;have h4':((low n (A σi) G).upd n 7 (.Zg 40 4 (flat (p.map Tm.enc++rest')) N)) n 4=some (.box [.fn (.func 268) (Vg lists n l N)]):=by rw[Za.upd_ne _ _ sm,J6 (QY n)];exact h4
  have hA':∀a b,a<n→((low n (A σi) G).upd n 7 (.Zg 40 4 (flat (p.map Tm.enc++rest')) N)) a b=A σi a b:=fun a b ha=>by rw[Za.upd_ne _ _ om,Zc0 ha]
  have hG':low n (A σi) G=low n (A σi) ((low n (A σi) G).upd n 7 (.Zg 40 4 (flat (p.map Tm.enc++rest')) N))∨True:=.inr trivial;generalize hGi:(low n (A σi) G).upd n 7 (.Zg 40 4 (flat (p.map Tm.enc++rest')) N)=Gi at*;refine ZQ rfl ?_;rcases Qe i q.length with h|h
  ·have hgi:(q.map Tm.enc).getD i .dead=Tm.enc q[i]:=by simp[Qn,Qb h]
   have hc:(i:Int)<(q.length:Int):=om;refine nq2 hc h ?_;refine nT ?_;refine nq2 hgi h ?_;obtain⟨y,rs,rfl⟩:∃y rs,rest'=y::rs:=by cases rest' with|nil=>cases hr'.1|cons y rs=>exact⟨y,rs,rfl⟩
   have hnm:¬n=m:=om;have hw:=Znm hy.el p y (hr'.2 y sm) q[i] rs;rw[Zqu]at hw;have hwl:=ZnE (Zcd (p:=p) hy.el hr'.2);have hpl':p.length*4+4≤(flat (p.map Tm.enc++y::rs)).length:=by rw[hwl,Qh,Qq,Qw];omega
   refine nq4 h7' hnm hpl hpl' ?_;refine⟨om,.inr ?_,?_⟩
   ·have:Ze.Below m (.Zg 40 4 (flat ((p++[q[i]]).map Tm.enc++rs)) N):=Zag (Zcd hy.el fun y h=>hr'.2 y (by simp[h]));rw[←hw]at this;exact this
   refine ZQ (H:=Gi.upd n 7 (.Zg 40 4 (flat ((p++[q[i]]).map Tm.enc++rs)) N)) (by rw[←hw]) ?_;have hG2:Gi.upd n 7 (.Zg 40 4 (flat ((p++[q[i]]).map Tm.enc++rs)) N)=(low n (A σi) G).upd n 7 (.Zg 40 4 (flat ((p++[q[i]]).map Tm.enc++rs)) N):=by rw[←hGi,ZfQ]
   have h72:(Gi.upd n 7 (.Zg 40 4 (flat ((p++[q[i]]).map Tm.enc++rs)) N)) n 7=some (.Zg 40 4 (flat ((p++[q[i]]).map Tm.enc++rs)) N):=Za.upd_same _ _ _ _;have h42:(Gi.upd n 7 (.Zg 40 4 (flat ((p++[q[i]]).map Tm.enc++rs)) N)) n 4=some (.box [.fn (.func 268) (Vg lists n l N)]):=by rw[Za.upd_ne _ _ sm];exact h4'
   have hA2:∀a b,a<n→(Gi.upd n 7 (.Zg 40 4 (flat ((p++[q[i]]).map Tm.enc++rs)) N)) a b=A σi a b:=fun a b ha=>by rw[Za.upd_ne _ _ om];exact hA' a b ha
   generalize Gi.upd n 7 (.Zg 40 4 (flat ((p++[q[i]]).map Tm.enc++rs)) N)=G2 at*;refine kK ?_;refine YA 197 tok (pre:=[_,_,_]) (post:=[_]) rfl rfl rfl rfl ?_;refine aq2 h42 hnm ?_;have hup:∀σ' X,(low n (A σ') G2).upd n 7 X=(low n (A σ') G).upd n 7 X:=fun σ' X=>by rw[hG2,ZmK _ _ _ _ _ _ (QY n),Zm6,ZfQ]
   have hL:∀σ' X,(low n (A σ') (full m (Zpl q[i]) G2)).upd n 7 X=full m (Zpl q[i]) ((low n (A σ') G).upd n 7 X):=fun σ' X=>by rw[←hup,Yi _ _ _ _ _ _ hnm,WS (MP hm)]
   have hO:∀σ' X,Ze.Below m X→ZM m G2 ((low n (A σ') G).upd n 7 X):=fun σ' X hX=>by rw[←hup];exact(VQ hy.blw (MP hm) hA2 _).trans (.upd hX)
   have hcall:=e268 hy lists hN hlen hl ls (pre++[q]) (p++[q[i]]) rs σi (m+1) (full m (Zpl q[i]) G2) (by rw[e];simp) (by simp[hp]) ⟨by simpa using hr'.1,fun y h=>hr'.2 y (by simp[h])⟩ om (fun a b ha=>by rw[Zk (by exact QaK ha hm)];exact hA2 a b ha) (by rw[Zk (by exact hm)];exact h72) (by rw[Zk (by exact hm)];exact h42) (ZpW h hok hf);refine Zfx (caps:=Vg lists n l N) rfl (Zf func268 rfl rfl) hcall ?_ ?_ ?_
   ·have hi64:IntKind.i64.wrap ((p.length:Int)+1)=((p++[q[i]]).length:Int):=by rw[iw];simp
    simp only[go_sem,simprocAttr,hi64]
   ·rintro r H1 ⟨σ',rest'',hs,hrl,rfl,rfl⟩;refine⟨_,_,hL _ _,hO _ _ (Zag (Zcd hy.el hrl.2)),?_⟩;refine gI ?_;refine⟨q.length - (i+1),Zpa p q lists n l N (i+1) ((low n (A σ') G).upd n 7 (.Zg 40 4 (flat (p.map Tm.enc++Tm.enc q[i]::rest'')) N)),om,?_,i+1,σ',Tm.enc q[i]::rest'',h,rfl,⟨by simp[hrl.1],fun y h=>by rcases Ql.1 h with rfl|h;exact hy.el _;exact hrl.2 y h⟩,by rw[Zes _ h hf];exact hs,rfl⟩;rw[show p.map Tm.enc++Tm.enc q[i]::rest''=(p++[q[i]]).map Tm.enc++rest'' by simp];apply kZ;repeat' first|apply q0|exact xx|apply aI
    ·refine aS ?_;rw[iw];exact .refl _
    all_goals first|exact(Zao m q).inside|exact(ZN (ZB fun x hx=>by obtain⟨u,_,rfl⟩:=Qi.1 hx;exact Zao m u)).inside|exact(ZN (Below.fn _ _ fun i h=>absurd h (Qo _))).inside|exact(ZN (.msl _ _ _ _ hm)).inside|exact(Below.ptr _ _ _ hm).inside
   ·rintro H1 ⟨hs,σ',b,rfl,hb⟩;refine⟨_,_,hL _ _,hO _ _ ⟨fun v hv=>(hb.1 v hv).mono hm,fun q hq=>Un (hb.2 q hq) hm⟩,?_⟩;refine Vm ⟨rfl,?_,σ',b,rfl,hb⟩ _;rw[J8,fold_at _ h hf,hs];rfl
  ·have hi':i=q.length:=om;subst hi';have hc:¬q.length<q.length:=QY _;rw[QI]at hf;refine nq hc ?_;refine gg ?_;refine nq hc ?_;refine nV ?_;subst hGi;refine Vu (Zn (v:=.bool true) (.refl _) (.bool _) ⟨σi,rest',by rw[J8,hf],hr',rfl,rfl⟩)
abbrev z257:AV:=.int .i64 0
abbrev z267:AV:=.agg [.int .u8 0,.int .i64 0,.str [],.sl 4 [] .full]
def zrow257:Zeg 1 z257:=⟨rfl,fun m c hc=>by rw[Qm.1 hc];exact .int _ _⟩
def zrow267:Zeg 4 z267:=⟨rfl,fun m=>(Yg.mem (l:=[AV.int .u8 0,.int .i64 0,.str [],.sl 4 [] .full]) (p:=fun c=>Below m c) ⟨.int _ _,.int _ _,.str _,YN (fun _ h=>by cases h) (fun _ _ e=>by cases e),trivial⟩)⟩
def e257{l:Nat}{A:St→Za}{step:St→List Int→Option St}{ok:St→List Int→Prop}(H:Za)(lists:List (List Int))(hlen:lists.length≤1000000)(hl:∀q∈lists,q.length≤1000000)(hy:ZoQ n l lists.length 3 1 eInt A step ok)(σ:St)(hA:∀a b,a<n→H a b=A σ a b)(hok:∀pr r po σ',Z7 lists=pr++r::po→pr.foldlM step σ=some σ'→ok σ' r):
  Yc prog 197 n 257 [.fn (.yield l) [],.iptr [.sl 1 (lists.map eIs) .any]] H (fun _ H'=>∃σ',W9 step [] lists σ=some σ'∧H'=low n (A σ') H) (fun H'=>W9 step [] lists σ=none∧ ∃σ',H'=low n (A σ') H):=by
 refine xF func257 fun B=>?_
 refine gc ?_;refine⟨⟨Zl om,om⟩,?_⟩;refine gh ?_;have hfn:∀q,Inside n q (.fn (.yield l) []):=fun q=>(Below.fn _ _ fun i h=>absurd h (Qo _)).inside
 have hli:∀q,Inside n q (.iptr [.sl 1 (lists.map eIs) .any]):=fun q=>(ZN (ZB fun x hx=>by obtain⟨u,_,rfl⟩:=Qi.1 hx;exact Zaj n u)).inside
 have hz:∀y∈List.replicate lists.length z257,Zeg 1 y:=fun y hy=>by rw[(Uk.1 hy).2];exact zrow257
 have hmb:∀q i,(Ze.Zg 3 1 (flat (List.replicate lists.length z257)) i).Inside n q:=fun q i=>(Zag hz).inside
 refine Ya 2 [.fn (.yield l) []] [(4,.ptr n 4 0),(3,.ptr n 3 0),(2,.iptr [.fn (.yield l) []]),(1,.iptr [.sl 1 (lists.map eIs) .any])] rfl ⟨hfn _,trivial⟩ ⟨.inl ⟨.refl _,.ptr _ _ _ (.inr ⟨rfl,dc⟩)⟩,.inl ⟨.refl _,.ptr _ _ _ (.inr ⟨rfl,dc⟩)⟩,.inr ⟨0,rfl,rfl⟩,.inl ⟨.refl _,hli _⟩,trivial⟩ ?_ ?_
 ·exact⟨hmb _ _,Ze.Zy ⟨.msl _ _ _ _ (.inr ⟨rfl,dc⟩),trivial⟩,Ze.Zy ⟨Below.inside .nilf,trivial⟩,trivial⟩
 refine Ya 3 [.msl 1 n 7 lists.length] [(4,.ptr n 4 0),(3,.iptr [.msl 1 n 7 lists.length]),(2,.iptr [.fn (.yield l) []]),(1,.iptr [.sl 1 (lists.map eIs) .any])] rfl ⟨.msl _ _ _ _ (.inr ⟨rfl,dc⟩),trivial⟩ ⟨.inl ⟨.refl _,.ptr _ _ _ (.inr ⟨rfl,dc⟩)⟩,.inr ⟨0,rfl,rfl⟩,.inl ⟨.refl _,(ZN (Below.fn _ _ fun i h=>absurd h (Qo _))).inside⟩,.inl ⟨.refl _,hli _⟩,trivial⟩ ?_ ?_
 ·exact⟨hmb _ _,Ze.Zy ⟨Below.inside .nilf,trivial⟩,trivial⟩
 refine gh ?_;refine YA 197 tok (pre:=[_]) (post:=[]) rfl rfl rfl rfl ?_;refine aS ?_;refine Zfx (caps:=Vh lists n l lists.length) rfl (Zf func258 rfl rfl) (e258 hy lists rfl hlen hl lists [] [] (List.replicate lists.length z257) σ (n+1) _ rfl rfl ⟨sm,hz⟩ (Qr n) (fun a b ha=>by rw[Zk ha];exact hA a b ha) (by simp[full,lkb]) (by simp[full,lkb,Vh]) hok) sS ?_ ?_
 ·rintro r H1 ⟨σ',rest',hs,hrq,rfl,rfl⟩;refine⟨_,_,by rw[←WS (Qg n),←Zr],VQ hy.blw (Qg n) hA _,?_⟩;refine gO ?_;exact⟨fun x h=>by simp[Tryz.f257]at h,[],trivial,fun v h=>absurd h sm,σ',hs,rfl⟩
 ·rintro H1 ⟨hs,σ',b,rfl,hb⟩;refine⟨_,_,by rw[←WS (Qg n),←Zr],VQ hy.blw (Qg n) hA _,?_⟩;exact⟨rfl,hs,σ',rfl⟩
def e267{l:Nat}{A:St→Za}{step:St→List Tm→Option St}{ok:St→List Tm→Prop}(H:Za)(lists:List (List Tm))(hlen:lists.length≤1000000)(hl:∀q∈lists,q.length≤1000000)(hy:ZoQ n l lists.length 40 4 Tm.enc A step ok)(σ:St)(hA:∀a b,a<n→H a b=A σ a b)(hok:∀pr r po σ',Z7 lists=pr++r::po→pr.foldlM step σ=some σ'→ok σ' r):
  Yc prog 197 n 267 [.fn (.yield l) [],.iptr [.sl 1 (lists.map eTs) .any]] H (fun _ H'=>∃σ',W9 step [] lists σ=some σ'∧H'=low n (A σ') H) (fun H'=>W9 step [] lists σ=none∧ ∃σ',H'=low n (A σ') H):=by
 refine xF func267 fun B=>?_
 refine gc ?_;refine⟨⟨Zl om,om⟩,?_⟩;refine gh ?_;have hfn:∀q,Inside n q (.fn (.yield l) []):=fun q=>(Below.fn _ _ fun i h=>absurd h (Qo _)).inside
 have hli:∀q,Inside n q (.iptr [.sl 1 (lists.map eTs) .any]):=fun q=>(ZN (ZB fun x hx=>by obtain⟨u,_,rfl⟩:=Qi.1 hx;exact Zao n u)).inside
 have hz:∀y∈List.replicate lists.length z267,Zeg 4 y:=fun y hy=>by rw[(Uk.1 hy).2];exact zrow267
 have hmb:∀q i,(Ze.Zg 40 4 (flat (List.replicate lists.length z267)) i).Inside n q:=fun q i=>(Zag hz).inside
 refine Ya 2 [.fn (.yield l) []] [(4,.ptr n 4 0),(3,.ptr n 3 0),(2,.iptr [.fn (.yield l) []]),(1,.iptr [.sl 1 (lists.map eTs) .any])] rfl ⟨hfn _,trivial⟩ ⟨.inl ⟨.refl _,.ptr _ _ _ (.inr ⟨rfl,dc⟩)⟩,.inl ⟨.refl _,.ptr _ _ _ (.inr ⟨rfl,dc⟩)⟩,.inr ⟨0,rfl,rfl⟩,.inl ⟨.refl _,hli _⟩,trivial⟩ ?_ ?_
 ·exact⟨hmb _ _,Ze.Zy ⟨.msl _ _ _ _ (.inr ⟨rfl,dc⟩),trivial⟩,Ze.Zy ⟨Below.inside .nilf,trivial⟩,trivial⟩
 refine Ya 3 [.msl 4 n 7 lists.length] [(4,.ptr n 4 0),(3,.iptr [.msl 4 n 7 lists.length]),(2,.iptr [.fn (.yield l) []]),(1,.iptr [.sl 1 (lists.map eTs) .any])] rfl ⟨.msl _ _ _ _ (.inr ⟨rfl,dc⟩),trivial⟩ ⟨.inl ⟨.refl _,.ptr _ _ _ (.inr ⟨rfl,dc⟩)⟩,.inr ⟨0,rfl,rfl⟩,.inl ⟨.refl _,(ZN (Below.fn _ _ fun i h=>absurd h (Qo _))).inside⟩,.inl ⟨.refl _,hli _⟩,trivial⟩ ?_ ?_
 ·exact⟨hmb _ _,Ze.Zy ⟨Below.inside .nilf,trivial⟩,trivial⟩
 refine gh ?_;refine YA 197 tok (pre:=[_]) (post:=[]) rfl rfl rfl rfl ?_;refine aS ?_;refine Zfx (caps:=Vg lists n l lists.length) rfl (Zf func268 rfl rfl) (e268 hy lists rfl hlen hl lists [] [] (List.replicate lists.length z267) σ (n+1) _ rfl rfl ⟨sm,hz⟩ (Qr n) (fun a b ha=>by rw[Zk ha];exact hA a b ha) (by simp[full,lkb]) (by simp[full,lkb,Vg]) hok) sS ?_ ?_
 ·rintro r H1 ⟨σ',rest',hs,hrq,rfl,rfl⟩;refine⟨_,_,by rw[←WS (Qg n),←Zr],VQ hy.blw (Qg n) hA _,?_⟩;refine gO ?_;exact⟨fun x h=>by simp[Tryz.f267]at h,[],trivial,fun v h=>absurd h sm,σ',hs,rfl⟩
 ·rintro H1 ⟨hs,σ',b,rfl,hb⟩;refine⟨_,_,by rw[←WS (Qg n),←Zr],VQ hy.blw (Qg n) hA _,?_⟩;exact⟨rfl,hs,σ',rfl⟩
def e234(lists:List (List Int)):Pure prog 234 [.sl 1 (lists.map eIs) .any] (.fn (.func 257) [.iptr [.sl 1 (lists.map eIs) .any]]):=by
 intro n H;refine aF func234 fun B=>?_
 have hb:Below n (.sl 1 (lists.map eIs) .any):=ZB fun x hx=>by obtain⟨u,_,rfl⟩:=Qi.1 hx;exact Zaj n u
 refine gh ?_;refine Ya 1 [.sl 1 (lists.map eIs) .any] [(2,.nilf),(1,.iptr [.sl 1 (lists.map eIs) .any])] rfl ⟨hb.inside,trivial⟩ ⟨.inl ⟨.refl _,Below.inside .nilf⟩,.inr ⟨0,rfl,rfl⟩,trivial⟩ trivial ?_;refine ge ?_;exact Zc (.refl _) (Below.fn _ _ fun i h=>by
  have:i=0:=by simp at h;omega
  subst this;exact ZN hb) rfl
def ZvD(lists:List (List Tm)):Pure prog 239 [.sl 1 (lists.map eTs) .any] (.fn (.func 267) [.iptr [.sl 1 (lists.map eTs) .any]]):=by
 intro n H;refine aF func239 fun B=>?_
 have hb:Below n (.sl 1 (lists.map eTs) .any):=ZB fun x hx=>by obtain⟨u,_,rfl⟩:=Qi.1 hx;exact Zao n u
 refine gh ?_;refine Ya 1 [.sl 1 (lists.map eTs) .any] [(2,.nilf),(1,.iptr [.sl 1 (lists.map eTs) .any])] rfl ⟨hb.inside,trivial⟩ ⟨.inl ⟨.refl _,Below.inside .nilf⟩,.inr ⟨0,rfl,rfl⟩,trivial⟩ trivial ?_;refine ge ?_;exact Zc (.refl _) (Below.fn _ _ fun i h=>by
  have:i=0:=by simp at h;omega
  subst this;exact ZN hb) rfl
end
theorem cmps_len:∀{p q:List Tm},cmpT.cmps p q=0→p.length=q.length
 |[],[],_=>rfl
 |[],_::_,h=>by rw[cmpT.cmps]at h;cases h
 |_::_,[],h=>by rw[cmpT.cmps]at h;cases h
 |a::p,b::q,h=>by
  rw[cmpT.cmps]at h;unfold thn at h;split at h
  ·rw[Qq,Qq,cmps_len h]
  ·rename_i hh;exact absurd h hh
def ZnS(b c:Bnd):YU b c=cmpT.cmps (b.map Prod.snd) (c.map Prod.snd):=by
 unfold YU thn;split
 ·rename_i h;have:=cmps_len h;simp only[Qw]at this;rw[h,this];simp[YO]
 ·rfl
def k99(p q:Str×Tm)(hp:p.2.Good)(hq:q.2.Good):Pure prog 99 [eBd p,eBd q] (.int .i64 (cmpT p.2 q.2)):=by
 intro n H;refine aF func99 fun B=>?_
 refine gc ?_;refine cP (a53 p.2 q.2 hp hq) ?_;refine nV ?_;exact Zc (.refl _) (.int _ _) rfl
def Zvz(p q:Bnd)(H:Za)(i:Nat):Zb:=
 ⟨[(13,.int .i64 i),(12,.int .i64 p.length),(11,.sl 5 (p.map eBd) .any),(0,.sl 5 (p.map eBd) .any),(1,.sl 5 (q.map eBd) .any),(2,.fn (.func 99) [])],[],H⟩
def k98(p q:Bnd)(hp:p.length≤1000000)(hq:q.length≤1000000)(gp:∀x∈p,x.2.Good)(gq:∀x∈q,x.2.Good):Pure prog 98 [.sl 5 (p.map eBd) .any,.sl 5 (q.map eBd) .any,.fn (.func 99) []] (.int .i64 (YU p q)):=by
 intro n H;rw[ZnS];have hfi:∀r,Inside n r (.fn (.func 99) []):=fun r=>Inside.fn _ _ (fun i h=>absurd h (Qo _))
 refine aF func98 fun B=>?_
 refine gk ?_;refine ZL (Zvz p q H) (fun i=>cmpT.cmps (p.map Prod.snd) (q.map Prod.snd)=cmpT.cmps ((p.map Prod.snd).drop i) ((q.map Prod.snd).drop i)) p.length rfl ?_ rfl ?_
 ·exact KK
 intro i hi hc;refine ZQ rfl ?_;rcases Qe i p.length with h|h
 ·refine nq h ?_;refine nT ?_;have hlp:i<(p.map Prod.snd).length:=by simpa using h
  refine nq2 (getD_map eBd _ _ h) h ?_;rcases Qe i q.length with h'|h'
  ·have hlq:i<(q.map Prod.snd).length:=by simpa using h'
   refine nq2 h' (QbL.2 h') ?_;refine nF ?_;refine nq2 (getD_map eBd _ _ h') h' ?_;refine nR ?_;refine cP (k99 p[i] q[i] (gp _ (Qa h)) (gq _ (Qa h'))) ?_;have hd:=Zej (p.map Prod.snd) (q.map Prod.snd) i hlp hlq;simp only[QN]at hd;rw[hd]at hc;cases h5:(cmpT p[i].2 q[i].2==0)with
   |false=>
    refine nr ?_;simp only[go_sem,simprocAttr,bne,h5];refine gn ?_;refine Zc ?_ (.int _ _) rfl;rw[hc,Zb6 (by simpa using h5)];exact .refl _
   |true=>
    refine nr ?_;simp only[go_sem,simprocAttr,bne,h5];refine gm ?_;refine⟨?_,?_⟩
    ·rw[hc,(by simpa using h5:cmpT p[i].2 q[i].2=0),Y5]
    ·apply kZ;repeat' first|apply q0|exact xx|apply aI
     ·refine aS ?_;rw[iw];exact .refl _
     all_goals exact(Zw n _).inside
  ·refine nq h' ?_;refine gn ?_;refine Zc ?_ (.int _ _) rfl;rw[hc,show(q.map Prod.snd).drop i=[] from QT (by simpa using h'),Qu hlp];exact .refl _
 ·refine nq (QD.2 h) ?_;refine gg ?_;have hi':i=p.length:=om;subst hi';rw[show(p.map Prod.snd).drop p.length=[] from QT sm]at hc;cases h1:decide (p.length<q.length)with
  |true=>
   refine nq h1 ?_;refine gj ?_;refine Zc ?_ (.int _ _) rfl;have:=of_decide_eq_true h1;rw[hc,Qu (by simpa using this)];exact .refl _
  |false=>
   refine nq h1 ?_;refine gF ?_;refine Zc ?_ (.int _ _) rfl;have:=of_decide_eq_false h1;rw[hc,show(q.map Prod.snd).drop p.length=[] from QT (by simp;omega)];exact .refl _
def k51(p q:Bnd)(hp:p.length≤1000000)(hq:q.length≤1000000)(gp:∀x∈p,x.2.Good)(gq:∀x∈q,x.2.Good):Pure prog 51 [Zj p,Zj q] (.int .i64 (YU p q)):=by
 intro n H;have hc:=k98 p q hp hq gp gq;refine aF func51 fun B=>?_
 refine gc ?_;refine WE (Zf func98 rfl rfl) (hc) (by simp only[go_sem,simprocAttr,Zj]) ?_;simp only[go_sem,simprocAttr,Zj];refine nV ?_;exact Zc (.refl _) (.int _ _) rfl
def k53(p q:Bnd)(hp:p.length≤1000000)(hq:q.length≤1000000)(gp:∀x∈p,x.2.Good)(gq:∀x∈q,x.2.Good):Pure prog 53 [Zj p,Zj q] (.bool (YU p q==0)):=by
 intro n H;refine aF func53 fun B=>?_
 refine gc ?_;refine cP (k51 p q hp hq gp gq) ?_;exact pB
theorem Zt1(x:Str×Tm):(eBd x).cells.length=5:=rfl
def Ztv(b:Bnd):∀y∈b.map eBd,y.cells.length=5:=fun y hy=>by obtain⟨x,_,rfl⟩:=Qi.1 hy;rfl
def Zeh{n m:Nat}(b:Bnd):Ze.Below n (.Zg 42 5 (flat (b.map eBd)) m):=⟨(XQ fun x hx=>by obtain⟨y,_,rfl⟩:=Qi.1 hx;exact Zdh n y).mem,by simp[Ze.at_]⟩
def Zp9(b:Bnd)(j:Nat)(h:j<b.length):((flat (b.map eBd)).drop (j*5)).take 5=(eBd b[j]).cells:=by
 have:=Zi3 (Ztv b) j (by simpa using h);rw[this,QN]
def Zi6(b:Bnd):(flat (b.map eBd)).length=b.length*5:=by rw[flat_length (Ztv b),Qw]
def Zv4(l k:Nat)(b:Bnd)(f:Nat)(caps:List AV)(H:Za)(i:Nat):Zb:=
 ⟨[(8,.int .i64 i),(7,.int .i64 b.length),(1,.fn (.func f) caps),(0,.msl 5 l k b.length)],[],H⟩
def k95(n:Nat)(H:Za)(l k:Nat)(hl:l<n)(b:Bnd)(hb:b.length≤1000000)(f:Nat)(caps:List AV)(p:Str×Tm→Bool)(m0:Nat)(H0:Za)(hm0:m0≤n)(hag:∀l' k,l'<m0→H l' k=H0 l' k)(hp:Zbo m0 H0 f caps eBd b p)(hH:H l k=some (.Zg 42 5 (flat (b.map eBd)) b.length)):
  PC prog n 95 [.msl 5 l k b.length,.fn (.func f) caps] H (.int .i64 (ZcR p b)):=by
 have hne:¬l=n:=om;obtain⟨⟨fn,c,hf⟩,hp,hbl⟩:=hp;have hfi:∀q,Inside n q (.fn (.func f) caps):=fun q=>(Below.fn _ _ fun i hi=>(hbl n hm0).mem _ (Qa hi)).inside
 have hmi:∀q,Inside n q (.msl 5 l k b.length):=fun q=>.msl _ _ _ _ (.inl hl)
 refine aF func95 fun B=>?_
 refine gk ?_;refine ZL (Zv4 l k b f caps H) (fun i=>∀j (h:j<b.length),j<i→p b[j]=false) b.length rfl ?_ (fun j _ h=>absurd h (Qo _)) ?_
 ·exact KK
 intro i hi hq;refine ZQ rfl ?_;rcases Qe i b.length with h|h
 ·have h1:=Zp9 b i h;have h2:=Zi6 b;have h3:i*5+5≤b.length*5:=om;refine nq h ?_;refine gi ?_;refine nq4 h hne hH h1 ?_;refine⟨⟨om,om⟩,?_⟩;refine YE (avs:=[eBd b[i]]) rfl hf (hp b[i] (Qa h) (n+1) _ om fun l' k hlt=>(Zk (show l'<n by omega) _ _ _).trans (hag l' k hlt)) rfl ?_;cases h5:p b[i]with
  |true=>
   refine aS ?_;refine gn ?_;refine Zc ?_ (.int _ _) rfl;rw[ZaR h h5 hq];exact .refl _
  |false=>
   refine gI ?_;refine⟨fun j hj hji=>?_,?_⟩
   ·rcases Qe j i with h'|h'
    ·exact hq j hj h'
    ·have:j=i:=om;subst this;exact h5
   ·apply kZ;repeat' first|apply q0|exact xx|apply aI
    ·refine aS ?_;rw[iw];exact .refl _
    all_goals first|exact hfi _|exact hmi _
 ·refine nq (QD.2 h) ?_;refine gt ?_;refine Zc ?_ (.int _ _) rfl;rw[VA (fun j hj=>hq j hj om)];exact .refl _
theorem Zn1{α:Type}(p:α→Bool)(b:List α):(ZcR p b= -1∧ ∀x∈b,p x=false)∨ ∃i,∃h:i<b.length,ZcR p b=i∧p b[i]=true∧ ∀j (h:j<b.length),j<i→p b[j]=false:=by
 by_cases h:∃i,∃h:i<b.length,p b[i]=true
 ·right
  have hx:∃x∈b,p x=true:=by obtain⟨i,hi,e⟩:=h;exact⟨_,Qa hi,e⟩
  have hlt:=List.findIdx_lt_length_of_exists hx;refine⟨b.findIdx p,hlt,?_,List.findIdx_getElem (w:=hlt),fun j hj hji=>by simpa using Qbx hji⟩;exact ZaR hlt (List.findIdx_getElem (w:=hlt)) fun j hj hji=>by simpa using Qbx hji
 ·left
  have hn:∀x∈b,p x=false:=fun x hx=>by
   obtain⟨i,hi,rfl⟩:=QJ hx;cases e:p b[i]with
   |false=>rfl
   |true=>exact absurd ⟨i,hi,e⟩ h
  exact⟨VA fun j hj=>hn _ (Qa hj),hn⟩
def ktB(p:Str×Tm→Bool)(b:Bnd)(j:Nat):Bnd:=(b.take j).filter fun x=>!p x
def Zsc(p:Str×Tm→Bool)(b:Bnd)(j:Nat):(ktB p b j).length≤j:=by
 have h1:=UH (fun x=>!p x) (b.take j);have h2:(b.take j).length≤j:=by rw[QM];omega
 exact Ue h1 h2
def ZkB(p:Str×Tm→Bool)(b:Bnd)(j:Nat)(h:j<b.length):ktB p b (j+1)=ktB p b j++if p b[j]=true then []else [b[j]]:=by
 unfold ktB;rw[Qj h,QaE];cases e:p b[j]<;>simp[e]
def Zsd(l k:Nat)(b:Bnd)(f:Nat)(caps:List AV)(p:Str×Tm→Bool)(H:Za)(j:Nat):Zb:=
 ⟨[(6,.int .i64 j),(5,.int .i64 (ktB p b j).length),(0,.msl 5 l k b.length),(1,.fn (.func f) caps)],[],H.upd l k (.Zg 42 5 (flat ((mix (ktB p b j) b).map eBd)) b.length)⟩
def zBd:AV:=.agg [.str [],.int .u8 0,.int .i64 0,.str [],.sl 4 [] .full]
def ZmX{n:Nat}:Yg (fun c=>Below n c) zBd.cells:=⟨.str _,.int _ _,.int _ _,.str _,YN (fun _ h=>by cases h) (fun _ _ e=>by cases e),trivial⟩
def ZtN(n l k:Nat)(b:Bnd)(p:Str×Tm→Bool)(H:Za)(r:AV)(H':Za):Prop:=
 (r= .msl 5 l k b.length∧H'=H∧ktB p b b.length=b)∨
 (r= .sub 5 l k b.length 0 (ktB p b b.length).length∧0<b.length∧H'=H.upd l k (.Zg 42 5 (flat ((ktB p b b.length).map eBd++List.replicate (b.length - (ktB p b b.length).length) zBd)) b.length))
def u45:Opt:=⟨false,false,fun d=>if d=38 then .heap else .auto,[]⟩
def k45(n:Nat)(H:Za)(l k:Nat)(hl:l<n)(b:Bnd)(hb:b.length≤1000000)(f:Nat)(caps:List AV)(p:Str×Tm→Bool)(m0:Nat)(H0:Za)(hm0:m0≤l)(hag:∀l' k,l'<m0→H l' k=H0 l' k)(hp:Zbo m0 H0 f caps eBd b p)(hH:H l k=some (.Zg 42 5 (flat (b.map eBd)) b.length)):
  Zi prog n 45 [.msl 5 l k b.length,.fn (.func f) caps] H (ZtN n l k b p H):=by
 have hne:¬l=n:=om;have hI:=k95 (n+1) (full n [] H) l k om b hb f caps p m0 H0 om (fun l' k hlt=>(Zk (show l'<n by omega) _ _ _).trans (hag l' k hlt)) hp (by rw[Zk hl];exact hH);obtain⟨⟨fn,c,hf⟩,hp,hbl⟩:=hp;have hfi:∀q,Inside n q (.fn (.func f) caps):=fun q=>(Below.fn _ _ fun i hi=>(hbl n om).mem _ (Qa hi)).inside
 have hmi:∀q,Inside n q (.msl 5 l k b.length):=fun q=>.msl _ _ _ _ (.inl hl)
 refine aF func45 fun B=>?_
 refine gc ?_;refine cQ hI ?_;rcases Zn1 p b with⟨e,hno⟩|⟨i0,hi0,e,hpi,hq⟩
 ·rw[e];refine gP ?_;refine gj ?_;refine Zn (.refl _) (.msl _ _ _ _ hl) (.inl ⟨rfl,rfl,?_⟩);unfold ktB;rw[QI,List.filter_eq_self.2 fun x hx=>by rw[hno x hx];rfl]
 ·rw[e];have hne1:((i0:Int)== -1)=false:=sm;refine aS ?_;refine nq hne1 ?_;refine gN ?_;have hk0:ktB p b (i0+1)=b.take i0:=by
   rw[ZkB p b i0 hi0,if_pos hpi,Qs];unfold ktB;refine List.filter_eq_self.2 fun x hx=>?_
   obtain⟨j,hj,rfl⟩:=QJ hx;rw[GL,hq j (by rw[QM]at hj;omega) (by rw[QM]at hj;omega)];rfl
  have hl0:(b.take i0).length=i0:=by rw[QM];omega
  have hm0:mix (b.take i0) b=b:=by unfold mix;rw[hl0,Q7]
  refine Zm (fun i=>Zsd l k b f caps p H (i0+1+i)) (b.length - (i0+1)) rfl ?_ ?_
  ·unfold Zsd;rw[UF,hk0,hl0,hm0,Yd hH];exact KK
  intro i hi;refine ZQ rfl ?_;obtain⟨j,hj⟩:∃j,j=i0+1+i:=⟨_,rfl⟩
  rw[show i0+1+(i+1)=j+1 by omega,←hj];have hjl:=Zsc p b j;rcases Qe j b.length with h|h
  ·have hml:=ZfC (kept:=ktB p b j) (xs:=b) om;have h1:=Zp9 (mix (ktB p b j) b) j om;rw[ZdI j hjl om h]at h1;have h2:=Zi6 (mix (ktB p b j) b);rw[hml]at h2;have hs:=ZkB p b j h;have hup:H.upd l k (.Zg 42 5 (flat ((mix (ktB p b j) b).map eBd)) b.length) l k=some (.Zg 42 5 (flat ((mix (ktB p b j) b).map eBd)) b.length):=Za.upd_same _ _ _ _;refine nq h ?_;refine nT ?_;refine nq4 h hne hup h1 ?_;refine⟨⟨om,om⟩,?_⟩;refine nR ?_;refine YE (avs:=[eBd b[j]]) rfl hf (hp b[j] (Qa h) (n+1) _ om fun l' k hlt=>?_) rfl ?_
   ·rw[Zk (show l'<n by omega)];simp only[Za.upd,show¬l'=l by omega,false_and,if_false];exact hag l' k hlt
   cases h5:p b[j]with
   |true=>
    rw[h5,if_pos rfl,Qs]at hs;refine gI ?_;refine⟨om,?_⟩;unfold Zsd;rw[hs];apply kZ;repeat' first|apply q0|exact xx|apply aI
    ·refine aS ?_;rw[iw];exact .refl _
    all_goals first|exact hfi _|exact hmi _
   |false=>
    rw[h5,if_neg sm]at hs;have hkl:(ktB p b j).length<b.length:=om;have hsp:=ZcV eBd Zt1 (kept:=ktB p b j) (xs:=b) b[j] hkl;rw[←hs]at hsp;simp only[go_sem,simprocAttr]at hsp;refine aS ?_;refine nT ?_;refine nq4 hne hup hkl hsp ?_;refine⟨⟨om,om⟩,.inr (Zeh _),?_⟩;rw[Za.Zau];refine gc ?_;refine nN ?_;refine⟨om,?_⟩;unfold Zsd;have hsl:(ktB p b (j+1)).length=(ktB p b j).length+1:=by rw[hs];simp
    rw[hsl];apply kZ;repeat' first|apply q0|exact xx|apply aI
    ·refine aS ?_;rw[iw];exact .refl _
    ·refine aS ?_;rw[iw];exact .refl _
    all_goals first|exact hfi _|exact hmi _
  ·have hj':j=b.length:=om;subst hj';have hml:=ZfC (kept:=ktB p b b.length) (xs:=b) hjl;have hlt:(ktB p b b.length).length<b.length:=by
    have h1:ktB p b b.length=ktB p b (i0+1)++(b.drop (i0+1)).filter fun x=>!p x:=by
     unfold ktB;rw[QI,←QaE,Q7]
    have h2:=UH (fun x=>!p x) (b.drop (i0+1));rw[h1,hk0,Qh,hl0];rw[QU]at h2;omega
   generalize hK:ktB p b b.length=K at hjl hml hlt;refine nr ?_;refine aq (QD.2 h) ?_;refine gg ?_;repeat refine kn rfl ?_
   refine YR tok u45 rfl rfl (by kernel_rfl) ?_;simp only[go_sem,simprocAttr,u45];have hHM:∀L G,(∀j,G l j=(H.upd l k (.Zg 42 5 (flat ((mix K b).map eBd)) b.length)) l j)→full n L G l k=some (.Zg 42 5 (flat ((mix K b).map eBd)) b.length):=fun L G h=>(Zk hl _ _ _).trans ((h k).trans (by simp[Za.upd]))
   refine Step.look (v:=.sub 5 l k b.length K.length (b.length - K.length)) (X3 (a:=K.length) (h:=(b.length:Int)) tok rfl rfl rfl rfl rfl (hHM _ _ fun _=>rfl) rfl rfl ?_ ?_ ?_ ?_ ?_) ?_
   ·omega
   ·omega
   ·omega
   ·omega
   ·rw[if_pos om];rfl
   refine aS ?_;refine Step.turn (l:=l) (k:=k) (b:=.Zg 42 5 (flat (K.map eBd++List.replicate (b.length - K.length) zBd)) b.length) (Jq tok rfl rfl rfl rfl rfl rfl (hHM _ _ fun _=>rfl) ?_ rfl ?_ ?_) (.inr ?_) ?_
   ·decide
   ·omega
   ·exact ZbT eBd Zt1 (z:=zBd) rfl hjl
   ·refine⟨(XQ fun x hx=>?_).mem,by simp[Ze.at_]⟩;rcases Qk.1 hx with hx|hx
    ·obtain⟨y,_,rfl⟩:=Qi.1 hx;exact Zdh n y
    ·rw[(Uk.1 hx).2];exact Xf ZmX.mem
   simp only[go_sem,simprocAttr,hne,Za.Zau];refine nr ?_;simp only[go_sem,simprocAttr,hne,Za.upd_same];refine⟨⟨om,om⟩,?_⟩;refine nV ?_;exact Zn (v:=.sub 5 l k b.length 0 K.length) (.refl _) (.sub _ _ _ _ _ _ hl) (.inr ⟨by rw[hK],om,by rw[hK]⟩)
def k47(n:Nat)(H:Za)(l mk:Nat)(hl:l<n)(S:List Str)(hm:H l mk=some (.map (encS S)))(x:Str×Tm):PC prog n 47 [eBd x,.iptr [.map l mk]] H (.bool (!decide (x.1∈S))):=by
 have hh:Vd S [x.1]=decide (x.1∈S):=by simp[Vd]
 refine aF func47 fun B=>?_
 refine gc ?_;refine⟨rfl,?_⟩;refine cQ (Zi.args (j48 (n+1) _ l mk om S [x.1] sm ((Zk hl _ _ _).trans hm)) (args':=[.map l mk,.sl 1 [.str x.1] .full]) ⟨.refl _,.any _ _ _,trivial⟩) ?_;refine aq hh ?_;exact pB
def Zkz{cs us:List AV}{off:Nat}(h:(cs.drop off).take us.length=us):splice cs off us=cs:=by
 unfold splice;rw[←UZ]
 conv=>rhs;rw[←Q7 off cs,←Q7 us.length (cs.drop off),h]
def ZsL(b:Bnd)(j:Nat)(h:j<b.length):((flat (b.map eBd)).drop (j*5+1)).take 4=b[j].2.cs:=by
 have:=Zp9 b j h;rw[←UZ];have h2:((((flat (b.map eBd)).drop (j*5)).take 5).drop 1)=((eBd b[j]).cells).drop 1:=by rw[this]
 rw[Qa9]at h2;exact h2
def Zt9(n l mk:Nat)(K:Bnd)(H:Za)(i:Nat):Zb:=
 ⟨[(11,.int .i64 i),(10,.int .i64 K.length),(0,.msl 5 n 200 K.length),(1,.iptr [.map l mk])],[(200,.Zg 42 5 (flat (K.map eBd)) K.length)],H⟩
def k44(n:Nat)(H:Za)(hT:Tabs H)(hn:0<n)(l mk:Nat)(hl:l<n)(S:List Str)(hm:H l mk=some (.map (encS S)))(b:Bnd)(hb:b.length≤1000000)(hg:∀q∈b,q.2.Good):
  PC prog n 44 [Zj b,.iptr [.map l mk]] H (Zj (Jd S b)):=by
 have hne:¬l=n:=om;have hK:ktB (fun x=>!decide (x.1∈S)) b b.length=Jd S b:=by
  unfold ktB Jd;rw[QI];congr 1
  funext x;simp
 have hbe:Zj1 5 n (b.map eBd):=⟨by simpa using hb,fun y hy=>by obtain⟨x,_,rfl⟩:=Qi.1 hy;exact⟨rfl,rfl,Zdh n x⟩⟩
 have hmi:∀q,Inside n q (.iptr [.map l mk]):=fun q=>(Zq (cs:=[.map l mk]) ⟨.map _ _ hl,trivial⟩).inside
 refine aF func44 fun B=>?_
 refine gc ?_;refine YT (caps:=[]) (avs:=[.sl 5 (b.map eBd) .any]) rfl (Zf func46 rfl rfl) (k46 (n+1) _ (b.map eBd) n 200 (Qr n) sS hbe) (by simp only[go_sem,simprocAttr];rfl) ?_;rintro r H1 ⟨rfl,rfl⟩;refine⟨[(200,.Zg 42 5 (flat (b.map eBd)) (b.map eBd).length)],H,(Zr n _ H 200 _).symm,.refl _ _,?_⟩;refine aS ?_;refine YT (caps:=[]) (avs:=[.msl 5 n 200 b.length,.fn (.func 47) [.iptr [.map l mk]]]) rfl (Zf func45 rfl rfl)
  (k45 (n+1) _ n 200 (Qr n) b hb 47 [.iptr [.map l mk]] (fun x=>!decide (x.1∈S)) n _ (Qg n) (fun _ _ _=>rfl) ⟨⟨_,_,Zf func47 rfl rfl⟩,fun x hx m G hm' hG=>k47 m G l mk om S ((hG _ _ hl).trans ((Zk hl _ _ _).trans hm)) x,fun m hm'=>⟨Zq (cs:=[.map l mk]) ⟨.map _ _ om,trivial⟩,trivial⟩⟩ sS) sS ?_
 rintro r H1 hq;unfold ZtN at hq;rw[hK]at hq;generalize hKK:Jd S b=K at hq⊢;have hgK:∀q∈K,q.2.Good:=fun q hq=>hg q (by rw[←hKK]at hq;exact(Uy.1 hq).1)
 have hlK:K.length≤1000000:=by rw[←hKK];exact Ue (UH _ _) hb
 have hmb:∀q m,Ze.Inside n q (.Zg 42 5 (flat (K.map eBd)) m):=fun q m=>⟨fun c hc=>((Zeh (n:=n) (m:=m) K).1 c hc).inside,by simp[Ze.at_]⟩
 have hms:∀q:Nat→Prop,q 200→Inside n q (.msl 5 n 200 K.length):=fun q h=>.msl _ _ _ _ (.inr ⟨rfl,h⟩)
 have hal:∀q,Yg (fun c=>Inside n q c) (flat (K.map eBd)):=fun q=>Yb fun c hc=>((Zeh (n:=n) (m:=0) K).1 c hc).inside
 have main:AKc ⟨prog,tt,⟨none,B⟩,n,Tryz.f44.ntmps⟩ [.code (ZW Tryz.f44).snd.snd] (PostF prog tt n Tryz.f44.results.toList fun r' H'=>r'=Zj K∧H'=H)
   ⟨[(0,.msl 5 n 200 K.length),(1,.iptr [.map l mk])],[(200,.Zg 42 5 (flat (K.map eBd)) K.length)],H⟩:=by
  refine gh ?_;refine Zm (Zt9 n l mk K H) K.length rfl ?_ ?_
  ·exact KK
  intro i hi;refine ZQ rfl ?_;rcases Qe i K.length with h|h
  ·have h1:=ZsL K i h;have h2:=Zi6 K;have hss:splice (flat (K.map eBd)) (i*5+1) K[i].2.cs=flat (K.map eBd):=Zkz (by rw[show K[i].2.cs.length=4 from rfl];exact h1);simp only[go_sem,simprocAttr]at hss;refine nq h ?_;refine gi ?_;refine nq2 h h1 ?_;refine⟨⟨om,om⟩,?_⟩;refine cT (j49 K[i].2 (hgK _ (Qa h))) ?_;refine aq2 h hss ?_;refine⟨⟨om,om⟩,?_⟩;refine gd ?_;unfold Zt9;apply kZ;repeat' first|apply q0|exact xx|apply aI
   ·refine aS ?_;rw[iw];exact .refl _
   all_goals first|exact hmi _|exact hmb _ _|exact hms _ rfl|exact hal _
  ·have hi':i=K.length:=om;subst hi';refine nq (QD.2 h) ?_;refine gg ?_;refine kK ?_;refine ZO (Xq (tm':=[(0,.sl 5 (K.map eBd) .any)]) (j:=200) (K.map eBd) rfl rfl sm (Ztv K) (hal _).mem (fun p hp=>?_) (fun p hp=>?_)) ?_
   ·simp only[Qm]at hp;subst hp;exact .inr ⟨5,rfl,rfl⟩
   ·simp[delb]at hp
   refine ge ?_;exact Zc (.refl _) (Zw n K) rfl
 rcases hq with⟨rfl,rfl,hKb⟩|⟨rfl,hpos,rfl⟩
 ·refine⟨[(200,.Zg 42 5 (flat (b.map eBd)) b.length)],H,rfl,.refl _ _,?_⟩;refine aS ?_;have e:b=K:=hKb.symm;refine ZO ?_ main;rw[←e]at hms hmb hal⊢;exact KK
 ·refine⟨[(200,.Zg 42 5 (flat (K.map eBd++List.replicate (b.length - K.length) zBd)) b.length)],H,(Zr n _ H 200 _).symm,.refl _ _,?_⟩;refine aS ?_;have hfk:(flat (K.map eBd++List.replicate (b.length - K.length) zBd)).take (K.length*5)=flat (K.map eBd):=by
   rw[YZ,Gv (Zi6 K)]
  have hKl:K.length≤b.length:=by rw[←hKK];exact UH _ _
  have ht:=Zgw (n:=n) (N:=Tryz.f44.ntmps) (m:=K.length) (tm':=[(0,.msl 5 n 200 K.length),(1,.iptr [.map l mk])]) (j:=200) (e:=42) (sz:=5) (i:=b.length) (H:=H)
   (L:=[(200,.Zg 42 5 (flat (K.map eBd++List.replicate (b.length - K.length) zBd)) b.length)])
   (tm:=[(0,.sub 5 n 200 b.length 0 K.length),(8,.sub 5 n 200 b.length 0 K.length),(7,.fn (.func 47) [.iptr [.map l mk]]),(6,.msl 5 n 200 b.length),(5,Zj b),(3,.sl 5 [] .full),(0,Zj b),(1,.iptr [.map l mk])]) hpos hKl rfl ?_ ?_ ?_
  ·rw[hfk]at ht;exact ZO ht main
  ·intro c hc;rw[YZ,Qk]at hc;rcases hc with hc|hc
   ·exact(hal _).mem c hc
   ·obtain⟨z,hz,hc⟩:=Qx.1 hc;rw[(Uk.1 hz).2]at hc;exact((ZmX (n:=n)).mem c hc).inside
  ·intro p hp;simp only[Ql,QA,or_false]at hp;rcases hp with rfl|rfl
   ·exact .inr ⟨5,5,rfl,rfl⟩
   ·exact .inl ⟨.refl _,hmi _⟩
  ·intro p hp;simp[delb]at hp
def Zgk{α:Type}(c:α→α→Int)(xs:List α)(a:Nat):∀m,(kpt c xs (a+m)).length≤(kpt c xs a).length+m
 |0=>Qg _
 |m+1=>by
  have:=Zgk c xs a m;rw[←Gn,kpt,Qh];split
  ·split<;>simp<;>omega
  ·simp;omega
def Zjh{α:Type}(c:α→α→Int)(xs:List α)(m:Nat)(h:m<xs.length)(h0:0<m)(e:c xs[m] xs[m - 1]=0):kpt c xs (m+1)=kpt c xs m:=by
 rw[kpt,dif_pos h,if_neg (by simp only[e];omega),Qs]
def Zpo{α:Type}(c:α→α→Int)(xs:List α)(m:Nat)(h:m<xs.length)(e:c xs[m] xs[m - 1]≠0):kpt c xs (m+1)=kpt c xs m++[xs[m]]:=by
 rw[kpt,dif_pos h,if_pos (.inr e)]
def Zm0(l:List Bnd):∀y∈l.map Zj,y.cells.length=1:=fun y hy=>by obtain⟨x,_,rfl⟩:=Qi.1 hy;rfl
def ZhR{n m:Nat}(l:List Bnd):Ze.Below n (.Zg 34 1 (flat (l.map Zj)) m):=⟨(XQ fun x hx=>by obtain⟨y,_,rfl⟩:=Qi.1 hx;exact Zw n y).mem,by simp[Ze.at_]⟩
def ZmY(l:List Bnd)(j:Nat)(h:j<l.length):((flat (l.map Zj)).drop (j*1)).getD 0 .dead=Zj l[j]:=by
 have:=Zi3 (Zm0 l) j (by simpa using h);rw[QN]at this;have h2:=congrArg (fun q:List AV=>q.getD 0 .dead) this;simp only[Qn]at h2⊢;rw[QZ om]at h2;exact h2
def Zql(l:List Bnd):(flat (l.map Zj)).length=l.length*1:=by rw[flat_length (Zm0 l),Qw]
def zBn:AV:=.sl 5 [] .full
def ZuT(l k:Nat)(xs:List Bnd)(H:Za)(r:AV)(H':Za):Prop:=
 (r= .msl 1 l k xs.length∧H'=H∧kpt YU xs xs.length=xs)∨
 (r= .sub 1 l k xs.length 0 (kpt YU xs xs.length).length∧0<xs.length∧(kpt YU xs xs.length).length≤xs.length∧H'=H.upd l k (.Zg 34 1 (flat ((kpt YU xs xs.length).map Zj++List.replicate (xs.length - (kpt YU xs xs.length).length) zBn)) xs.length))
def u52:Opt:=⟨false,false,fun d=>if d=31∨d=61 then .heap else .auto,[]⟩
def ZuG(l k:Nat)(xs:List Bnd)(H:Za)(j:Nat):Zb:=⟨[(5,.int .i64 j),(0,.msl 1 l k xs.length),(1,.fn (.func 53) [])],[],H⟩
def Znn(l k:Nat)(xs:List Bnd)(H:Za)(j m:Nat):Zb:=
 ⟨[(7,.int .i64 m),(6,.sub 1 l k xs.length j (xs.length - j)),(5,.int .i64 (kpt YU xs (j+m)).length),(0,.msl 1 l k xs.length),(1,.fn (.func 53) [])],[],H.upd l k (.Zg 34 1 (flat ((mix (kpt YU xs (j+m)) xs).map Zj)) xs.length)⟩
def k52(n:Nat)(H:Za)(l k:Nat)(hl:l<n)(xs:List Bnd)(hx:xs.length≤1000000)(hb:∀b∈xs,b.length≤1000000∧ ∀q∈b,q.2.Good)(hH:H l k=some (.Zg 34 1 (flat (xs.map Zj)) xs.length)):
  Zi prog n 52 [.msl 1 l k xs.length,.fn (.func 53) []] H (ZuT l k xs H):=by
 have hne:¬l=n:=om;have hmi:∀q,Inside n q (.msl 1 l k xs.length):=fun q=>.msl _ _ _ _ (.inl hl)
 have hms:∀q a b,Inside n q (.sub 1 l k xs.length a b):=fun q a b=>.sub _ _ _ _ _ _ (.inl hl)
 have heq:∀i j (h:i<xs.length) (h':j<xs.length),Pure prog 53 [Zj xs[i],Zj xs[j]] (.bool (YU xs[i] xs[j]==0)):=fun i j h h'=>
  k53 _ _ (hb _ (Qa h)).1 (hb _ (Qa h')).1 (hb _ (Qa h)).2 (hb _ (Qa h')).2
 refine aF func52 fun B=>?_
 refine gc ?_;by_cases h2:xs.length<2
 ·have h2':((xs.length:Int)<2):=om;refine nTq h2' ?_;refine ge ?_;refine Zn (.refl _) (.msl _ _ _ _ hl) (.inl ⟨rfl,rfl,?_⟩);rw[Za3 YU xs _ (Qg _) fun i h h' h0=>by omega,QI]
 have h2':¬((xs.length:Int)<2):=om;refine nFq h2' ?_;refine gh ?_;refine ZL (fun i=>ZuG l k xs H (1+i)) (fun i=>∀j (h:j<xs.length),j<1+i→0<j→YU xs[j] xs[j - 1]≠0) (xs.length - 1) rfl ?_ (fun j h h1 h0=>by omega) ?_
 ·exact KK
 intro i hi hq;obtain⟨j,hj⟩:∃j,j=1+i:=⟨_,rfl⟩
 rw[show 1+(i+1)=j+1 by omega,←hj];rw[←hj]at hq;have hj0:0<j:=om;refine ZQ rfl ?_;rcases Qe j xs.length with h|h
 ·have h1:=ZmY xs j h;have h3:=ZmY xs (j - 1) om;have hln:=Zql xs;have hw:IntKind.i64.wrap ((j:Int) - 1)=((j - 1:Nat):Int):=by rw[show(j:Int) - 1=((j - 1:Nat):Int) by omega];exact iw
  have hj1:j - 1<xs.length:=om;refine nq h ?_;refine nT ?_;refine nD drawO ?_;simp only[go_sem,simprocAttr,h,hne,hH,h1,h3,hw,hj1];refine⟨⟨om,om,om⟩,⟨om,om,om⟩,?_⟩;refine YE (avs:=[Zj xs[j],Zj xs[j - 1]]) rfl (Zf func53 rfl rfl) (heq j (j - 1) h hj1 _ _) rfl ?_;cases hc:(YU xs[j] xs[j - 1]==0)with
  |false=>
   have hc':YU xs[j] xs[j - 1]≠0:=by simpa using hc
   refine aq hc ?_;refine gm ?_;refine⟨om,fun j' h' hlt h0'=>?_,?_⟩
   ·rcases Qe j' j with h5|h5
    ·exact hq j' h' h5 h0'
    ·have:j'=j:=om;subst this;exact hc'
   ·apply kZ;repeat' first|apply q0|exact xx|apply aI
    ·refine aS ?_;rw[iw];exact .refl _
    all_goals exact hmi _
  |true=>
   have hc':YU xs[j] xs[j - 1]=0:=by simpa using hc
   have hkj:kpt YU xs j=xs.take j:=Za3 YU xs j om hq;have hkj1:kpt YU xs (j+1)=xs.take j:=by rw[Zjh YU xs j h hj0 hc',hkj]
   have htl:(xs.take j).length=j:=by rw[QM];omega
   simp only[go_sem,simprocAttr,hc];refine nT ?_;repeat refine kn rfl ?_
   refine YR tok u52 rfl rfl (by kernel_rfl) ?_;simp only[go_sem,simprocAttr,u52];refine Step.look (v:=.sub 1 l k xs.length j (xs.length - j)) (X3 (a:=j) (h:=(xs.length:Int)) tok rfl rfl rfl rfl rfl ((Zk hl _ _ _).trans hH) rfl rfl ?_ ?_ ?_ ?_ ?_) ?_
   ·omega
   ·omega
   ·omega
   ·omega
   ·rw[if_pos om];rfl
   refine aS ?_;refine gh ?_;refine Zm (fun m=>Znn l k xs H j (1+m)) (xs.length - j - 1) rfl ?_ ?_
   ·unfold Znn;rw[UF,hkj1,htl,show mix (xs.take j) xs=xs by unfold mix;rw[htl,Q7],Yd hH];exact KK
   intro m hm;obtain⟨r,hr⟩:∃r,r=1+m:=⟨_,rfl⟩
   rw[show 1+(m+1)=r+1 by omega,←hr];refine ZQ rfl ?_;have hkl:(kpt YU xs (j+r)).length≤j+r - 1:=by
    have:=Zgk YU xs (j+1) m;rw[hkj1,htl,show j+1+m=j+r by omega]at this;omega
   generalize hK:kpt YU xs (j+r)=K at hkl;have hup:H.upd l k (.Zg 34 1 (flat ((mix K xs).map Zj)) xs.length) l k=some (.Zg 34 1 (flat ((mix K xs).map Zj)) xs.length):=Za.upd_same _ _ _ _;rcases Qe (j+r) xs.length with h5|h5
   ·have hml:=ZfC (kept:=K) (xs:=xs) om;have g1:=ZmY (mix K xs) (j+r) om;rw[ZdI (j+r) om om h5]at g1;have g2:=ZmY (mix K xs) (j+r - 1) om;rw[ZdI (j+r - 1) om om om]at g2;have g3:=Zql (mix K xs);rw[hml]at g3;have hrl:r<xs.length - j:=om;have hr1:r - 1<xs.length - j:=om;have hwr:IntKind.i64.wrap ((r:Int) - 1)=((r - 1:Nat):Int):=by rw[show(r:Int) - 1=((r - 1:Nat):Int) by omega];exact iw
    have er:j+(r - 1)=j+r - 1:=om;refine nq hrl ?_;refine nT ?_;refine nD drawO ?_;simp only[go_sem,simprocAttr,hrl,hne,hup,g1,g2,hwr,hr1,er];refine⟨⟨om,om,om⟩,⟨om,om,om⟩,?_⟩;refine YE (avs:=[Zj xs[j+r],Zj xs[j+r - 1]]) rfl (Zf func53 rfl rfl) (heq (j+r) (j+r - 1) h5 om _ _) rfl ?_;cases hd:(YU xs[j+r] xs[j+r - 1]==0)with
    |true=>
     have hd':YU xs[j+r] xs[j+r - 1]=0:=by simpa using hd
     have hk2:kpt YU xs (j+(r+1))=K:=by rw[←Gn,Zjh YU xs (j+r) h5 om hd',hK]
     refine aq hd ?_;refine gm ?_;refine⟨om,?_⟩;unfold Znn;rw[hk2];apply kZ;repeat' first|apply q0|exact xx|apply aI
     ·refine aS ?_;rw[iw];exact .refl _
     all_goals first|exact hmi _|exact hms _ _ _
    |false=>
     have hd':YU xs[j+r] xs[j+r - 1]≠0:=by simpa using hd
     have hk2:kpt YU xs (j+(r+1))=K++[xs[j+r]]:=by rw[←Gn,Zpo YU xs (j+r) h5 hd',hK]
     have hKl:K.length<xs.length:=om;have hsp:=ZcV Zj (fun _=>rfl) (kept:=K) (xs:=xs) xs[j+r] hKl;simp only[go_sem,simprocAttr]at hsp;refine aq hd ?_;refine gH ?_;simp only[go_sem,simprocAttr,hrl,hne,hup,g1,hKl,hsp];refine⟨⟨om,om,om⟩,⟨om,om⟩,.inr (ZhR _),?_⟩;rw[Za.Zau];refine gc ?_;refine nN ?_;refine⟨om,?_⟩;unfold Znn;rw[hk2,Qh,GZ];apply kZ;repeat' first|apply q0|exact xx|apply aI
     ·refine aS ?_;rw[iw];exact .refl _
     ·refine aS ?_;rw[iw];exact .refl _
     all_goals first|exact hmi _|exact hms _ _ _
   ·have hre:j+r=xs.length:=om;have hKx:kpt YU xs xs.length=K:=by rw[←hre];exact hK
    have hrl:¬r<xs.length - j:=om;have hKl:K.length<xs.length:=om;refine nq hrl ?_;refine gg ?_;repeat refine kn rfl ?_
    refine YR tok u52 rfl rfl (by kernel_rfl) ?_;simp only[go_sem,simprocAttr,u52];have hHM:∀L G,(∀j,G l j=(H.upd l k (.Zg 34 1 (flat ((mix K xs).map Zj)) xs.length)) l j)→full n L G l k=some (.Zg 34 1 (flat ((mix K xs).map Zj)) xs.length):=fun L G h=>(Zk hl _ _ _).trans ((h k).trans (by simp[Za.upd]))
    refine Step.look (v:=.sub 1 l k xs.length K.length (xs.length - K.length)) (X3 (a:=K.length) (h:=(xs.length:Int)) tok rfl rfl rfl rfl rfl (hHM _ _ fun _=>rfl) rfl rfl ?_ ?_ ?_ ?_ ?_) ?_
    ·omega
    ·omega
    ·omega
    ·omega
    ·rw[if_pos om];rfl
    refine aS ?_;refine Step.turn (l:=l) (k:=k) (b:=.Zg 34 1 (flat (K.map Zj++List.replicate (xs.length - K.length) zBn)) xs.length) (Jq tok rfl rfl rfl rfl rfl rfl (hHM _ _ fun _=>rfl) ?_ rfl ?_ ?_) (.inr ?_) ?_
    ·decide
    ·omega
    ·exact ZbT Zj (fun _=>rfl) (z:=zBn) rfl om
    ·refine⟨(XQ fun x hx=>?_).mem,by simp[Ze.at_]⟩;rcases Qk.1 hx with hx|hx
     ·obtain⟨y,_,rfl⟩:=Qi.1 hx;exact Zw n y
     ·rw[(Uk.1 hx).2];exact YN (fun _ h=>by cases h) (fun _ _ e=>by cases e)
    simp only[go_sem,simprocAttr,hne,Za.Zau];refine nr ?_;simp only[go_sem,simprocAttr,hne,Za.upd_same];refine⟨⟨om,om⟩,?_⟩;refine nW ?_;exact Zn (v:=.sub 1 l k xs.length 0 K.length) (.refl _) (.sub _ _ _ _ _ _ hl) (.inr ⟨by rw[hKx],om,by rw[hKx];omega,by rw[hKx]⟩)
 ·have hj':j=xs.length:=om;subst hj';refine nq (QD.2 h) ?_;refine gt ?_;refine Zn (.refl _) (.msl _ _ _ _ hl) (.inl ⟨rfl,rfl,?_⟩);rw[Za3 YU xs _ (Qg _) fun i h h' h0=>hq i h om h0,QI]
def ZlQ(l:List Tm):∀y∈l.map Tm.enc,y.cells.length=4:=fun y hy=>by obtain⟨x,_,rfl⟩:=Qi.1 hy;rw[Tm.Xg];rfl
def Va{n m:Nat}(l:List Tm):Ze.Below n (.Zg 40 4 (flat (l.map Tm.enc)) m):=⟨(XQ fun x hx=>by obtain⟨y,_,rfl⟩:=Qi.1 hx;exact Tm.blw n y).mem,by simp[Ze.at_]⟩
def Zne(l:List Tm)(j:Nat)(h:j<l.length):((flat (l.map Tm.enc)).drop (j*4)).take 4=(l[j]).cs:=by
 have:=Zi3 (ZlQ l) j (by simpa using h);rw[QN,Tm.Xg]at this;exact this
def Zf4(l:List Tm):(flat (l.map Tm.enc)).length=l.length*4:=by rw[flat_length (ZlQ l),Qw]
def zTm:AV:=.agg [.int .u8 0,.int .i64 0,.str [],.sl 4 [] .full]
def Zsx(l k:Nat)(xs:List Tm)(H:Za)(r:AV)(H':Za):Prop:=
 (r= .msl 4 l k xs.length∧H'=H∧kpt cmpT xs xs.length=xs)∨
 (r= .sub 4 l k xs.length 0 (kpt cmpT xs xs.length).length∧0<xs.length∧(kpt cmpT xs xs.length).length≤xs.length∧H'=H.upd l k (.Zg 40 4 (flat ((kpt cmpT xs xs.length).map Tm.enc++List.replicate (xs.length - (kpt cmpT xs xs.length).length) zTm)) xs.length))
def u265:Opt:=⟨false,false,fun d=>if d=31∨d=61 then .heap else .auto,[]⟩
def ZtD(l k:Nat)(xs:List Tm)(H:Za)(j:Nat):Zb:=⟨[(5,.int .i64 j),(0,.msl 4 l k xs.length),(1,.fn (.func 16) [])],[],H⟩
def Zje(l k:Nat)(xs:List Tm)(H:Za)(j m:Nat):Zb:=
 ⟨[(7,.int .i64 m),(6,.sub 4 l k xs.length j (xs.length - j)),(5,.int .i64 (kpt cmpT xs (j+m)).length),(0,.msl 4 l k xs.length),(1,.fn (.func 16) [])],[],H.upd l k (.Zg 40 4 (flat ((mix (kpt cmpT xs (j+m)) xs).map Tm.enc)) xs.length)⟩
def Zvy(n:Nat)(H:Za)(l k:Nat)(hl:l<n)(xs:List Tm)(hx:xs.length≤1000000)(hb:∀t∈xs,t.Good)(hH:H l k=some (.Zg 40 4 (flat (xs.map Tm.enc)) xs.length)):
  Zi prog n 265 [.msl 4 l k xs.length,.fn (.func 16) []] H (Zsx l k xs H):=by
 have hne:¬l=n:=om;have hmi:∀q,Inside n q (.msl 4 l k xs.length):=fun q=>.msl _ _ _ _ (.inl hl)
 have hms:∀q a b,Inside n q (.sub 4 l k xs.length a b):=fun q a b=>.sub _ _ _ _ _ _ (.inl hl)
 have heq:∀i j (h:i<xs.length) (h':j<xs.length),Pure prog 16 [Tm.enc xs[i],Tm.enc xs[j]] (.bool (cmpT xs[i] xs[j]==0)):=fun i j h h'=>
  j16 _ _ (hb _ (Qa h)) (hb _ (Qa h'))
 refine aF func265 fun B=>?_
 refine gc ?_;by_cases h2:xs.length<2
 ·have h2':((xs.length:Int)<2):=om;refine nTq h2' ?_;refine ge ?_;refine Zn (.refl _) (.msl _ _ _ _ hl) (.inl ⟨rfl,rfl,?_⟩);rw[Za3 cmpT xs _ (Qg _) fun i h h' h0=>by omega,QI]
 have h2':¬((xs.length:Int)<2):=om;refine nFq h2' ?_;refine gh ?_;refine ZL (fun i=>ZtD l k xs H (1+i)) (fun i=>∀j (h:j<xs.length),j<1+i→0<j→cmpT xs[j] xs[j - 1]≠0) (xs.length - 1) rfl ?_ (fun j h h1 h0=>by omega) ?_
 ·exact KK
 intro i hi hq;obtain⟨j,hj⟩:∃j,j=1+i:=⟨_,rfl⟩
 rw[show 1+(i+1)=j+1 by omega,←hj];rw[←hj]at hq;have hj0:0<j:=om;refine ZQ rfl ?_;rcases Qe j xs.length with h|h
 ·have h1:=Zne xs j h;have h3:=Zne xs (j - 1) om;have hln:=Zf4 xs;have hw:IntKind.i64.wrap ((j:Int) - 1)=((j - 1:Nat):Int):=by rw[show(j:Int) - 1=((j - 1:Nat):Int) by omega];exact iw
  have hj1:j - 1<xs.length:=om;refine nq h ?_;refine nT ?_;refine nD drawO ?_;simp only[go_sem,simprocAttr,h,hne,hH,h1,h3,hw,hj1];refine⟨⟨om,om⟩,⟨om,om⟩,?_⟩;refine YE (avs:=[Tm.enc xs[j],Tm.enc xs[j - 1]]) rfl (Zf func16 rfl rfl) (heq j (j - 1) h hj1 _ _) rfl ?_;cases hc:(cmpT xs[j] xs[j - 1]==0)with
  |false=>
   have hc':cmpT xs[j] xs[j - 1]≠0:=by simpa using hc
   refine aq hc ?_;refine gm ?_;refine⟨om,fun j' h' hlt h0'=>?_,?_⟩
   ·rcases Qe j' j with h5|h5
    ·exact hq j' h' h5 h0'
    ·have:j'=j:=om;subst this;exact hc'
   ·apply kZ;repeat' first|apply q0|exact xx|apply aI
    ·refine aS ?_;rw[iw];exact .refl _
    all_goals exact hmi _
  |true=>
   have hc':cmpT xs[j] xs[j - 1]=0:=by simpa using hc
   have hkj:kpt cmpT xs j=xs.take j:=Za3 cmpT xs j om hq;have hkj1:kpt cmpT xs (j+1)=xs.take j:=by rw[Zjh cmpT xs j h hj0 hc',hkj]
   have htl:(xs.take j).length=j:=by rw[QM];omega
   simp only[go_sem,simprocAttr,hc];refine nT ?_;repeat refine kn rfl ?_
   refine YR tok u265 rfl rfl (by kernel_rfl) ?_;simp only[go_sem,simprocAttr,u265];refine Step.look (v:=.sub 4 l k xs.length j (xs.length - j)) (X3 (a:=j) (h:=(xs.length:Int)) tok rfl rfl rfl rfl rfl ((Zk hl _ _ _).trans hH) rfl rfl ?_ ?_ ?_ ?_ ?_) ?_
   ·omega
   ·omega
   ·omega
   ·omega
   ·rw[if_pos om];rfl
   refine aS ?_;refine gh ?_;refine Zm (fun m=>Zje l k xs H j (1+m)) (xs.length - j - 1) rfl ?_ ?_
   ·unfold Zje;rw[UF,hkj1,htl,show mix (xs.take j) xs=xs by unfold mix;rw[htl,Q7],Yd hH];exact KK
   intro m hm;obtain⟨r,hr⟩:∃r,r=1+m:=⟨_,rfl⟩
   rw[show 1+(m+1)=r+1 by omega,←hr];refine ZQ rfl ?_;have hkl:(kpt cmpT xs (j+r)).length≤j+r - 1:=by
    have:=Zgk cmpT xs (j+1) m;rw[hkj1,htl,show j+1+m=j+r by omega]at this;omega
   generalize hK:kpt cmpT xs (j+r)=K at hkl;have hup:H.upd l k (.Zg 40 4 (flat ((mix K xs).map Tm.enc)) xs.length) l k=some (.Zg 40 4 (flat ((mix K xs).map Tm.enc)) xs.length):=Za.upd_same _ _ _ _;rcases Qe (j+r) xs.length with h5|h5
   ·have hml:=ZfC (kept:=K) (xs:=xs) om;have g1:=Zne (mix K xs) (j+r) om;rw[ZdI (j+r) om om h5]at g1;have g2:=Zne (mix K xs) (j+r - 1) om;rw[ZdI (j+r - 1) om om om]at g2;have g3:=Zf4 (mix K xs);rw[hml]at g3;have hrl:r<xs.length - j:=om;have hr1:r - 1<xs.length - j:=om;have hwr:IntKind.i64.wrap ((r:Int) - 1)=((r - 1:Nat):Int):=by rw[show(r:Int) - 1=((r - 1:Nat):Int) by omega];exact iw
    have er:j+(r - 1)=j+r - 1:=om;refine nq hrl ?_;refine nT ?_;refine nD drawO ?_;simp only[go_sem,simprocAttr,hrl,hne,hup,g1,g2,hwr,hr1,er];refine⟨⟨om,om⟩,⟨om,om⟩,?_⟩;refine YE (avs:=[Tm.enc xs[j+r],Tm.enc xs[j+r - 1]]) rfl (Zf func16 rfl rfl) (heq (j+r) (j+r - 1) h5 om _ _) rfl ?_;cases hd:(cmpT xs[j+r] xs[j+r - 1]==0)with
    |true=>
     have hd':cmpT xs[j+r] xs[j+r - 1]=0:=by simpa using hd
     have hk2:kpt cmpT xs (j+(r+1))=K:=by rw[←Gn,Zjh cmpT xs (j+r) h5 om hd',hK]
     refine aq hd ?_;refine gm ?_;refine⟨om,?_⟩;unfold Zje;rw[hk2];apply kZ;repeat' first|apply q0|exact xx|apply aI
     ·refine aS ?_;rw[iw];exact .refl _
     all_goals first|exact hmi _|exact hms _ _ _
    |false=>
     have hd':cmpT xs[j+r] xs[j+r - 1]≠0:=by simpa using hd
     have hk2:kpt cmpT xs (j+(r+1))=K++[xs[j+r]]:=by rw[←Gn,Zpo cmpT xs (j+r) h5 hd',hK]
     have hKl:K.length<xs.length:=om;have hsp:=ZcV (k:=4) Tm.enc (fun x=>by rw[Tm.Xg];rfl) (kept:=K) (xs:=xs) xs[j+r] hKl;simp only[go_sem,simprocAttr]at hsp;refine aq hd ?_;refine gH ?_;simp only[go_sem,simprocAttr,hrl,hne,hup,g1,hKl,hsp];refine⟨⟨om,om⟩,⟨om,om⟩,.inr (Va _),?_⟩;rw[Za.Zau];refine gc ?_;refine nN ?_;refine⟨om,?_⟩;unfold Zje;rw[hk2,Qh,GZ];apply kZ;repeat' first|apply q0|exact xx|apply aI
     ·refine aS ?_;rw[iw];exact .refl _
     ·refine aS ?_;rw[iw];exact .refl _
     all_goals first|exact hmi _|exact hms _ _ _
   ·have hre:j+r=xs.length:=om;have hKx:kpt cmpT xs xs.length=K:=by rw[←hre];exact hK
    have hrl:¬r<xs.length - j:=om;have hKl:K.length<xs.length:=om;refine nq hrl ?_;refine gg ?_;repeat refine kn rfl ?_
    refine YR tok u265 rfl rfl (by kernel_rfl) ?_;simp only[go_sem,simprocAttr,u265];have hHM:∀L G,(∀j,G l j=(H.upd l k (.Zg 40 4 (flat ((mix K xs).map Tm.enc)) xs.length)) l j)→full n L G l k=some (.Zg 40 4 (flat ((mix K xs).map Tm.enc)) xs.length):=fun L G h=>(Zk hl _ _ _).trans ((h k).trans (by simp[Za.upd]))
    refine Step.look (v:=.sub 4 l k xs.length K.length (xs.length - K.length)) (X3 (a:=K.length) (h:=(xs.length:Int)) tok rfl rfl rfl rfl rfl (hHM _ _ fun _=>rfl) rfl rfl ?_ ?_ ?_ ?_ ?_) ?_
    ·omega
    ·omega
    ·omega
    ·omega
    ·rw[if_pos om];rfl
    refine aS ?_;refine Step.turn (l:=l) (k:=k) (b:=.Zg 40 4 (flat (K.map Tm.enc++List.replicate (xs.length - K.length) zTm)) xs.length) (Jq tok rfl rfl rfl rfl rfl rfl (hHM _ _ fun _=>rfl) ?_ rfl ?_ ?_) (.inr ?_) ?_
    ·decide
    ·omega
    ·exact ZbT (k:=4) Tm.enc (fun x=>by rw[Tm.Xg];rfl) (z:=zTm) rfl om
    ·refine⟨(XQ fun x hx=>?_).mem,by simp[Ze.at_]⟩;rcases Qk.1 hx with hx|hx
     ·obtain⟨y,_,rfl⟩:=Qi.1 hx;exact Tm.blw n y
     ·rw[(Uk.1 hx).2];exact Xf (Yg.mem (l:=[AV.int .u8 0,.int .i64 0,.str [],.sl 4 [] .full]) (p:=fun c=>Below n c) ⟨.int _ _,.int _ _,.str _,YN (fun _ h=>by cases h) (fun _ _ e=>by cases e),trivial⟩)
    simp only[go_sem,simprocAttr,hne,Za.Zau];refine nr ?_;simp only[go_sem,simprocAttr,hne,Za.upd_same];refine⟨⟨om,om⟩,?_⟩;refine nW ?_;exact Zn (v:=.sub 4 l k xs.length 0 K.length) (.refl _) (.sub _ _ _ _ _ _ hl) (.inr ⟨by rw[hKx],om,by rw[hKx];omega,by rw[hKx]⟩)
 ·have hj':j=xs.length:=om;subst hj';refine nq (QD.2 h) ?_;refine gt ?_;refine Zn (.refl _) (.msl _ _ _ _ hl) (.inl ⟨rfl,rfl,?_⟩);rw[Za3 cmpT xs _ (Qg _) fun i h h' h0=>hq i h om h0,QI]
end Go.Proofs.YtmdeagmbfhbbnaaGreatDoorR

namespace Go.Abs
def pivot(ops:List Oper)(p:Nat):Bool:=
 ancK ops [] fun ms=>(List.range ops.length).all fun i=>(!decide (i<p)||(ms.getD p 0).testBit i)&&(!decide (p<i)||(ms.getD i 0).testBit p)
def Zl7{ops:List Oper}{p:Nat}(h:pivot ops p=true):∀i,i<ops.length→ ∀D,Closed ops D→(i<p→D p→D i)∧(p<i→D i→D p):=by
 intro i hi D hD;simp only[pivot,ancK_eq,Qy,U9]at h;have:=h i hi;have key:=Zf2 hD ops [] rfl (fun i _ j hj=>by simp at hj);constructor
 ·intro h1 h2;refine key p h2 i ?_;simpa[h1,Nat.lt_asymm h1]using this
 ·intro h1 h2;refine key i h2 p ?_;simpa[h1,Nat.lt_asymm h1]using this
theorem ZpP{cx:Cx}{k:List Itm}{Q:Exit→Zb→Prop}{s:Zb}{c:Code}(t:Nat)(hT:TOK cx.P cx.T)(hm:cx.P.follows .mixedOrders=true)(op:Opt)(hop:op.dr=true){id:Nat}{ops:Array Oper}{pre post:List Oper}{o:Oper}{g:Operand}{args:Array Operand}{ts:Array TypeId}(hc:c= .region id ops true)(hl:ops.toList=pre++o::post)
  (hg:o.guard=none) (ho:o.op= .call {callee:=.value g,args:=args,argTypes:=ts})
  (h:YP cx op ops.toList [] (fun _ s'=>ZgI cx t o g args.toList ts.toList s' (fun _=>False) (Q (.panic (ch t)))) pre s)
  (hd:XH cx.N ops.toList=true:=by kernel_rfl) (hok:(WI ops.toList (ZcA op ops.toList)&&ZcN op ops.toList&&pivot ops.toList pre.length)=true:=by kernel_rfl):AKc cx (.code c::k) Q s:=fun E w a hs=>by
 subst hc;obtain⟨hok,hpiv⟩:=QaV.1 hok;obtain⟨hok,hlay⟩:=QaV.1 hok;obtain⟨tm',L',H',hr,hos,hF⟩:=Zal hT (kd:=ZcA op ops.toList) hop (fun i o hi=>by simp only[ZcA,hi]) pre 0 s (by simpa using hl) h;obtain⟨T,G,V,t0,g0,t1,g1,hc⟩:=(hr.mono (Zgz hlay)).course;refine wpIn_region_any hm ?_;have hu:unl (Array.replicate ops.size false)≤ops.size:=by
  unfold unl;exact Ue QbG sm
 have hL:∀i,(Array.replicate ops.size false).getD i false=false:=fun i=>by
  rw[QE];by_cases hi:i<ops.size<;>simp[hi]
 have hva:∀n t,va ops.toList (lkv (T 0)) V ((Array.replicate ops.size false).getD · false) n t=lkv (T 0) t:=by
  intro n t;induction n with
  |zero=>rfl
  |succ n ih=>rw[va,if_neg (fun c=>by rw[hL]at c;cases c.1),ih]
 have hhv:∀n,hv cx.n (ZcA op ops.toList) G ((Array.replicate ops.size false).getD · false) n=G 0:=by
  intro n;induction n with
  |zero=>rfl
  |succ n ih=>
   funext l s;rw[Zcu,if_neg (fun c=>by rw[hL]at c;cases c.1),ih]
 refine ZcL cx.φ.ro a.defers (m:=cx.n+1) (N:=cx.N) (post:=o::post) hl (WU hd) hc (ZcF hok) E {w with drawn:=w.drawn+1} (fun _ i hi=>Zl7 hpiv i (by simpa using hi)) ?_ (fun h=>by cases h) ops.size _ E {w with drawn:=w.drawn+1} a hu sm (fun i o _ hi=>by have:=hL i;simp only at hi;rw[this]at hi;cases hi) (hL _) hs.size rfl ?_ ?_ (.refl _ _ _)
 ·intro o' ho' E1 w1 a1 K h1 h2 h3 h4 h5;have:o'=o:=by
   have e:ops.toList[pre.length]? =some o:=by rw[hl];simp
   rw[U0,ho']at e;exact U7 e
  subst this;rw[t1]at h3;rw[g1]at h4;simp only[wpOpIn,ho'];rw[show Region.wanted o' (yielded ops a1.tmps)=true by simp[Region.wanted,hg]];simp only[if_true];obtain⟨Qc,Xc,hcall,hk,hX⟩:=hF;have has:∀E (a:Act),(∀x∈args,VR E (evT tm' x) (a.eval x))→VRs E (Yn cx.T (evT tm') args.toList ts.toList) (args.toList.map a.eval):=fun E a hx=>WB _ _ (fun x hx'=>hx x (by simpa using hx'))
  have hsem:Zjq cx.P t (cx.n+1) o' (evT tm') (full cx.n L' H') Qc Xc:=by
   rcases hcall with⟨f,fn,c,caps,e1,e2,e3⟩|⟨l,e1,e2⟩
   ·exact Zlh e2 ho e1 _ has e3
   ·exact ZhZ ho e1 _ has e2
  refine hsem E1 w1 a1 _ _ h4 (fun x _=>ZdS h3 x) ?_ ?_ cx.φ.ro
  ·rintro E' w' cv v H1 hq hcv hh hx';obtain⟨_,_,_,_,hff⟩:=hk _ _ hq;exact hff.elim
  ·rintro E' w' H1 hq hh hx';obtain⟨L2,H2,rfl,hos2,hF2⟩:=hX _ hq;exact⟨⟨tm',L2,H2⟩,E',Vm hF2 k,⟨h1,by rw[h2];exact(hs.defs.ext (Env.ZaY cx.n E w)).ext (h5.trans hx'),fun t=>(h3 t).mono h4.norm hx'.le,hh,Yq.WR (Yq.WR hs.out hos) hos2⟩,(Env.ZaY cx.n E w).trans ((h5.trans hx').mono (Ul _))⟩
 ·intro t;rw[hva,t0];exact hs.tmps t
 ·rw[hhv,g0];exact hs.heap.drew
def Zmr{P:Program}{T:TT}{o:Oper}{ρ:Operand→AV}{m:Nat}{H:Za}{t:TypeId}{x:Operand}{kt e:TypeId}{re:Zu}{l j:Nat}{es:List (AV×AV)}(hT:TOK P T)(ho:o.op= .call {callee:=.builtin .len,args:=#[x],argTypes:=#[t]})
  (h1:mapOf T t=some (kt,e,re)) (hx:ρ x= .map l j) (hH:H l j=some (.map es)):Yv P m o ρ H (.int .i64 es.length) H:=fun E w a hr hops=>by
 have hxv:=hops x sC;rw[hx]at hxv;obtain⟨hu,hre⟩:=VF hT h1;generalize hp:a.eval x=p at hxv;cases hxv with|map _ _ b hm=>
 obtain⟨b',hm',ent,hc,hs,hv⟩:=hr.map l j es (hr.norm.Zaw hm) hH;rw[hm]at hm';cases hm';have hg:(getObj b).run P w= .ok (.map ent es.length) w:=by simp[getObj,Sem.run,hc]
 refine⟨.int .i64 es.length,E,w,.inl ?_,.int _ _,hr,.refl m E w⟩;simp[execOp,ho,hp,resolve,invoke,builtin,Builtin.len_,run_underlying hu,hg,hs,goInt]
def seqs:List Code→Code→Code
 |[],d=>d
 |c::r,d=>.seq c (seqs r d)
def Zg4{P:Program}{φ:Fm}{n N:Nat}{Q:Exit→Zb→Prop}{s:Zb}:∀{r:List Code} {e:Exit},e≠ .normal→AX P φ n N Q (r.map .code) e s→Q e s
 |[],_,_,h=>h
 |c::r,e,he,h=>by
  cases e with
  |normal=>exact absurd rfl he
  |_=>exact Zg4 (r:=r) sm h
section
variable {P:Program} {φ:Fm} {f0:FuncId} {n N:Nat} {Q:Exit→Zb→Prop} {s:Zb} {k:List Itm}
def Zbh.block{id:Nat}{c:Code}(h:Zbh P φ f0 n N c (fun e s'=>match e with| .exit id'=>if id'=id then Q .normal s' else Q (.exit id') s'|e=>Q e s') s):Zbh P φ f0 n N (.block id c) Q s:=fun E w a hs b k cs h1 h2=>by
 have h0:(lone (b.atR a (.code (.block id c)::k)) cs w).fenced P (fr φ.ro):=calm rfl;obtain⟨e,a1,w1,⟨s1,E1,hq,hs1,hx1⟩,harr⟩:=h E w a hs b (.inBlock id::k) cs h1 h2;cases e with
 |normal=>exact⟨.normal,a1,w1,⟨s1,E1,hq,hs1,hx1⟩,.head h0 stepR_block (StepsIn.trans harr (.one (calm rfl) stepR_inBlock))⟩
 |exit id'=>
  by_cases hid:id'=id
  ·simp only[hid,if_true]at hq;exact⟨.normal,a1,w1,⟨s1,E1,hq,hs1,hx1⟩,.head h0 stepR_block (harr.1 k (by simp[exitTo,hid]))⟩
  ·simp only[hid,if_false]at hq;have this:(id==id')=false:=by simp;exact fun h=>hid h.symm
   have hx:exitTo id' (.inBlock id::k)=exitTo id' k:=by simp[exitTo,this]
   exact⟨.exit id',a1,w1,⟨s1,E1,hq,hs1,hx1⟩,fun k' hk=>.head h0 stepR_block (harr.1 k' (by rw[hx];exact hk)),
    fun hr' hk=>let⟨k₁,h1,h2⟩:=harr.2 hr' (by rw[hx];exact hk);⟨k₁,h1,.head h0 stepR_block h2⟩⟩
 |goto l=>
  have hx:gotoIn l (.inBlock id::k)=gotoIn l k:=by simp[gotoIn]
  exact⟨_,a1,w1,⟨s1,E1,hq,hs1,hx1⟩,fun k' hk=>.head h0 stepR_block (harr.1 k' (by rw[hx];exact hk)),
   fun hr' hk=>let⟨k₁,h1,h2⟩:=harr.2 hr' (by rw[hx];exact hk);⟨k₁,h1,.head h0 stepR_block h2⟩⟩
 |ret=>exact⟨_,a1,w1,⟨s1,E1,hq,hs1,hx1⟩,.of_steps (.one h0 stepR_block) harr⟩
 |panic ch=>exact⟨_,a1,w1,⟨s1,E1,hq,hs1,hx1⟩,.of_steps (.one h0 stepR_block) harr⟩
 |outgrown=>exact⟨_,a1,w1,⟨s1,E1,hq,hs1,hx1⟩,.of_steps (.one h0 stepR_block) harr⟩
def Zgp{id:Nat}{c:Code}(hc:c= .block id c.fst)(h:Zbx P φ f0 n N (.code c.fst:: .blk id::k) Q s):Zbx P φ f0 n N (.code c::k) Q s:=by
 rw[hc];refine Zbh.block ?_;exact Zbh.mono h fun e s' hq=>by cases e<;>exact hq
def ZeO{c:Code}{s':Zb}(hw:AWk n N s s')(h:Zbx P φ f0 n N (.code c::k) Q s'):Zbx P φ f0 n N (.code c::k) Q s:=fun E w a hs b k0 cs h1 h2=>by
 obtain⟨E1,hs1,hx1⟩:=hw _ E w a hs;obtain⟨e,a',w',⟨s2,E2,hq,hs2,hx2⟩,harr⟩:=h E1 w a hs1 b k0 cs h1 h2;exact⟨e,a',w',⟨s2,E2,hq,hs2,hx1.trans hx2⟩,harr⟩
def Zkx{id:Nat}(h:Zbx P φ f0 n N k Q s):Zbx P φ f0 n N (.blk id::k) Q s:=h
def Zh2(T:TT){c d:Code}(l:List Code)(hc:c=seqs l d)(h:AKc ⟨P,T,φ,n,N⟩ (l.map .code) (fun e s'=>match e with| .normal=>Zbx P φ f0 n N (.code d::k) Q s'|e=>Zgj P φ f0 n N Q k e s') s):Zbx P φ f0 n N (.code c::k) Q s:=by
 subst hc;induction l generalizing s with
 |nil=>exact h
 |cons c r ih=>
  show Zbh P φ f0 n N (.seq c (seqs r d)) (Zgj P φ f0 n N Q k) s;refine Zbh.seq (Zbh.mono (Zny h) ?_);intro e s' hq;cases e with
  |normal=>exact ih hq
  |_=>
   have:=Zg4 (r:=r) sm hq;exact this
end
end Go.Abs

namespace Go.Proofs.YtmdeagmbfhbbnaaGreatDoorR
open Go.Abs
def Zuv(t:Tm)(n:Nat)(H:Za)(i:Nat):Zb:=
 ⟨[(11,.int .i64 i),(10,.int .i64 t.args.length),(9,.sl 4 (t.args.map Tm.enc) .any),(1,.ptr n 1 0),(2,.ptr n 2 0)],
  [(200,.buf 40 4 i),(1,.box [.int .u8 t.kind,.int .i64 t.num,.str t.name,.sl 4 ((t.args.take i).map Tm.enc) (.buf n 200)]),(2,.box [.int .u8 0,.int .i64 0,.str [],.sl 4 [] .full])],H⟩
def o155:Opt:=⟨true,true,fun d=>if d=20 then .own 200 else .auto,[200]⟩
def Zs0(t:Tm)(ht:t.Good):Pure prog 155 [t.enc] t.enc:=by
 intro n H;have ih:∀u∈t.args,Pure prog 155 [u.enc] u.enc:=fun u hu=>Zs0 u (ht.arg hu)
 have hl:=ht.len;have ho:∀(q:Nat→Prop) (r:List Tm),q 200→Inside n q (.sl 4 (r.map Tm.enc) (.buf n 200)):=fun q r h=>Abs.Yj (mB fun u=>Tm.blw n u) h
 refine aF func155 fun B=>?_
 refine gc ?_;refine gk ?_;refine J3 1 200 3 40 4 rfl rfl rfl ?_;simp only[go_sem,simprocAttr,U4,UO];refine Zm (Zuv t n H) t.args.length rfl ?_ ?_
 ·exact KK
 intro i hi;refine ZQ rfl ?_;rcases Qe i t.args.length with h|h
 ·have hm:(t.args.take i).map Tm.enc++[(t.args[i]).enc]=(t.args.take (i+1)).map Tm.enc:=by rw[Qj h,QC];rfl
  have hmin:(t.args.take i).length=i:=Uo hi;refine nr ?_;refine aq h ?_;refine nT ?_;refine nq2 (Tm.Zh _ _ h) h ?_;refine nD o155 ?_;simp only[go_sem,simprocAttr,o155];refine⟨rfl,rfl,?_⟩;refine Zep (Zf func155 rfl rfl) (ih _ (Qa h)) sS ?_;simp only[go_sem,simprocAttr,o155,hmin];refine⟨rfl,⟨Zl om,om⟩,?_⟩;rw[hm];refine gd ?_;exact KK
 ·have hi':i=t.args.length:=om;subst hi';refine nq (QD.2 h) ?_;refine gg ?_;refine gE ?_;refine Z9 (.inl rfl) _ n 2 0 [.int .u8 t.kind,.int .i64 t.num,.str t.name,.sl 4 (t.args.map Tm.enc) (.buf n 200)] sS sF rfl (Qg _) sS ?_ (Tm.blw _ t) rfl;refine aS ?_;rw[Tm.VJ];exact .deep (.ZcZ ⟨.refl _,.refl _,.refl _,.any _ _ _,trivial⟩)
termination_by SizeOf.sizeOf t
decreasing_by exact Tm.Y2 hu
def opM:Opt:=⟨false,false,fun x=>if x=7 then .call else .auto,[]⟩
def Zup(n:Nat)(H:Za)(q j N:Nat)(hq:q<n)(ys:List Tm)(hN:ys.length=N+1)(hl:N+1≤1000000)(hH:H q j=some (.Zg 40 4 (flat (ys.map Tm.enc)) (N+1))):PC prog n 240 [.msl 4 q j (N+1)] H (.sl 4 (ys.map Tm.enc) .any):=by
 have hne:¬q=n:=om;refine aF func240 fun B=>?_
 refine gc ?_;refine⟨⟨_,rfl⟩,?_⟩;refine nF ?_;repeat refine kn rfl ?_
 refine YR tok opM rfl rfl (by kernel_rfl) ?_;simp only[go_sem,simprocAttr,opM];refine⟨rfl,?_⟩;refine Step.same (v:=.sl 4 (ys.map Tm.enc) .any) ?_ ?_
 ·refine Zhp (ys:=ys.map Tm.enc) (n:=N+1) (q:=q) (j:=j) tok rfl rfl rfl rfl rfl dc rfl rfl ((Zk hq _ _ _).trans hH) (ZlQ ys) (by simp[hN]) om (Zl om) ?_;show(N+1)*56≤_;omega
 refine gw ?_;exact Zc (.refl _) (ZH _) rfl
/-! The number of combinations. -/
def cntF(n:Nat)(p:List Tm):Option Nat:=if 1000<n*p.length then none else some (n*p.length)
theorem Znr(ps:List (List Tm)):Zkr ps=ps.foldlM cntF 1:=rfl
def rows_len:∀ps:List (List Tm),∀a m,ps.foldlM cntF a=some m→a*(Z7 ps).length=m
 |[],a,m,h=>by simp at h;simp[Z7,h]
 |p::r,a,m,h=>by
  rw[MQ]at h;unfold cntF at h;split at h
  ·cases h
  ·have:=rows_len r (a*p.length) m h;have e:(Z7 (p::r)).length=p.length*(Z7 r).length:=by
    rw[Z7,List.length_flatMap];simp[List.map_const']
   rw[e,←Nat.mul_assoc];exact this
def Zia{α β:Type}(g:α→β):∀(l:List α) (a:List β),l.foldlM (fun o r=>(some (o++[g r]):Option (List β))) a=some (a++l.map g)
 |[],a=>by simp
 |x::l,a=>by
  rw[MQ];show l.foldlM _ (a++[g x])=_;rw[Zia g l];simp
def ZeR{n:Nat}{p:Nat→Prop}(l:List Tm):Yg (fun c=>Inside n p c) (flat (l.map Tm.enc)):=Yb fun c hc=>((Va (n:=n) (m:=0) l).1 c hc).inside
def Zdn{S:List Str}:∀{f c k:Nat},(∀j,j<k→newV (c+j)∈S)→newV (c+k)∉S→k≤f→Zbp S f c=c+k
 |0,c,k,_,_,hk=>by
  have:k=0:=om;subst this;rfl
 |f+1,c,0,_,h,_=>by rw[UF]at h;rw[Zbp,if_neg h];rfl
 |f+1,c,k+1,h1,h2,hk=>by
  have h0:=h1 0 om;rw[UF]at h0;rw[Zbp,if_pos h0];have:=Zdn (S:=S) (f:=f) (c:=c+1) (k:=k) (fun j hj=>by have:=h1 (j+1) om;rwa [show c+(j+1)=c+1+j by omega]at this) (by rwa [show c+(k+1)=c+1+k by omega]at h2) om;rw[this];omega
section
variable {k:Nat}
def Zck{S:List Str}{c:Nat}(h:∀j,j<k→newV (c+j)∈S):k≤S.length:=by
 have h2:((List.range k).map fun i=>newV (c+i)).length≤S.length:=by
  refine Xd ?_ fun x hx=>?_
  ·refine List.Pairwise.map _ (fun a b hab e=>?_) Qac;have:=ZdY e;omega
  ·obtain⟨i,hi,rfl⟩:=Qi.1 hx;exact h i (U9.1 hi)
 rwa [Qw,Gp]at h2
def Jl(d:Nat×Tm):AV:=.agg [.int .u8 2,.bool false,.str [],.sl 4 [] .full,.int .u8 1,.int .u8 3,.int .i64 0,.str (newV d.1),.sl 4 [] .full,.int .u8 d.2.kind,.int .i64 d.2.num,.str d.2.name,.sl 4 (d.2.args.map Tm.enc) .any]
structure FZs where
 n:Nat
 ds:List (Nat×Tm)
def fsH(H:Za)(l b m q:Nat)(s:FZs):Za:=(H.upd l q (.Zg 54 13 (flat (s.ds.map Jl)) s.ds.length)).upd l b (.box [.map l m,.int .i64 s.n,.msl 13 l q s.ds.length])
variable {l:Nat}
def Zoc(H:Za){l' k':Nat}(h:¬(l=l'∧k=k'))(x y:Ze):(H.upd l k x).upd l' k' y=(H.upd l' k' y).upd l k x:=by
 funext i j;simp only[Za.upd];by_cases h1:i=l'∧j=k'<;>by_cases h2:i=l∧j=k
 ·exact absurd ⟨h2.1.symm.trans h1.1,h2.2.symm.trans h1.2⟩ h
 ·rw[if_pos h1,if_neg h2,if_pos h1]
 ·rw[if_neg h1,if_pos h2,if_pos h2]
 ·rw[if_neg h1,if_neg h2,if_neg h2,if_neg h1]
section
variable {H:Za} {l b m q:Nat} {s:FZs}
def fsH_box:fsH H l b m q s l b=some (.box [.map l m,.int .i64 s.n,.msl 13 l q s.ds.length]):=Za.upd_same _ _ _ _
def Znv(h:b≠q):fsH H l b m q s l q=some (.Zg 54 13 (flat (s.ds.map Jl)) s.ds.length):=by
 unfold fsH;rw[Za.upd_ne _ _ om,Za.upd_same]
def ZlZ{l' k':Nat}(h1:¬(l'=l∧k'=b))(h2:¬(l'=l∧k'=q)):fsH H l b m q s l' k'=H l' k':=by
 unfold fsH;rw[Za.upd_ne _ _ h1,Za.upd_ne _ _ h2]
def Zru(h:b≠q)(s':FZs):((fsH H l b m q s).upd l q (.Zg 54 13 (flat (s'.ds.map Jl)) s'.ds.length)).upd l b (.box [.map l m,.int .i64 s'.n,.msl 13 l q s'.ds.length])=fsH H l b m q s':=by
 unfold fsH;rw[Zoc (H.upd l q (.Zg 54 13 (flat (s.ds.map Jl)) s.ds.length)) (l:=l) (k:=b) (l':=l) (k':=q) om,Za.Zau,Za.Zau]
def Zln(n':Nat):(fsH H l b m q s).upd l b (.box [.map l m,.int .i64 n',.msl 13 l q s.ds.length])=fsH H l b m q ⟨n',s.ds⟩:=by
 unfold fsH;rw[Za.Zau]
def Zd4{n:Nat}(h:l≠n)(L:List (Nat×Ze)):full n L (fsH H l b m q s)=fsH (full n L H) l b m q s:=by
 unfold fsH;rw[Yi _ _ _ _ _ _ h,Yi _ _ _ _ _ _ h]
end
variable {n:Nat}
def ZaU{P:Program}{T:TT}{t ty:Nat}{v:AV}{s:Zb}{Q:AV→Za→Prop}(r:Zu)(l k off:Nat)(cs:List AV)(h1:lkv s.tmps t= .ptr l k off)(h2:full n s.L s.H l k=some (.box cs))(h3:T ty=some r)
  (h4:off+r.size≤cs.length) (h5:r.isAgg=false→off<cs.length) (hv:Wk (if r.isAgg then .agg ((cs.drop off).take r.size)else(cs.drop off).getD 0 .dead) v) (hb:Below n v) (hQ:Q v s.H):
  PostF P T n [.cell t ty] Q .ret s:=by
 refine⟨by simp only[Qm,forall_eq,X8];exact⟨l,k,off,cs,r,h1,h2,h3,h4,h5⟩,[v],⟨?_,trivial⟩,by simpa using hb,hQ⟩;simp only[Zdi,h1,h2,h3];rw[if_pos ⟨h4,h5⟩];exact hv
def Zf1(n:Nat)(d:Nat×Tm):Below n (Jl d):=Xf (by
 intro c hc;simp only[Ql,QA,or_false]at hc;rcases hc with rfl|rfl|rfl|rfl|rfl|rfl|rfl|rfl|rfl|rfl|rfl|rfl|rfl
 all_goals first|exact .int _ _|exact .bool _|exact .str _|exact ZH _|exact YN (fun _ h=>by cases h) (fun _ _ e=>by cases e))
def ZeA{e:Nat}(ds:List (Nat×Tm)):Ze.Below n (.Zg e 13 (flat (ds.map Jl)) k):=⟨fun a ha=>by
 simp only[Ze.avs,flat,Qx,Qi]at ha;obtain⟨_,⟨d,_,rfl⟩,ha⟩:=ha;have:=Zf1 n d;exact this.cells _ ha,by simp[Ze.at_]⟩
def ZiY{H:Za}{b m q:Nat}{s s':FZs}(h:l<n)(hbq:b≠q):ZM n (fsH H l b m q s) (fsH H l b m q s'):=fun l' k' x hl hx=>by
 by_cases h1:l'=l∧k'=b
 ·obtain⟨rfl,rfl⟩:=h1;rw[fsH_box]at hx;cases hx;exact .inr (Ze.ZC ⟨.map _ _ h,.int _ _,.msl _ _ _ _ h,trivial⟩)
 ·by_cases h2:l'=l∧k'=q
  ·obtain⟨rfl,rfl⟩:=h2;rw[Znv hbq]at hx;cases hx;exact .inr (ZeA _)
  ·rw[ZlZ h1 h2]at hx⊢;exact .inl hx
def ZvZ(l:List Tm)(f:Nat)(bs:List AV)(ys:List Tm)(n:Nat)(S:Nat→Za)(i:Nat):Zb:=
 ⟨[(10,.int .i64 i),(9,.int .i64 l.length),(8,.sl 4 (l.map Tm.enc) .any),(5,.sl 4 ((ys.take i).map Tm.enc) (.buf n 200)),(1,.bfn (.func f) bs)],[(200,.buf 40 4 i)],S i⟩
def ZtJ(n:Nat)(l:List Tm)(hl:l.length≤1000000)(f:Nat)(bs:List AV)(fn:Func)(c:Code)(hf:Fun prog f fn c)(ys:List Tm)(hy:ys.length=l.length)(S:Nat→Za)
  (hbl:Below n (.bfn (.func f) bs)) (hc:∀i (h:i<l.length) L,Zi prog (n+1) f (bs++[l[i].enc]) (full n L (S i)) fun r H1=>r=(ys[i]'om).enc∧H1=full n L (S (i+1))) (hout:∀i,i<l.length→ZM n (S i) (S (i+1))):
  Zi prog n 70 [.sl 4 (l.map Tm.enc) .any,.bfn (.func f) bs] (S 0) fun r H'=>r= .sl 4 (ys.map Tm.enc) .any∧H'=S l.length:=by
 have hfi:∀q,Inside n q (.bfn (.func f) bs):=fun q=>hbl.inside
 have hxi:∀q,Inside n q (.sl 4 (l.map Tm.enc) .any):=fun q=>(ZH _).inside
 refine aF func70 fun B=>?_
 refine gz ?_;refine Xn 5 200 40 4 rfl rfl ?_;refine Zm (ZvZ l f bs ys n S) l.length rfl ?_ ?_
 ·exact KK
 intro i hi;refine ZQ rfl ?_;rcases Qe i l.length with h|h
 ·have hmin:(ys.take i).length=i:=Uo om;refine nq h ?_;refine nT ?_;refine nq2 (Tm.Zh _ _ h) h ?_;refine nR ?_;refine Ztg (bs:=bs) (avs:=[l[i].enc]) rfl hf (hc i h _) sS ?_;rintro r H1 ⟨rfl,rfl⟩;refine⟨_,S (i+1),rfl,hout i h,?_⟩;refine aq hmin ?_;refine⟨by first|exact⟨rfl,dc⟩|exact rfl,⟨Zl om,om⟩,?_⟩;refine gd ?_;apply kZ;repeat' first|apply q0|exact xx|apply aI
  ·refine aS ?_;rw[iw];exact .refl _
  ·simp only[go_sem,simprocAttr,Qj (show i<ys.length by omega),QC];exact .refl _
  all_goals first|exact hfi _|exact hxi _|exact Tm.Yj rfl
 ·refine nq (QD.2 h) ?_;refine gg ?_;have hi':i=l.length:=om;subst hi';have ht:ys.take l.length=ys:=Q9 om;refine nq ht ?_;refine nV ?_;refine Zn ?_ (ZH _) ⟨rfl,rfl⟩;refine aS ?_;exact .any _ _ _
def ZbA(S:List Str):∀(p q:List Tm) (c:Nat),flT.flTs S (p++q) c=((flT.flTs S p c).1++(flT.flTs S q (flT.flTs S p c).2.1).1,(flT.flTs S q (flT.flTs S p c).2.1).2.1,(flT.flTs S p c).2.2++(flT.flTs S q (flT.flTs S p c).2.1).2.2)
 |[],q,c=>by simp[flT.flTs]
 |t::p,q,c=>by
  have:=ZbA S p q (flT S t c).2.1;simp only[Q8,flT.flTs,this,Uc]
def ZhB(S:List Str)(l:List Tm)(c i:Nat)(h:i<l.length):flT.flTs S (l.take (i+1)) c=((flT.flTs S (l.take i) c).1++[(flT S l[i] (flT.flTs S (l.take i) c).2.1).1],(flT S l[i] (flT.flTs S (l.take i) c).2.1).2.1,(flT.flTs S (l.take i) c).2.2++(flT S l[i] (flT.flTs S (l.take i) c).2.1).2.2):=by
 rw[Qj h,ZbA];simp[flT.flTs]
def ZmR(S:List Str)(l:List Tm)(c i:Nat)(h:i<l.length)(h':i<(flT.flTs S l c).1.length):(flT.flTs S l c).1[i]=(flT S l[i] (flT.flTs S (l.take i) c).2.1).1:=by
 have h1:flT.flTs S l c=flT.flTs S (l.take (i+1)++l.drop (i+1)) c:=by rw[Q7]
 have h2:=ZbA S (l.take (i+1)) (l.drop (i+1)) c;have h3:=ZhB S l c i h;have hlen:(flT.flTs S (l.take i) c).1.length=i:=by rw[Zaq,QM];omega
 have h4:(flT.flTs S l c).1=(flT.flTs S (l.take i) c).1++[(flT S l[i] (flT.flTs S (l.take i) c).2.1).1]++(flT.flTs S (l.drop (i+1)) (flT.flTs S (l.take (i+1)) c).2.1).1:=by
  rw[h1,h2,h3]
 simp only[h4];rw[MV (by simp[hlen]),Qbf om];simp
def Zla(S:List Str):∀f n,Zbp S f n≤n+f
 |0,n=>Qg _
 |f+1,n=>by
  have:=Zla S f (n+1);unfold Zbp;split<;>omega
def Zdc(S:List Str):(∀t c,(flT S t c).2.1≤c+t.sz*(S.length+2)∧(flT S t c).2.2.length≤t.sz)∧ ∀l c,(flT.flTs S l c).2.1≤c+Tm.sz.szs l*(S.length+2)∧(flT.flTs S l c).2.2.length≤Tm.sz.szs l:=by
 refine XL (fun k n s l ih c=>?_) (fun c=>by simp[flT.flTs,Tm.sz.szs]) fun t r h1 h2 c=>?_
 ·have hz:=(Tm.mk k n s l).Zc7;by_cases hk:k=5∨k=6
  ·rw[Ve hk];have:=Zla S (S.length+1) (c+1);have h3:1*(S.length+2)≤(Tm.mk k n s l).sz*(S.length+2):=QF _ hz;refine⟨?_,by simpa using hz⟩;show Zbp S (S.length+1) (c+1)≤_;omega
  ·rw[Vf hk];have:=ih c;simp only[Tm.sz,Ui];exact⟨by have:=this.1;omega,by have:=this.2;omega⟩
 ·have a1:=h1 c;have a2:=h2 (flT S t c).2.1;simp only[flT.flTs,Tm.sz.szs,Qh,Ui];omega
def Zii(S:List Str)(l:List Tm)(c i:Nat):(flT.flTs S (l.take i) c).2.1≤c+Tm.sz.szs (l.take i)*(S.length+2)∧(flT.flTs S (l.take i) c).2.2.length≤Tm.sz.szs (l.take i):=(Zdc S).2 _ _
def ZnQ(t:Tm)(n l b m q c k:Nat)(ds:List (Nat×Tm))(H:Za):Zb:=
 ⟨[(4,.ptr n 4 0),(3,.ptr n 3 0),(0,.ptr l b 0)],[(3,.box t.cs),(4,.box [.int .u8 0,.int .i64 0,.str [],.sl 4 [] .full])],fsH H l b m q ⟨c+1+k,ds⟩⟩
def flO:Opt:=⟨true,false,fun d=>if d=64 then .heap else .auto,[]⟩
def Zaa(S:List Str)(l:List Tm)(s:FZs)(i:Nat):FZs:=⟨(flT.flTs S (l.take i) s.n).2.1,s.ds++(flT.flTs S (l.take i) s.n).2.2⟩
def fsT(S:List Str)(t:Tm)(s:FZs):FZs:=⟨(flT S t s.n).2.1,s.ds++(flT S t s.n).2.2⟩
def ZhN(S:List Str)(l:List Tm)(s:FZs):Zaa S l s 0=s:=by simp[Zaa,flT.flTs]
def ZhY(S:List Str)(l:List Tm)(s:FZs)(i:Nat)(h:i<l.length):Zaa S l s (i+1)=fsT S l[i] (Zaa S l s i):=by
 unfold Zaa fsT;rw[ZhB S l s.n i h];simp
structure ZmW (S:List Str) (s:FZs) (k:Nat):Prop where
 sl:S.length≤100000
 n:s.n+k*(S.length+2)≤1000000000
 d:s.ds.length+k≤900000
def Tabs.fs{H:Za}{b m q:Nat}{s:FZs}(h:Tabs H)(hl:0<l):Tabs (fsH H l b m q s):=h.up fun k=>ZlZ om om
def Zwx(S:List Str)(t:Tm)(ht:t.Good)(n:Nat)(H:Za)(l b m q:Nat)(s:FZs)(hl:l<n)(hl0:0<l)(hbq:b≠q)(hbm:b≠m)(hmq:m≠q)(hmap:H l m=some (.map (encS S)))(hn:0<n)(hT:Tabs H)(hr:ZmW S s t.sz)
  (hc:∀u∈t.args,∀(n':Nat) (H':Za) (s':FZs),l<n'→H' l m=some (.map (encS S))→Tabs H'→ZmW S s' u.sz→Zi prog n' 71 [.ptr l b 0,u.enc] (fsH H' l b m q s') fun r H1=>r=(flT S u s'.n).1.enc∧H1=fsH H' l b m q (fsT S u s')):
  Zi prog n 71 [.ptr l b 0,t.enc] (fsH H l b m q s) fun r H1=>r=(flT S t s.n).1.enc∧H1=fsH H l b m q (fsT S t s):=by
 have hne:¬l=n:=om;have hbox:fsH H l b m q s l b=some (.box [.map l m,.int .i64 s.n,.msl 13 l q s.ds.length]):=fsH_box;refine aF func71 fun B=>?_
 refine nR ?_;have hsz:=t.Zc7;by_cases hk:t.kind=5∨t.kind=6
 ·have hroom:s.n+(S.length+2)≤1000000000:=by
   have h1:=hr.n;have h2:1*(S.length+2)≤t.sz*(S.length+2):=QF _ hsz;omega
  have hds:s.ds.length+1≤900000:=by have:=hr.d;omega
  have hfl:flT S t s.n=(.mk 3 0 (newV (XG S s.n)) [],XG S s.n,[(XG S s.n,t)]):=by
   cases t;exact Ve hk
  have hfs:fsT S t s=⟨XG S s.n,s.ds++[(XG S s.n,t)]⟩:=by unfold fsT;rw[hfl]
  rw[hfs,hfl];have hwn:IntKind.i64.wrap ((s.n:Int)+1)=((s.n+1:Nat):Int):=by rw[iw];omega
  have hcut:AKc ⟨prog,tt,⟨none,B⟩,n,Tryz.f71.ntmps⟩ [.code (ZW Tryz.f71).snd.snd.snd] (PostF prog tt n Tryz.f71.results.toList fun r H1=>r=(Tm.mk 3 0 (newV (XG S s.n)) []).enc∧H1=fsH H l b m q ⟨XG S s.n,s.ds++[(XG S s.n,t)]⟩) (ZnQ t n l b m q s.n 0 s.ds H):=by
   repeat refine kn rfl ?_
   refine Zar (fun M st=>∃k,k≤S.length∧M=S.length+1 - k∧(∀j,j<k→newV (s.n+1+j)∈S)∧st=ZnQ t n l b m q s.n k s.ds H) (m0:=S.length+1) (s0:=ZnQ t n l b m q s.n 0 s.ds H) rfl (AWk.refl _ _ _) ⟨0,Uw _,rfl,fun j hj=>absurd hj (Qo _),rfl⟩ ?_;rintro M st ⟨k,hk1,rfl,hk2,rfl⟩;refine ZQ rfl ?_;have hbk:fsH H l b m q ⟨s.n+1+k,s.ds⟩ l b=some (.box [.map l m,.int .i64 ((s.n+1+k:Nat):Int),.msl 13 l q s.ds.length]):=fsH_box;have hT:Tabs (fsH H l b m q ⟨s.n+1+k,s.ds⟩):=Tabs.fs hT hl0;refine nD drawO ?_;refine aq2 hne hbk ?_;refine cT (Ztx ((s.n+1+k:Nat):Int) om om) ?_;have hil:=Lib.itoa_length_le ((s.n+1+k:Nat):Int) om om;have hmap':∀L,full n L (fsH H l b m q ⟨s.n+1+k,s.ds⟩) l m=some (.map (encS S)):=fun L=>by
    rw[Zk hl,ZlZ (fun e=>hbm e.2.symm) (fun e=>hmq e.2)];exact hmap
   refine⟨om,rfl,?_⟩;refine Zdw (Zf func48 rfl rfl) (Zi.args (j48 (n+1) _ l m om S [newV (s.n+1+k)] sm (hmap' _)) (args':=[.map l m,.sl 1 [.str (newV (s.n+1+k))] .full]) ⟨.refl _,.any _ _ _,trivial⟩) (by simp only[go_sem,simprocAttr];rfl) ?_;have hh:Vd S [newV (s.n+1+k)]=decide (newV (s.n+1+k)∈S):=by simp[Vd]
   by_cases hx:newV (s.n+1+k)∈S
   ·have hk3:∀j,j<k+1→newV (s.n+1+j)∈S:=fun j hj=>by
     rcases Qe j k with h|h
     ·exact hk2 j h
     ·have:j=k:=om;subst this;exact hx
    have hk4:=Zck hk3;have hw2:IntKind.i64.wrap (((s.n+1+k:Nat):Int)+1)=((s.n+1+(k+1):Nat):Int):=by rw[iw];omega
    rw[hh,decide_eq_true hx];simp only[go_sem,simprocAttr];refine gH ?_;simp only[go_sem,simprocAttr,hne,hbk,hw2,Zln];refine⟨.inr (Ze.ZC ⟨.map _ _ hl,.int _ _,.msl _ _ _ _ hl,trivial⟩),?_⟩;refine nN ?_;refine⟨S.length+1 - (k+1),ZnQ t n l b m q s.n (k+1) s.ds H,om,?_,k+1,hk4,rfl,hk3,rfl⟩;unfold ZnQ;exact KK
   ·have hnx:XG S s.n=s.n+1+k:=by
     unfold XG;exact Zdn hk2 hx om
    rw[hh,decide_eq_false hx,hnx];refine aS ?_;refine gg ?_;refine nq2 hne hbk ?_;refine cT (Ztx ((s.n+1+k:Nat):Int) om om) ?_;refine⟨om,?_⟩;have hbuf:fsH H l b m q ⟨s.n+1+k,s.ds⟩ l q=some (.Zg 54 13 (flat (s.ds.map Jl)) s.ds.length):=Znv hbq;have hlen1:(s.ds++[(s.n+1+k,t)]).length=s.ds.length+1:=sm;have hset:=Zru (H:=H) (l:=l) (m:=m) (s:=⟨s.n+1+k,s.ds⟩) hbq ⟨s.n+1+k,s.ds++[(s.n+1+k,t)]⟩;have hflt:flat ((s.ds++[(s.n+1+k,t)]).map Jl)=flat (s.ds.map Jl)++flat [Jl (s.n+1+k,t)]:=by rw[QC,YZ];rfl
    rw[hlen1]at hset;rw[hflt]at hset;refine nD flO ?_;simp only[go_sem,simprocAttr,flO,hne,hbk,hbuf];refine Zf9 (Zf func49 rfl rfl) (j49 t ht) hn hT sS ?_;have hub:∀x,(fsH H l b m q ⟨s.n+1+k,s.ds⟩).upd l q x l b=some (.box [.map l m,.int .i64 ((s.n+1+k:Nat):Int),.msl 13 l q s.ds.length]):=fun x=>by
     rw[Za.upd_ne _ _ om];exact hbk
    simp only[go_sem,simprocAttr,flO,hne,hbk,hbuf,hub];have hbl:=ZeA (n:=n) (e:=54) (k:=s.ds.length+1) (s.ds++[(s.n+1+k,t)]);rw[hflt]at hbl;refine⟨rfl,⟨Zl om,om⟩,.inr hbl,.inr (Ze.ZC ⟨.map _ _ hl,.int _ _,.msl _ _ _ _ hl,trivial⟩),?_⟩;refine ge ?_;refine ZaU _ n 4 0 [.int .u8 3,.int .i64 0,.str (newV (s.n+1+k)),.sl 4 [] .full] sS (by simp only[go_sem,simprocAttr,full];rfl) rfl (Qg _) sS ?_ (Tm.blw _ _) ⟨rfl,hset⟩;rw[Tm.VJ];exact .deep (.ZcZ ⟨.refl _,.refl _,.refl _,.nil _ _ _,trivial⟩)
  have go:AKc ⟨prog,tt,⟨none,B⟩,n,Tryz.f71.ntmps⟩ [.code (ZW Tryz.f71).snd.snd.fst,.code (ZW Tryz.f71).snd.snd.snd] (PostF prog tt n Tryz.f71.results.toList fun r H1=>r=(Tm.mk 3 0 (newV (XG S s.n)) []).enc∧H1=fsH H l b m q ⟨XG S s.n,s.ds++[(XG S s.n,t)]⟩) ⟨[(4,.ptr n 4 0),(3,.ptr n 3 0),(0,.ptr l b 0)],[(3,.box t.cs),(4,.box [.int .u8 0,.int .i64 0,.str [],.sl 4 [] .full])],fsH H l b m q s⟩:=by
   refine nr ?_;simp only[go_sem,simprocAttr,hne,hbox,hwn,Zln];refine⟨.inr (Ze.ZC ⟨.map _ _ hl,.int _ _,.msl _ _ _ _ hl,trivial⟩),?_⟩;refine ZO ?_ hcut;unfold ZnQ;exact KK
  rcases hk with hk|hk
  ·have k5:(t.kind !=5)=false:=by simp;omega
   refine nq k5 ?_;refine gu ?_;refine ZO ?_ go;exact KK
  ·have k5:(t.kind !=5)=true:=by simp;omega
   have k6:(t.kind !=6)=false:=by simp;omega
   refine nq2 k5 k6 ?_;refine gu ?_;refine ZO ?_ go;exact KK
 ·have k5:(t.kind !=5)=true:=by simp;omega
  have k6:(t.kind !=6)=true:=by simp;omega
  have hfl:flT S t s.n=(.mk t.kind t.num t.name (flT.flTs S t.args s.n).1,(flT.flTs S t.args s.n).2.1,(flT.flTs S t.args s.n).2.2):=by
   cases t;exact Vf hk
  have hend:Zaa S t.args s t.args.length=fsT S t s:=by unfold Zaa fsT;rw[QI,hfl]
  have hroom:∀i (h:i<t.args.length),ZmW S (Zaa S t.args s i) t.args[i].sz:=fun i h=>by
   have h1:=Zii S t.args s.n i;have h2:=Zgx t.args i h;have h3:=ZbR t.args (i+1);have h4:=t.ZhJ;have h5:(Tm.sz.szs (t.args.take i)+t.args[i].sz)*(S.length+2)≤t.sz*(S.length+2):=QF _ om;rw[Ui]at h5;refine⟨hr.sl,?_,?_⟩
   ·have:=hr.n;simp only[Zaa];omega
   ·have:=hr.d;simp only[Zaa,Qh];omega
  rw[hfl];refine nq2 k5 k6 ?_;refine gi ?_;obtain⟨L,hL⟩:∃L:List (Nat×Ze),L=[(3,.box [.int .u8 t.kind,.int .i64 t.num,.str t.name,.sl 4 (t.args.map Tm.enc) .any]),(4,.box [.int .u8 0,.int .i64 0,.str [],.sl 4 [] .full])]:=⟨_,rfl⟩
  rw[←hL];refine YT (caps:=[]) (avs:=[.sl 4 (t.args.map Tm.enc) .any,.bfn (.func 71) [.ptr l b 0]]) (Qc:=fun r H1=>r= .sl 4 ((flT.flTs S t.args s.n).1.map Tm.enc) .any∧H1=full n L (fsH H l b m q (Zaa S t.args s t.args.length))) rfl (Zf func70 rfl rfl) (by
   rw[Qs];have he:=ZtJ (n+1) t.args ht.len 71 [.ptr l b 0] _ _ (Zf func71 rfl rfl) (flT.flTs S t.args s.n).1 (Zaq S t.args s.n) (fun i=>full n L (fsH H l b m q (Zaa S t.args s i))) ?_ ?_ ?_
   ·have h0:full n L (fsH H l b m q (Zaa S t.args s 0))=full n L (fsH H l b m q s):=by rw[ZhN]
    simp only[h0]at he;exact he
   ·exact .bfn _ _ fun i hi=>by
     simp only[Qq,QB]at hi;have:i=0:=om;subst this;exact .ptr _ _ _ om
   ·intro i h L';have h1:=hc t.args[i] (Qa h) (n+1+1) (full (n+1) L' (full n L H)) (Zaa S t.args s i) om (by rw[Zk om,Zk om];exact hmap) ((hT.full hn).full om) (hroom i h);simp only[Zd4 (show l≠n+1 by omega),Zd4 (show l≠n by omega),ZhY S t.args s i h];rw[ZmR S t.args s.n i h (by rw[Zaq];exact h)];exact h1
   ·intro i h;simp only[Zd4 (show l≠n by omega)];exact ZiY om hbq) sS ?_
  rintro r H1 ⟨rfl,rfl⟩;refine⟨L,fsH H l b m q (Zaa S t.args s t.args.length),rfl,ZiY hl hbq,?_⟩;rw[hL,hend];refine aS ?_;refine ge ?_;refine ZaU _ n 4 0 (Tm.mk t.kind t.num t.name (flT.flTs S t.args s.n).1).cs sS (by simp only[go_sem,simprocAttr,full];rfl) rfl (Qg _) sS ?_ (Tm.blw _ _) ⟨rfl,rfl⟩;rw[Tm.J4];exact .refl _
def j71(S:List Str)(l b m q:Nat)(hl0:0<l)(hbq:b≠q)(hbm:b≠m)(hmq:m≠q)(t:Tm)(ht:t.Good)(n:Nat)(H:Za)(s:FZs)(hl:l<n)(hmap:H l m=some (.map (encS S)))(hT:Tabs H)(hr:ZmW S s t.sz):
  Zi prog n 71 [.ptr l b 0,t.enc] (fsH H l b m q s) fun r H1=>r=(flT S t s.n).1.enc∧H1=fsH H l b m q (fsT S t s):=
 Zwx S t ht n H l b m q s hl hl0 hbq hbm hmq hmap om hT hr fun u hu n' H' s' h1 h2 h3 h4=>j71 S l b m q hl0 hbq hbm hmq u (ht.arg hu) n' H' s' h1 h2 h3 h4
termination_by SizeOf.sizeOf t
decreasing_by exact Tm.Y2 hu
end
def e238(l:List Tm):Pure prog 238 [eTs l] (.bool l.isEmpty):=by
 intro n H;refine aF func238 fun B=>?_
 have h0:((l.length:Int)==0)=l.isEmpty:=by cases l<;>simp;omega
 refine nR ?_;refine nr ?_;simp only[go_sem,simprocAttr,eTs,h0];exact pB
def Zsg(ps:List (List Tm)):ZeZ 238 [] eTs ps (·.isEmpty):=⟨⟨_,_,Zf func238 rfl rfl⟩,fun x _=>Abs.Pure.tabs (e238 x),fun _=>trivial⟩
def Zfo(s:Str)(n:Nat)(out:List Tm):List (Nat×Ze):=[(200,.Zg 40 4 (flat (out.map Tm.enc)) out.length),(4,.box [.msl 4 n 200 out.length]),(2,.box [.str s])]
def ZaD(ps:List (List Tm))(n:Nat):List (Nat×AV):=[(24,.fn (.func 267) [.iptr [.sl 1 (ps.map eTs) .any]]),(4,.ptr n 4 0),(2,.ptr n 2 0)]
noncomputable abbrev c201:Code:=(ZW Tryz.f201).snd.snd.snd.snd.fst.snd
noncomputable def Zbr(s:Str)(ps:List (List Tm))(n l:Nat)(out:List Tm):List (Nat×Ze):=setb (Zfo s n out) 100 (.lrec l Tryz.f201.ntmps 202 (ZaD ps n) #[25] c201.fst.fst c201.fst.snd .ready none)
noncomputable def Zbw(s:Str)(ps:List (List Tm))(n l:Nat)(H:Za)(out:List Tm):Za:=full n (Zbr s ps n l out) H
def Ztp(n:Nat):Opt:=⟨true,true,fun d=>if d=29∨d=33 then .heap else if d=34 then .at_ n 200 else if d=4 then .at_ n 4 else .auto,[]⟩
def Zpk(s:Str)(ps:List (List Tm))(n:Nat)(H:Za)(i c:Nat):Zb:=
 ⟨[(13,.int .i64 i),(12,.int .i64 ps.length),(11,.sl 1 (ps.map eTs) .any),(5,.int .i64 c),(1,.sl 1 (ps.map eTs) .any),(2,.ptr n 2 0),(4,.ptr n 4 0)],[(4,.box [.sl 4 [] .full]),(2,.box [.str s])],H⟩
def ZcP(s:Str)(r:List Tm):Tm:=.mk 4 0 s r
def Zj8(s:Str)(o r:List Tm):Option (List Tm):=some (o++[ZcP s r])
def Znj(s:Str)(l:List (List Tm))(a:List Tm):l.foldlM (Zj8 s) a=some (a++l.map (ZcP s)):=Zia (ZcP s) l a
def ZjN(s:Str)(ps:List (List Tm)):W9 (Zj8 s) [] ps []=some ((Z7 ps).map (ZcP s)):=by
 have:=Znj s (Z7 ps) [];unfold W9;simpa using this
section
variable {ps:List (List Tm)}
def Zkp{s:Str}{n l:Nat}{H:Za}(o o':List Tm):low (n+1) (Zbw s ps n l H o') (Zbw s ps n l H o)=Zbw s ps n l H o':=by
 funext a b;by_cases h:a<n+1
 ·rw[Zc0 h]
 ·rw[J6 h];unfold Zbw full;rw[if_neg om,if_neg om]
def Zpw(σ:List Tm)(z:AV)(hz:z.cells.length=4)(t:Tm):(flat (σ.map Tm.enc)++flat [z]).take (σ.length*4)++(t.cs++(flat (σ.map Tm.enc)++flat [z]).drop (σ.length*4+4))=flat ((σ++[t]).map Tm.enc):=by
 have hl:=Zf4 σ;have hz1:flat [z]=z.cells:=by simp[flat]
 rw[←hl,GX,UK (by rw[Qh,hz1,hz];exact Qg _),Qs,QC,YZ];congr 1
 simp[flat,Tm.ZeK]
def ZrO{s:Str}{n l:Nat}{H G:Za}{σ σ':List Tm}(hA:∀a j,a<n+1→G a j=Zbw s ps n l H σ a j):
  ((((G.upd n 100 (.lrec l Tryz.f201.ntmps 202 (ZaD ps n) #[25] c201.fst.fst c201.fst.snd .busy none)).upd n 200 (.Zg 40 4 (flat (σ'.map Tm.enc)) σ'.length)).upd n 4 (.box [.msl 4 n 200 σ'.length])).upd n 100 (.lrec l Tryz.f201.ntmps 202 (ZaD ps n) #[25] c201.fst.fst c201.fst.snd .ready none))=low (n+1) (Zbw s ps n l H σ') G:=by
 funext a j;by_cases h:a<n+1
 ·rw[Zc0 h];have h1:=hA a j h;unfold Za.upd;by_cases e:a=n
  ·subst e;by_cases e1:j=100
   ·subst e1;simp[Zbw,full,Zbr,Zfo,setb,lkb]
   ·by_cases e2:j=4
    ·subst e2;simp[Zbw,full,Zbr,Zfo,setb,lkb]
    ·by_cases e3:j=200
     ·subst e3;simp[Zbw,full,Zbr,Zfo,setb,lkb]
     ·simp only[e1,e2,e3,and_false,if_false];rw[h1];simp[Zbw,full,Zbr,Zfo,setb,lkb,Ne.symm e1,Ne.symm e2,Ne.symm e3]
  ·simp only[e,false_and,if_false];rw[h1];simp[Zbw,full,e]
 ·rw[J6 h];unfold Za.upd;simp only[show¬a=n from fun c=>h om,false_and,if_false]
def ZsB(s:Str)(ps:List (List Tm))(N:Nat)(hN:ps.length=N+1)(hl:N+1≤1000)(n l:Nat)(H:Za):ZoQ (n+1) l ps.length 40 4 Tm.enc (Zbw s ps n l H) (Zj8 s) (fun o _=>o.length<1000):=by
 have hbt:Yg (fun p=>Below (n+1) p.2) (ZaD ps n):=⟨ZaP ⟨ZN (Zcp _),trivial⟩,.ptr _ _ _ (Qr n),.ptr _ _ _ (Qr n),trivial⟩
 refine⟨fun m G σ row hok hm hrl hA h7=>?_,fun σ σ' a b x ha hx=>?_,fun x=>⟨by rw[Tm.Xg];rfl,fun m=>by rw[Tm.ZeK];exact(Tm.bcs x).mem⟩⟩
 ·have h100:G n 100=some (.lrec l Tryz.f201.ntmps 202 (ZaD ps n) #[25] c201.fst.fst c201.fst.snd .ready none):=(hA n 100 (Qr n)).trans (by simp[Zbw,full,Zbr,Zfo,setb,lkb]);have h200:G n 200=some (.Zg 40 4 (flat (σ.map Tm.enc)) σ.length):=(hA n 200 (Qr n)).trans (by simp[Zbw,full,Zbr,Zfo,setb,lkb]);have h4:G n 4=some (.box [.msl 4 n 200 σ.length]):=(hA n 4 (Qr n)).trans (by simp[Zbw,full,Zbr,Zfo,setb,lkb]);have h2:G n 2=some (.box [.str s]):=(hA n 2 (Qr n)).trans (by simp[Zbw,full,Zbr,Zfo,setb,lkb]);refine Zgs tt (x:=n) (y:=100) (Zf func201 rfl rfl).get h100 om rfl dc fun B'=>?_
  show AKc _ _ _ ⟨(25,.msl 4 (n+1) 7 ps.length)::ZaD ps n,[],G⟩;unfold ZaD;refine gd ?_;refine⟨rfl,h100,?_⟩;refine aS ?_;obtain⟨G1,hG1⟩:∃G1,G1=G.upd n 100 (.lrec l Tryz.f201.ntmps 202 (ZaD ps n) #[25] c201.fst.fst c201.fst.snd .busy none):=⟨_,rfl⟩
  have h200':G1 n 200=some (.Zg 40 4 (flat (σ.map Tm.enc)) σ.length):=by rw[hG1,Za.upd_ne _ _ sm];exact h200
  have h4':G1 n 4=some (.box [.msl 4 n 200 σ.length]):=by rw[hG1,Za.upd_ne _ _ sm];exact h4
  have h2':G1 n 2=some (.box [.str s]):=by rw[hG1,Za.upd_ne _ _ sm];exact h2
  have h7':G1 (n+1) 7=some (.Zg 40 4 (flat (row.map Tm.enc)) ps.length):=by rw[hG1,Za.upd_ne _ _ sm];exact h7
  have hnm:¬n=m:=om;have hnm1:¬n+1=m:=om;change AKc _ _ _ ⟨_,[],G.upd n 100 (.lrec l Tryz.f201.ntmps 202 (ZaD ps n) #[25] c201.fst.fst c201.fst.snd .busy none)⟩;rw[←hG1];refine nD (Ztp n) ?_;simp only[go_sem,simprocAttr,Ztp,hnm,h4',h2'];rw[hN];rw[hN]at h7';refine ZbJ (Zf func240 rfl rfl) (fun G' hG'=>Zup (m+1) G' (n+1) 7 N om row om om (X4 hG'▸(Zk hm _ _ _).trans h7')) sS ?_;have hu4:∀x,G1.upd n 200 x n 4=some (.box [.msl 4 n 200 σ.length]):=fun x=>by rw[Za.upd_ne _ _ sm];exact h4'
  have hs1:=Zpw σ (.agg [.int .u8 0,.int .i64 0,.str [],.sl 0 [] .full]) rfl (ZcP s row);have hzl:(flat (σ.map Tm.enc)++flat [AV.agg [.int .u8 0,.int .i64 0,.str [],.sl 0 [] .full]]).length=σ.length*4+4:=by rw[Qh,Zf4];rfl
  simp only[go_sem,simprocAttr,Ztp,hnm,h4',h2',h200',Za.upd_same,hu4,hzl,Za.Zau];have hs1':(flat (σ.map Tm.enc)++flat [AV.agg [.int .u8 0,.int .i64 0,.str [],.sl 0 [] .full]]).take (σ.length*4)++(AV.int .u8 4::AV.int .i64 0::AV.str s::AV.sl 4 (row.map Tm.enc) .any::(flat (σ.map Tm.enc)++flat [AV.agg [.int .u8 0,.int .i64 0,.str [],.sl 0 [] .full]]).drop (σ.length*4+4))=flat ((σ++[ZcP s row]).map Tm.enc):=hs1;rw[hs1'];have hb0:Ze.Below m (.Zg 40 4 (flat (σ.map Tm.enc)++flat [.agg [.int .u8 0,.int .i64 0,.str [],.sl 0 [] .full]]) (σ.length+1)):=by
   refine⟨fun c hc=>?_,by simp[Ze.at_]⟩;rcases Qk.1 hc with hc|hc
   ·exact(Va (m:=0) σ).1 c hc
   ·exact Yg.mem (l:=[AV.int .u8 0,.int .i64 0,.str [],.sl 0 [] .full]) (p:=fun c=>Below m c) ⟨.int _ _,.int _ _,.str _,YN (fun _ h=>by cases h) (fun _ _ e=>by cases e),trivial⟩ c (by simpa[flat,AV.cells]using hc)
  refine⟨rfl,⟨Zl om,om⟩,.inr hb0,om,om,.inr (Va _),.inr (Ze.ZC ⟨.msl _ _ _ _ om,trivial⟩),?_⟩;refine nN ?_;refine⟨by show Za.upd (Za.upd _ _ _ _) _ _ _ _ _=_;rw[Za.upd_ne _ _ sm,Za.upd_ne _ _ sm,hG1,Za.upd_same];rfl,σ++[ZcP s row],rfl,rfl,?_⟩;rw[hG1];have hlow:=ZrO (σ':=σ++[ZcP s row]) hA;rw[Qh]at hlow;exact hlow
 ·unfold Zbw full at hx⊢;by_cases h:a=n
  ·rw[if_pos h]at hx;have hb:Yg (fun q:Nat×Ze=>q.2.Below (n+1)) (Zbr s ps n l σ'):=
    ⟨Va _,Ze.ZC ⟨.msl _ _ _ _ (Qr n),trivial⟩,Ze.ZC ⟨.str _,trivial⟩,Ze.Za4 hbt,trivial⟩
   exact .inr (hb.mem _ (lkb_mem hx))
  ·rw[if_neg h]at hx⊢;exact .inl hx
def Zv3(s:Str)(ps:List (List Tm))(N:Nat)(hN:ps.length=N+1)(hl:N+1≤1000)(hq:∀q∈ps,q.length≤1000000)(n:Nat)(H:Za)(hn:0<n)(hT:Tabs H):
  Yc prog 197 n 201 [.str s,.sl 1 (ps.map eTs) .any] H (fun r H'=>∃l,ZcX s ps=some l∧r= .sl 4 (l.map Tm.enc) .any∧H'=H) (fun H'=>ZcX s ps=none∧H'=H):=by
 have hcf:=ZwB ps om 238 [] (·.isEmpty) (Zsg ps);refine Zhg (T:=tt) tok (Zf func201 rfl rfl) sm fun B=>?_
 refine Zh2 tt (d:=(ZW Tryz.f201).snd.snd.snd.snd) [(ZW Tryz.f201).fst,(ZW Tryz.f201).snd.fst,(ZW Tryz.f201).snd.snd.fst,(ZW Tryz.f201).snd.snd.snd.fst] rfl ?_;show AKc _ [.code _,.code _,.code _,.code _] _ _;refine gc ?_;refine cT (hcf) ?_;cases hany:ps.any (·.isEmpty)with
 |true=>
  have hf:ZcX s ps=some []:=by unfold ZcX;rw[hany];rfl
  refine gj ?_;refine Vu (ZaU _ n 4 0 [.sl 4 [] .full] sS sF rfl (Qg _) sS (.any _ _ _) (ZH []) ⟨[],hf,rfl,rfl⟩)
 |false=>
  have hf:ZcX s ps=(Zkr ps).bind fun _=>some ((Z7 ps).map fun r=>.mk 4 0 s r):=by unfold ZcX;rw[hany];rfl
  refine nF ?_;refine gk ?_;refine Zar (fun μ st=>∃i c,i≤ps.length∧μ=ps.length - i∧(ps.take i).foldlM cntF 1=some c∧c≤1000∧st=Zpk s ps n H i c) (m0:=ps.length) (s0:=Zpk s ps n H 0 1) rfl ?_ ⟨0,1,Uw _,rfl,rfl,om,rfl⟩ ?_
  ·exact KK
  rintro μ st ⟨i,c,hi,rfl,hc,hc1,rfl⟩;refine ZQ rfl ?_;rcases Qe i ps.length with h|h
  ·have hql:=hq _ (Qa h);have hstep:=fold_at cntF h hc;have hmul:c*ps[i].length≤1000*1000000:=Qbd hc1 hql;have hw:IntKind.i64.wrap ((c:Int)*(ps[i].length:Int))=((c*ps[i].length:Nat):Int):=by
    rw[IntWalk.i64_in _ (by rw[←Int.natCast_mul];omega)];simp
   refine nr ?_;refine aq h ?_;refine nT ?_;refine nq2 (getD_map eTs _ _ h) h ?_;repeat refine kn rfl ?_
   refine YA 197 tok (pre:=[_,_,_,_]) (post:=[_]) rfl rfl rfl rfl ?_;simp only[go_sem,simprocAttr,eTs,hw];refine JU (Zf func232 rfl rfl) (e232 (n+1) _ ((c*ps[i].length:Nat):Int)) sS ?_ ?_
   ·rintro r H1 ⟨hle,rfl,rfl⟩;refine⟨_,_,rfl,.refl _ _,?_⟩;have hle':¬1000<c*ps[i].length:=om;have hcF:cntF c ps[i]=some (c*ps[i].length):=by unfold cntF;rw[if_neg hle']
    refine aS ?_;refine gd ?_;refine⟨ps.length - (i+1),Zpk s ps n H (i+1) (c*ps[i].length),om,?_,i+1,_,h,rfl,by rw[Zes _ h hc];exact hcF,om,rfl⟩;exact KK
   ·rintro H1 ⟨hgt,rfl⟩;refine⟨_,_,rfl,.refl _ _,?_⟩;refine Vm ⟨rfl,?_,rfl⟩ _;have hcF:cntF c ps[i]=none:=by unfold cntF;rw[if_pos om]
    rw[hf,Znr,hstep,hcF];rfl
  ·have hi':i=ps.length:=om;subst hi';rw[QI]at hc;rw[Znr,hc]at hf;have hrl:=rows_len ps 1 c hc;rw[QaX]at hrl;refine nr ?_;simp only[go_sem,simprocAttr,QY];refine gg ?_;refine Ziw (show Zbx _ _ _ _ _ _ _ _ from ?_);refine Zeb rfl (Zeb rfl (Zrt (T:=tt) ?_));refine nR ?_;refine cP (ZvD ps) ?_;refine Ziw (show Zbx _ _ _ _ _ _ _ _ from ?_);refine ZeO (JC (j0:=4) (j:=200) (i:=0) 40 4 rfl rfl rfl) ?_;refine ZeO (s':=⟨ZaD ps n,Zfo s n [],H⟩) ?_ ?_
   ·unfold ZaD Zfo;apply kZ;repeat' first|apply q0|exact xx|apply aI
    all_goals first|exact Below.inside (v:=.fn (.func 267) [.iptr [.sl 1 (ps.map eTs) .any]]) (ZaP ⟨ZN (Zcp _),trivial⟩)|exact .msl _ _ _ _ (.inr ⟨rfl,rfl⟩)
   refine Zgp rfl ?_;refine ZbM (t:=197) (T:=tt) (caps:=[.iptr [.sl 1 (ps.map eTs) .any]]) 100 rfl (by unfold ZaD;simp only[go_sem,simprocAttr]) (Zf func267 rfl rfl) rfl fun l=>?_
   have hok:∀pr r po σ',Z7 ps=pr++r::po→pr.foldlM (Zj8 s) []=some σ'→σ'.length<1000:=fun pr r po σ' e1 e2=>by
    rw[Znj]at e2;cases e2;have:=congrArg List.length e1;simp at this⊢;omega
   refine⟨_,_,e267 (n:=n+1) (l:=l) (A:=Zbw s ps n l H) (step:=Zj8 s) (ok:=fun o _=>o.length<1000) _ ps om hq (ZsB s ps N hN hl n l H) [] (fun a b _=>rfl) hok,?_,?_⟩
   ·rintro r H1 ⟨σ',hs,rfl⟩;rw[ZjN]at hs;cases hs;refine⟨Zbr s ps n l ((Z7 ps).map (ZcP s)),H,.ready,Zkp _ _,.refl _ _,rfl,sm,?_⟩;generalize hout:(Z7 ps).map (ZcP s)=out at*;have hfu:ZcX s ps=some out:=by rw[hf,←hout];rfl
    refine Zkx (Zrt (T:=tt) ?_);refine ZO (s':=⟨[(4,.ptr n 4 0)],[(200,.Zg 40 4 (flat (out.map Tm.enc)) out.length),(4,.box [.msl 4 n 200 out.length])],H⟩) ?_ ?_
    ·unfold ZaD Zbr Zfo;exact KK
    refine ZO (Y1 (tm':=[(4,.ptr n 4 0)]) (av':=.sl 4 (out.map Tm.enc) .any) (j0:=4) (i:=0) (j:=200) 30 (show 30<Tryz.f201.ntmps by decide) (out.map Tm.enc) dc rfl rfl (.inl ⟨4,rfl,rfl⟩) rfl rfl (by rw[Qw]) (ZlQ out) (ZeR out).mem ?_ ?_) ?_
    ·intro p hp;simp only[Qm]at hp;subst hp;exact⟨sm,.refl _,.ptr _ _ _ (.inr ⟨rfl,dc⟩)⟩
    ·intro p hp;simp[setb,delb]at hp;subst hp;exact Ze.Zy ⟨.dead,trivial⟩
    simp only[go_sem,simprocAttr,setb,delb,U4,UO];refine ge ?_;refine Vu (ZaU _ n 4 0 [.sl 4 (out.map Tm.enc) .any] sS sF rfl (Qg _) sS (.refl _) (ZH _) ⟨out,hfu,rfl,rfl⟩)
   ·rintro H1 ⟨hs,_⟩;rw[ZjN]at hs;cases hs
end
end Go.Proofs.YtmdeagmbfhbbnaaGreatDoorR

namespace Go.Proofs
open Go.Shelf
def bO {P : Program} {i : FuncId} {B : Func} (h : ((((P.funcs[i]?).map Func.name).getD "") == "runtime.NumGoroutine") = false := by kernel_rfl) (h2 : P.funcs[i]? = some { B with name := ((P.funcs[i]?).map Func.name).getD "" } := by kernel_rfl) : Bears P i B := ⟨_, h, h2⟩
def Tryz.sort50_ren:Go.Shelf.Ren:=⟨fun|6=>50|15=>97|14=>96|28=>150|29=>151|20=>142|21=>143|22=>144|23=>145|24=>146|25=>147|26=>148|27=>149|46=>192|47=>193|48=>194|49=>195|50=>196|57=>229|n=>n,fun|22=>28|24=>34|25=>92|3=>3|39=>144|0=>0|53=>194|55=>196|4=>4|46=>188|45=>187|50=>165|5=>5|9=>9|66=>223|70=>227|76=>253|77=>254|n=>n,fun|n=>n⟩
def Tryz.sort50:Go.Proofs.SlLaysF0.n6 prog Tryz.sort50_ren:=by
 repeat' first|kernel_rfl|exact bO|(intro w;kernel_rfl)|constructor
def Tryz.sort264_ren:Go.Shelf.Ren:=⟨fun|6=>264|15=>97|14=>286|28=>150|29=>151|20=>293|21=>294|22=>295|23=>296|24=>297|25=>298|26=>299|27=>300|46=>301|47=>193|48=>194|49=>302|50=>303|57=>304|n=>n,fun|22=>37|24=>40|25=>100|3=>3|39=>144|0=>0|53=>194|55=>196|4=>4|46=>188|45=>187|50=>165|5=>5|9=>9|66=>223|70=>227|76=>253|77=>254|n=>n,fun|n=>n⟩
def Tryz.sort264:Go.Proofs.SlLaysF0.n6 prog Tryz.sort264_ren:=by
 repeat' first|kernel_rfl|exact bO|(intro w;kernel_rfl)|constructor
end Go.Proofs

namespace Go.Abs
open Go.Proofs Go.Shelf Go.Sort
def bare(E:Env):Env:={F:=E.F,m:=fun _ _=>none,hist:=fun _ _ _=>none,g:=fun _ _=>none,qd:=true}
section
variable {E:Env}
def VR.ZtK(q:Bool){a:AV}{v:Value}(hv:VR E a v):VR {E with qd:=q} a v:=by
 induction hv with
 |int k n=>exact .int k n
 |bool b=>exact .bool b
 |str l=>exact .str l
 |nilp=>exact .nilp
 |ptr l k off b hm=>exact .ptr l k off b hm
 |iptr cs b off c hc _ ih=>exact .iptr cs b off c hc ih
 |slnil k o a ho ha=>exact .slnil k o a (by cases o<;>exact ho) ha
 |sl k xs o b off cap c hk hc _ hcap hm ho ih=>exact .sl k xs o b off cap c hk hc ih hcap hm (by cases o<;>exact ho)
 |nilf=>exact .nilf
 |fn f caps vs hl _ ih=>exact .fn f caps vs hl ih
 |bfn f caps vs hl _ ih=>exact .bfn f caps vs hl ih
 |nilm=>exact .nilm
 |map l k b hm=>exact .map l k b hm
 |mnil sz l k a hh ha=>exact .mnil sz l k a hh ha
 |msl sz l k n g cap hh=>exact .msl sz l k n g cap hh
 |eptr l k n off g cap hh=>exact .eptr l k n off g cap hh
 |ssl k xs ys b off cap c hk hc _ hcap hm ih=>exact .ssl k xs ys b off cap c hk hc ih hcap hm
 |nili=>exact .nili
 |Xl=>exact .Xl
 |sln k a cap hc=>exact .sln k a cap hc
 |sub sz l k n off m g cap hh hm=>exact .sub sz l k n off m g cap hh hm
 |ifc t a v _ ih=>exact .ifc t a v ih
 |agg cs vs hl _ ih=>exact .agg cs vs hl ih
 |tup cs vs hl _ ih=>exact .tup cs vs hl ih
 |dead v=>exact .dead v
def bare_eq(E:Env):bare E={(E.cut 0)with qd:=true}:=by
 simp[bare,Env.cut]
def VR.bare{E:Env}{a:AV}{v:Value}(hv:VR E a v)(hb:Below 0 a):VR (bare E) a v:=by
 rw[bare_eq];exact(hv.cut hb).ZtK true
def ZoS{w:World}(hF:∀b o v,E.F b o=some v→w.cell? ⟨b,o,none⟩=some v):Zt 0 (fun _ _=>none) (bare E) w where
 norm:=⟨fun _ _ _=>rfl,fun _ _ _=>rfl,fun _ _ _ _=>rfl⟩
 F:=hF
 blk l k b hl _:=absurd hl (Qo _)
 dom l k hl _:=absurd hl (Qo _)
 nobuf l k h:=absurd rfl h
 inj l k l' k' b h:=by cases h
 injg l k l' k' b h:=by cases h
 mg l k l' k' b h:=by cases h
 mF l k b o h:=by cases h
 lt b h:=by rcases h with⟨_,_,h⟩|⟨_,_,h⟩<;>cases h
def Zgc{P:Program}{g:FuncId}{args:List AV}{r:AV}{w:World}{vs:List Value}(h:Pure P g args r)(hv:VRs E args vs)(hb:∀a∈args,Below 0 a)
  (hF:∀b o v,E.F b o=some v→w.cell? ⟨b,o,none⟩=some v):Calls P g vs.toArray w fun e w'=>(∃v E',e= .returned v∧VR E' r v)∧ ∃q os,w'=grow (w.drewN q) os:=by
 have hv':VRs (bare E) args vs:=⟨hv.1,fun i h1 h2=>(hv.2 i h1 h2).bare (hb _ (Qa h1))⟩
 refine(h 0 _ (bare E) w vs (ZoS hF) hv').mono ?_;rintro e w' ⟨r',v,H',E',rfl,⟨rfl,_⟩,h1,h2,hx⟩;refine⟨⟨v,E',rfl,h1⟩,w'.drawn - w.drawn,w'.heap.extract w.heap.size w'.heap.size,?_⟩;obtain⟨heap,tape,drawn,os,output⟩:=w';have e1:=hx.os;have e2:=hx.tape;have e3:=hx.output;have e4:=hx.drawn rfl;have e5:=hx.size;have e6:=hx.block;simp only at e1 e2 e3 e4 e5 e6;subst e1 e2 e3;have e7:heap=w.heap++heap.extract w.heap.size heap.size:=by
  apply Array.ext_getElem?;intro i;rcases Qe i w.heap.size with hi|hi
  ·rw[Gs hi];exact e6 i hi (by rintro(⟨_,_,h⟩|⟨_,_,h⟩)<;>cases h)
  ·rw[Array.getElem?_append_right hi,Array.getElem?_extract];rcases Qe i heap.size with hj|hj
   ·rw[if_pos om];congr 1;omega
   ·rw[if_neg om,Qai hj]
 simp only[grow,World.drewN,World.mk.injEq,true_and,and_true];exact⟨e7,om⟩
def Zc2{α β:Type}(f:α→List β)(k:Nat)(hk:∀x,(f x).length=k)(k0:0<k):∀(l:List α) (t:Nat),(l.flatMap f)[t]? =(l[t / k]?).bind fun x=>(f x)[t % k]?
 |[],t=>by simp
 |x::l,t=>by
  rw[QV];rcases Qe t k with h|h
  ·rw[UE (by rw[hk];exact h),Qbu h,Qav h];rfl
  ·rw[Gu (by rw[hk];exact h),hk,Zc2 f k hk k0 l (t - k)];have e1:t / k=(t - k) / k+1:=by rw[Nat.div_eq_sub_div k0 h]
   have e2:t % k=(t - k) % k:=Qba h;rw[e1,e2,U2]
section
variable {X:Type} {P:Program} {ρ:Ren}
structure Ztz (G:X→Prop) (lt:X→X→Bool):Prop where
 irrefl:∀x,G x→lt x x=false
 trans:∀x y z,G x→G y→G z→lt x y=true→lt y z=true→lt x z=true
 ntrans:∀x y z,G x→G y→G z→lt x y=false→lt y z=false→lt x z=false
def Elt(E:Env)(cs:X→List AV)(G:X→Prop):={p:List Value×X // G p.2∧VRs E (cs p.2) p.1}
def Zpv(L:SlLaysF0.n6 P ρ)(k:Nat)(k0:0<k)(aE:∀w,(isAgg (ρ.t 24)).run P w= .ok true w)(zE:∀w,(Go.sizeOf (ρ.t 24)).run P w= .ok k w)(cs:X→List AV)(hk:∀x,(cs x).length=k)(hone:∀x,∀c∈cs x,c.one=true)
  (hbl:∀x,∀c∈cs x,Below 0 c) (cf:X→X→Int) (G:X→Prop) (hO:Ztz G (ltOf cf)) (g:Nat) (fn:Func) (c:Code) (hf:Fun P g fn c) (hp:∀x y,G x→G y→Pure P g [.agg (cs x),.agg (cs y)] (.int .i64 (cf x y)))
  (n:Nat) (H:Za) (l j e sz0:Nat) (xs:List X) (hl:l<n) (hG:∀x∈xs,G x) (hH:H l j=some (.Zg e k (xs.flatMap cs) xs.length)) (hlen:xs.length≤1000000000):
  Zi P n (ρ.f 6) [.msl sz0 l j xs.length,.fn (.func g) []] H fun r H'=>r= .tup []∧ ∃ys:List X,ys.Perm xs∧(∀i i' (h:i<ys.length) (h':i'<ys.length),i<i'→ltOf cf ys[i'] ys[i]=false)∧H'=H.upd l j (.Zg e k (ys.flatMap cs) ys.length):=fun E w vs hr hv=>by
 obtain⟨v1,r1,rfl,h1,hv⟩:=hv.YW;obtain⟨v2,r2,rfl,h2,hv⟩:=hv.YW;rw[hv.of_nil];cases h2 with|fn _ _ vs2 hl2 hv2=>
 have e2:vs2=[]:=by simpa using hl2
 subst e2;have hfl:∀(l:List X),(l.flatMap cs).length=l.length*k:=fun l=>by
  induction l with
  |nil=>simp
  |cons x l ih=>rw[QV,Qh,hk,ih,Qq,Ui];omega
 cases hxs:xs with
 |nil=>
  subst hxs;have hnone:∀a cap,Calls P (ρ.f 6) #[.slice a 0 cap,.func (.func g) #[] #[]] w fun e' w'=>∃r v H' E',e'= .returned v∧(r= .tup []∧ ∃ys:List X,ys.Perm []∧(∀i i' (h:i<ys.length) (h':i'<ys.length),i<i'→ltOf cf ys[i'] ys[i]=false)∧H'=H.upd l j (.Zg e k (ys.flatMap cs) ys.length))∧VR E' r v∧Zt n H' E' w'∧Ext n E w E' w':=fun a cap=>
   (AnyF.slices_SortFunc_none L a cap _ w).mono fun e' w' ⟨he,hw⟩=>by
    subst hw he;exact⟨.tup [],_,H,E,rfl,⟨rfl,[],.refl _,fun i _ h=>absurd h (Qo _),(Yd hH).symm⟩,.tup [] [] rfl (fun i h=>absurd h (Qo _)),hr,.refl _ _ _⟩
  generalize hz:AV.msl sz0 l j ([]:List X).length=av at h1;cases h1<;>cases hz
  ·exact hnone _ _
  ·exact hnone _ _
 |cons x0 xr=>
  rw[←hxs];have hpos:0<xs.length:=by rw[hxs];simp
  obtain⟨nx,hnx⟩:∃m,m=xs.length:=⟨_,rfl⟩
  rw[←hnx]at h1;generalize hz:AV.msl sz0 l j nx=av at h1;cases h1<;>cases hz
  ·omega
  rename_i gb cap hh;subst hnx;obtain⟨cc,q1,q2,q3,q4,q5,q6,q7,q8⟩:=hr.mrow hh hH hpos;have hle:xs.length*k≤cap*k:=QF _ q3;have hcs:xs.length*k≤cc.size:=om;have hgb:gb<w.heap.size:=(QX.1 q2).1;have elt:∀i (hi:i<xs.length),G xs[i]∧VRs E (cs xs[i]) ((cc.toList.drop (i*k)).take k):=fun i hi=>by
   refine⟨hG _ (Qa hi),?_⟩;have hik:i*k+k≤xs.length*k:=by
    have:=QF k (show i+1≤xs.length from hi);rwa [Ui,QaX]at this
   refine⟨by rw[hk,QM,QU,Uj];omega,fun t ht ht'=>?_⟩;have htk:t<k:=by rw[hk]at ht;exact ht
   have hd:(i*k+t) / k=i:=by rw[MX,Nat.mul_add_div k0,Qbu htk,UF]
   have hm:(i*k+t) % k=t:=by rw[MX,Nat.mul_add_mod,Qav htk]
   have a1:=Zc2 cs k hk k0 xs (i*k+t);rw[hd,hm,Qb hi,UJ,Qb ht]at a1;obtain⟨a2,a3⟩:=Ub.1 a1;have a4:=q7.2 (i*k+t) a2 (by rw[q7.1];exact a2);rw[a3]at a4;simpa[GL,Qaq]using a4
  letI inh:Inhabited (Elt E cs G):=⟨⟨((cc.toList.drop (0*k)).take k,xs[0]),elt 0 hpos⟩⟩
  let enc:Elt E cs G→List Value:=fun p=>p.1.1
  let cf':Elt E cs G→Elt E cs G→Int:=fun p q=>cf p.1.2 q.1.2
  let d:Array (Elt E cs G):=Array.ofFn fun i:Fin xs.length=>⟨((cc.toList.drop (i.1*k)).take k,xs[i.1]),elt i.1 i.2⟩
  have hds:d.size=xs.length:=Array.size_ofFn;have hdg:∀i (hi:i<xs.length),d[i]! =⟨((cc.toList.drop (i*k)).take k,xs[i]),elt i hi⟩:=fun i hi=>by
   rw[getElem!_pos d i (by rw[hds];exact hi)];exact Array.getElem_ofFn _
  have hek:∀x,(enc x).length=k:=fun x=>by have:=x.2.2.1;rw[hk]at this;exact this
  have he1:∀x,∀v∈enc x,v.oneCell'=true:=fun x v hv=>by
   obtain⟨t,ht,rfl⟩:=QJ hv;have h0:=x.2.2.2 t (by rw[←x.2.2.1];exact ht) ht;exact h0.one (hone _ _ (Qa _))
  have hO':SWO (ltOf cf'):=⟨fun x=>hO.irrefl _ x.2.1,fun x y z=>hO.trans _ _ _ x.2.1 y.2.1 z.2.1,fun x y z=>hO.ntrans _ _ _ x.2.1 y.2.1 z.2.1⟩
  have hH0:HoldsK enc k w gb 0 d:=fun t ht=>by
   rw[size_flatK,hds]at ht;have hi:t / k<xs.length:=Gj (by rw[MX];exact ht);have htm:t % k<k:=Qaj _ k0;have hcell:w.cell? ⟨gb,0+t,none⟩=cc[t]?:=by simp only[World.cell?,q2];simp
   have hfro:w.frozen? ⟨gb,0+t,none⟩=false:=by simp[World.frozen?,q2]
   refine⟨?_,hfro⟩;rw[hcell,get_flatK _ _ _ _ (by rw[hds];exact ht),hdg _ hi];have htt:t / k*k+t % k=t:=by rw[MX];exact QaB t k
   have hlt:t % k<((cc.toList.drop (t / k*k)).take k).length:=by rw[QM,QU,Uj];omega
   show cc[t]? =some (((cc.toList.drop (t / k*k)).take k)[t % k]!);have hgp:((cc.toList.drop (t / k*k)).take k)[t % k]! =((cc.toList.drop (t / k*k)).take k)[t % k]'hlt:=getElem!_pos ((cc.toList.drop (t / k*k)).take k) (t % k) hlt;rw[hgp,GL,Qaq];rw[UG om];simp[htt]
  have hcmp:CmpLays P g #[] enc k cf' gb 0 d.size w:=fun m os dk hdk x y=>by
   have hs0:w.heap.size≤(sortWorldK enc k w gb 0 m dk os).heap.size:=size_sortWorldK_c enc k w gb 0 m dk os;have hcb:=Zgc (E:=E) (w:=sortWorldK enc k w gb 0 m dk os) (vs:=[.agg (enc x).toArray,.agg (enc y).toArray]) (hp _ _ x.2.1 y.2.1)
    (VRs.cons (.agg _ _ (by have:=x.2.2.1;exact this) x.2.2.2) (VRs.cons (.agg _ _ (by have:=y.2.2.1;exact this) y.2.2.2) (VRs.nil _)))
    (fun a ha=>by
     simp only[Ql,QA,or_false]at ha;rcases ha with rfl|rfl<;>exact Xf (hbl _))
    (fun b o v hFv=>by
     have hne:b≠gb:=fun e'=>by subst e';rw[q6]at hFv;cases hFv
     have hlt:=hr.ZcB hFv;unfold sortWorldK;rw[cell?_grow _ _ _ (by rw[size_putRowK];exact hlt),cell?_putRowK_other _ _ _ _ _ _ _ hne];exact hr.F _ _ _ hFv)
   refine Calls.mono hcb ?_;rintro e' w' ⟨⟨v,E',rfl,hvv⟩,hw⟩;cases hvv;exact⟨rfl,hw⟩
  have hs:=AnyQ.slices_SortFunc L k aE zE enc hek he1 cf' hO' g #[] gb 0 cap d w (Xa hf) hcmp hH0 hgb (by rw[hds];omega);rw[hds]at hs;refine Calls.mono hs ?_;rintro e' w' ⟨rfl,d',m,os,⟨p1,p2,p3⟩,hso,rfl⟩;have hd's:d'.size=xs.length:=by rw[p1,hds]
  have pe1:d'.extract 0 xs.length=d':=by rw[←hd's];simp
  have pe2:d.extract 0 xs.length=d:=by rw[←hds];simp
  rw[pe1,pe2]at p3;have hdx:d.toList.map (fun p=>p.1.2)=xs:=by
   apply Gh
   ·simp[hds]
   ·intro i h1 h2;have hi:i<xs.length:=by simpa[hds]using h1
    have:=hdg i hi;rw[getElem!_pos d i (by rw[hds];exact hi)]at this;simp only[QN,ML,this]
  obtain⟨ys,hys⟩:∃ys,ys=d'.toList.map (fun p=>p.1.2):=⟨_,rfl⟩
  have hyl:ys.length=xs.length:=by rw[hys];simp[hd's]
  have hyg:∀i (hi:i<ys.length),ys[i]=(d'[i]!).1.2:=fun i hi=>by
   subst hys;rw[getElem!_pos d' i (by simpa using hi)];simp
  have hyp:ys.Perm xs:=by rw[hys,←hdx];exact p3.map _
  have hc':(putRowK enc k (Go.Sort.ahead w m) gb 0 d').heap[gb]? =some (.cells (putCells id 0 (flatK enc k d') cc) e (0,0)):=by
   simp only[putRowK,putRow,mapBlock,Gw,if_true,Go.Sort.ahead,q2,Us,onCells]
  have hsz':(putCells id 0 (flatK enc k d') cc).size=cc.size:=by simp[putCells]
  obtain⟨hh2,hx2⟩:=hr.turn (w':=putRowK enc k (Go.Sort.ahead w m) gb 0 d') (.inr q1) (.Zg e k (ys.flatMap cs) ys.length) (fun _=>rfl) rfl rfl rfl (fun _=>Gx _ _) (by rw[size_putRowK];rfl)
   (fun b' hb'=>by simp only[putRowK,putRow,mapBlock,Gw,Go.Sort.ahead];rw[if_neg (fun e=>hb' e.symm)]) q6 (by
    obtain⟨⟨_,v0,hv0,hj0,_⟩,hm0⟩:=hr.Zg l j e k (xs.flatMap cs) xs.length (hr.norm.Xw hh) hH;rw[hh]at hv0;cases hv0;rw[hyl];refine⟨⟨by rw[hfl,hyl],_,hh,hj0,.inr ⟨gb,cap,_,rfl,q1,hc',q3,q4,by rw[hsz',q5],q6,?_⟩⟩,hm0⟩;have hpl:(putCells id 0 (flatK enc k d') cc).toList.length=cc.size:=by rw[Uj];exact hsz'
    refine⟨by rw[hfl,hyl,QM,hpl];omega,fun t ht ht'=>?_⟩;rw[hfl,hyl]at ht;have hi:t / k<xs.length:=Gj (by rw[MX];exact ht);have htm:t % k<k:=Qaj _ k0;have a1:=Zc2 cs k hk k0 ys t;rw[Qb (l:=ys) (i:=t / k) om,UJ,Qb (l:=cs ys[t / k]) (i:=t % k) (by rw[hk];exact htm),Qb (l:=ys.flatMap cs) (i:=t) (by rw[hfl,hyl];exact ht)]at a1;have a2:=U7 a1;rw[a2];have a3:((putCells id 0 (flatK enc k d') cc).toList.take (xs.length*k))[t]=(enc d'[t / k]!)[t % k]!:=by
     rw[GL];simp only[putCells,ML,QaZ,size_flatK,hd's];rw[if_pos ⟨Uw _,om⟩,MW,get_flatK _ _ _ _ (by rw[hd's];exact ht)];rfl
    rw[a3];have a4:=(d'[t / k]!).2.2;have hyq:=hyg (t / k) om;have a5:=a4.2 (t % k) (by rw[hk];exact htm) (by rw[a4.1,hk];exact htm);have a6:(enc d'[t / k]!)[t % k]! =(d'[t / k]!).1.1[t % k]'(by rw[a4.1,hk];exact htm):=getElem!_pos _ _ _;rw[a6];simp only[hyq];exact a5)
  obtain⟨hh3,hx3⟩:=hh2.below (w':=sortWorldK enc k w gb 0 m d' os) ⟨rfl,rfl,rfl,by simp[sortWorldK],fun b hb=>by simp[sortWorldK,grow,QbD,hb]⟩ (fun _=>Qg _);refine⟨.tup [],_,_,E,rfl,⟨rfl,ys,hyp,fun i i' hi hi' hii=>?_,rfl⟩,.tup [] [] rfl (fun i h=>absurd h (Qo _)),hh3,hx2.trans hx3⟩;have:=hso i i' (Uw _) hii om;rw[hyg i hi,hyg i' hi'];exact this
end
end
section
variable {P:Program} {ρ:Ren} {X:Type}
def Zn6(L:SlLaysF.n6 P ρ)(L0:SlLaysF0.n6 P ρ)(c:X→AV)(hone:∀x,(c x).one=true)(hbl:∀x,Below 0 (c x))(cf:X→X→Int)(G:X→Prop)(hO:Ztz G (ltOf cf))(g:Nat)(fn:Func)(cd:Code)(hf:Fun P g fn cd)(hp:∀x y,G x→G y→Pure P g [c x,c y] (.int .i64 (cf x y)))
  (n:Nat) (H:Za) (l j e sz0:Nat) (xs:List X) (hG:∀x∈xs,G x) (hH:H l j=some (.Zg e 1 (xs.map c) xs.length)) (hlen:xs.length≤1000000000):
  Zi P n (ρ.f 6) [.msl sz0 l j xs.length,.fn (.func g) []] H fun r H'=>r= .tup []∧ ∃ys:List X,ys.Perm xs∧(∀i i' (h:i<ys.length) (h':i'<ys.length),i<i'→ltOf cf ys[i'] ys[i]=false)∧H'=H.upd l j (.Zg e 1 (ys.map c) ys.length):=fun E w vs hr hv=>by
 obtain⟨v1,r1,rfl,h1,hv⟩:=hv.YW;obtain⟨v2,r2,rfl,h2,hv⟩:=hv.YW;rw[hv.of_nil];cases h2 with|fn _ _ vs2 hl2 hv2=>
 have e2:vs2=[]:=by simpa using hl2
 subst e2;cases hxs:xs with
 |nil=>
  subst hxs;have hnone:∀a cap,Calls P (ρ.f 6) #[.slice a 0 cap,.func (.func g) #[] #[]] w fun e' w'=>∃r v H' E',e'= .returned v∧(r= .tup []∧ ∃ys:List X,ys.Perm []∧(∀i i' (h:i<ys.length) (h':i'<ys.length),i<i'→ltOf cf ys[i'] ys[i]=false)∧H'=H.upd l j (.Zg e 1 (ys.map c) ys.length))∧VR E' r v∧Zt n H' E' w'∧Ext n E w E' w':=fun a cap=>
   (AnyF.slices_SortFunc_none L0 a cap _ w).mono fun e' w' ⟨he,hw⟩=>by
    subst hw he;exact⟨.tup [],_,H,E,rfl,⟨rfl,[],.refl _,fun i _ h=>absurd h (Qo _),(Yd hH).symm⟩,.tup [] [] rfl (fun i h=>absurd h (Qo _)),hr,.refl _ _ _⟩
  generalize hz:AV.msl sz0 l j ([]:List X).length=av at h1;cases h1<;>cases hz
  ·exact hnone _ _
  ·exact hnone _ _
 |cons x0 xr=>
  rw[←hxs];have hpos:0<xs.length:=by rw[hxs];simp
  obtain⟨nx,hnx⟩:∃m,m=xs.length:=⟨_,rfl⟩
  rw[←hnx]at h1;generalize hz:AV.msl sz0 l j nx=av at h1;cases h1<;>cases hz
  ·omega
  rename_i gb cap hh;subst hnx;obtain⟨cc,q1,q2,q3,q4,q5,q6,q7,q8⟩:=hr.mrow hh hH hpos;rw[Qas]at q5 q7;have hgb:gb<w.heap.size:=(QX.1 q2).1;have ccs:xs.length≤cc.size:=om;have elt:∀i (hi:i<xs.length),G xs[i]∧VR E (c xs[i]) cc[i]:=fun i hi=>by
   refine⟨hG _ (Qa hi),?_⟩;have a4:=q7.2 i (by simpa using hi) (by rw[q7.1];simpa using hi);simpa using a4
  let Elt1:={p:Value×X // G p.2∧VR E (c p.2) p.1}
  letI inh:Inhabited Elt1:=⟨⟨(cc[0],xs[0]),elt 0 hpos⟩⟩
  let enc:Elt1→Value:=fun p=>p.1.1
  let cf':Elt1→Elt1→Int:=fun p q=>cf p.1.2 q.1.2
  let d:Array Elt1:=Array.ofFn fun i:Fin xs.length=>⟨(cc[i.1],xs[i.1]),elt i.1 i.2⟩
  have hds:d.size=xs.length:=Array.size_ofFn;have hdg:∀i (hi:i<xs.length),d[i]! =⟨(cc[i],xs[i]),elt i hi⟩:=fun i hi=>by
   rw[getElem!_pos d i (by rw[hds];exact hi)];exact Array.getElem_ofFn _
  have he1:OneCell enc:=fun x=>x.2.2.one (hone _)
  have hO':SWO (ltOf cf'):=⟨fun x=>hO.irrefl _ x.2.1,fun x y z=>hO.trans _ _ _ x.2.1 y.2.1 z.2.1,fun x y z=>hO.ntrans _ _ _ x.2.1 y.2.1 z.2.1⟩
  have hH0:Holds enc w gb 0 d:=fun t ht=>by
   have hi:t<xs.length:=by rw[hds]at ht;exact ht
   have hcell:w.cell? ⟨gb,0+t,none⟩=cc[t]?:=by simp only[World.cell?,q2];simp
   refine⟨?_,by simp[World.frozen?,q2]⟩;rw[hcell,hdg _ hi,UG om]
  have hcmp:CmpLays1 P g #[] enc cf' gb 0 d.size w:=fun m os dk hdk x y=>by
   have hcb:=Zgc (E:=E) (w:=sortWorld enc w gb 0 m dk os) (vs:=[enc x,enc y]) (hp _ _ x.2.1 y.2.1) (VRs.cons x.2.2 (VRs.cons y.2.2 (VRs.nil _)))
    (fun a ha=>by
     simp only[Ql,QA,or_false]at ha;rcases ha with rfl|rfl<;>exact hbl _)
    (fun b o v hFv=>by
     have hne:b≠gb:=fun e'=>by subst e';rw[q6]at hFv;cases hFv
     have hlt:=hr.ZcB hFv;unfold sortWorld;rw[cell?_grow _ _ _ (by simp[putRow,mapBlock,Go.Sort.ahead];exact hlt),cell?_putRow_other _ _ _ _ _ _ (.inl hne)];exact hr.F _ _ _ hFv)
   refine Calls.mono hcb ?_;rintro e' w' ⟨⟨v,E',rfl,hvv⟩,hw⟩;cases hvv;exact⟨rfl,hw⟩
  have hs:=Any.slices_SortFunc L enc he1 cf' hO' g #[] gb 0 cap d w (Xa hf) hcmp hH0 hgb (by rw[hds];omega);rw[hds]at hs;refine Calls.mono hs ?_;rintro e' w' ⟨rfl,d',m,os,⟨p1,p2,p3⟩,hso,rfl⟩;have hd's:d'.size=xs.length:=by rw[p1,hds]
  have pe1:d'.extract 0 xs.length=d':=by rw[←hd's];simp
  have pe2:d.extract 0 xs.length=d:=by rw[←hds];simp
  rw[pe1,pe2]at p3;have hdx:d.toList.map (fun p=>p.1.2)=xs:=by
   apply Gh
   ·simp[hds]
   ·intro i h1 h2;have hi:i<xs.length:=by simpa[hds]using h1
    have:=hdg i hi;rw[getElem!_pos d i (by rw[hds];exact hi)]at this;simp only[QN,ML,this]
  obtain⟨ys,hys⟩:∃ys,ys=d'.toList.map (fun p=>p.1.2):=⟨_,rfl⟩
  have hyl:ys.length=xs.length:=by rw[hys];simp[hd's]
  have hyg:∀i (hi:i<ys.length),ys[i]=(d'[i]!).1.2:=fun i hi=>by
   subst hys;rw[getElem!_pos d' i (by simpa using hi)];simp
  have hyp:ys.Perm xs:=by rw[hys,←hdx];exact p3.map _
  have hc':(putRow enc (Go.Sort.ahead w m) gb 0 d').heap[gb]? =some (.cells (putCells enc 0 d' cc) e (0,0)):=by
   simp only[putRow,mapBlock,Gw,if_true,Go.Sort.ahead,q2,Us,onCells]
  have hsz':(putCells enc 0 d' cc).size=cc.size:=by simp[putCells]
  obtain⟨hh2,hx2⟩:=hr.turn (w':=putRow enc (Go.Sort.ahead w m) gb 0 d') (.inr q1) (.Zg e 1 (ys.map c) ys.length) (fun _=>rfl) rfl rfl rfl (fun _=>Gx _ _) (by simp[putRow,mapBlock,Go.Sort.ahead])
   (fun b' hb'=>by simp only[putRow,mapBlock,Gw,Go.Sort.ahead];rw[if_neg (fun e=>hb' e.symm)]) q6 (by
    obtain⟨⟨_,v0,hv0,hj0,_⟩,hm0⟩:=hr.Zg l j e 1 (xs.map c) xs.length (hr.norm.Xw hh) hH;rw[hh]at hv0;cases hv0;rw[hyl];refine⟨⟨by simp[hyl],_,hh,hj0,.inr ⟨gb,cap,_,rfl,q1,hc',q3,q4,by rw[hsz',q5,Qas],q6,?_⟩⟩,hm0⟩;rw[Qas];have hpl:(putCells enc 0 d' cc).toList.length=cc.size:=by rw[Uj];exact hsz'
    refine⟨by rw[QM,hpl,Qw,hyl];omega,fun t ht ht'=>?_⟩;have ht2:t<ys.length:=by simpa using ht
    have htd:t<d'.size:=om;rw[QN,hyg t ht2,GL];simp only[putCells,ML,QaZ];rw[if_pos ⟨Uw _,om⟩,MW];exact(d'[t]!).2.2)
  obtain⟨hh3,hx3⟩:=hh2.below (w':=sortWorld enc w gb 0 m d' os) ⟨rfl,rfl,rfl,by simp[sortWorld,grow,enc],fun b hb=>by show((putRow enc (Go.Sort.ahead w m) gb 0 d').heap++os)[b]? =_;rw[Gs hb]⟩ (fun _=>Qg _);refine⟨.tup [],_,_,E,rfl,⟨rfl,ys,hyp,fun i i' hi hi' hii=>?_,rfl⟩,.tup [] [] rfl (fun i h=>absurd h (Qo _)),hh3,hx2.trans hx3⟩;have:=hso i i' (Uw _) hii om;rw[hyg i hi,hyg i' hi'];exact this
end
end Go.Abs

namespace Go.Proofs.YtmdeagmbfhbbnaaGreatDoorR
open Go.Abs
def Znd{X:Type}{G:X→Prop}{c:X→X→Int}(h:Zhx G c):Ztz G (ltOf c) where
 irrefl x hx:=by rw[ltOf,h.self hx];rfl
 trans x y z hx hy hz h1 h2:=by
  rw[ltOf,decide_eq_true_eq]at*;exact h.trans hx hy hz h1 h2
 ntrans x y z hx hy hz h1 h2:=by
  obtain⟨f,hf⟩:=h.ex;rw[ltOf,decide_eq_false_iff_not]at*;rw[hf _ _ hx hy]at h1;rw[hf _ _ hy hz]at h2;rw[hf _ _ hx hz];have a1:=lexI_anti (f x) (f y);have a2:=lexI_anti (f y) (f z);have a3:=lexI_anti (f x) (f z);have:=lexI_trans (f z) (f y) (f x) om om;omega
def SD(K:List Str)(b:Bnd):Prop:=XU K b∧b.length≤1000000
def ZtY(K:List Str):Zhx (SD K) YU:=by
 obtain⟨⟨f,h1⟩,h2⟩:=ZrU K;exact⟨⟨f,fun x y hx hy=>h1 x y hx.1 hy.1⟩,fun x y hx hy=>h2 x y hx.1 hy.1⟩
def Tryz.sort50':Go.Proofs.SlLaysF.n6 prog Tryz.sort50_ren:={Tryz.sort50 with a24:=Tryz.isAgg34,z24:=Tryz.sizeOf34}
theorem k50(n:Nat)(H:Za)(l j:Nat)(K:List Str)(xs:List Bnd)(hg:∀b∈xs,SD K b)(hlen:xs.length≤1000000)(hH:H l j=some (.Zg 34 1 (flat (xs.map Zj)) xs.length)):
  Zi prog n 50 [.msl 1 l j xs.length,.fn (.func 51) []] H (fun r H'=>r= .tup []∧ ∃ys:List Bnd,ys.Perm xs∧(∀i i' (h:i<ys.length) (h':i'<ys.length),i<i'→ ¬YU ys[i'] ys[i]<0)∧H'=H.upd l j (.Zg 34 1 (flat (ys.map Zj)) ys.length)):=by
 have hfl:∀q:List Bnd,flat (q.map Zj)=q.map Zj:=fun q=>by
  induction q with
  |nil=>rfl
  |cons x q ih=>rw[Qv,Yw,ih];rfl
 rw[hfl]at hH;have h:=Zn6 (P:=prog) (ρ:=Tryz.sort50_ren) Tryz.sort50' Tryz.sort50 Zj (fun _=>rfl) (fun b=>Zw 0 b) YU (SD K) (Znd (ZtY K)) 51 _ _ (Zf func51 rfl rfl)
  (fun x y hx hy=>k51 x y hx.2 hy.2 (fun q hq=>Xi (hx.1.1.val q hq)) (fun q hq=>Xi (hy.1.1.val q hq))) n H l j 34 1 xs hg hH om
 refine Zi.mono h ?_;rintro r H' ⟨rfl,ys,hp,ha,rfl⟩;refine⟨rfl,ys,hp,fun i i' h h' hi=>?_,by rw[hfl]⟩;have:=ha i i' h h' hi;rw[ltOf,decide_eq_false_iff_not]at this;exact this
def serT:Zhx Tm.Good cmpT:=⟨⟨ser,fun x y hx hy=>Zj9 hx.nm hy.nm⟩,fun x y hx hy h=>cmpT_zero hx.nm hy.nm h⟩
theorem ZjX(q:List Tm):flat (q.map Tm.enc)=q.flatMap Tm.cs:=by
 induction q with
 |nil=>rfl
 |cons x q ih=>rw[Qv,Yw,ih,Tm.Xg];rfl
def Tm.cs1(x:Tm):∀c∈x.cs,c.one=true:=fun c hc=>by
 simp only[Tm.cs,Ql,QA,or_false]at hc;rcases hc with rfl|rfl|rfl|rfl<;>rfl
def e264(n:Nat)(H:Za)(l j:Nat)(hl:l<n)(xs:List Tm)(hg:∀b∈xs,b.Good)(hlen:xs.length≤1000000)(hH:H l j=some (.Zg 40 4 (flat (xs.map Tm.enc)) xs.length)):
  Zi prog n 264 [.msl 4 l j xs.length,.fn (.func 62) []] H (fun r H'=>r= .tup []∧ ∃ys:List Tm,ys.Perm xs∧(∀i i' (h:i<ys.length) (h':i'<ys.length),i<i'→ ¬cmpT ys[i'] ys[i]<0)∧H'=H.upd l j (.Zg 40 4 (flat (ys.map Tm.enc)) ys.length)):=by
 rw[ZjX]at hH;have h:=Zpv (P:=prog) (ρ:=Tryz.sort264_ren) Tryz.sort264 4 dc Tryz.isAgg40 Tryz.sizeOf40 Tm.cs (fun _=>rfl) Tm.cs1 (fun x=>x.bcs.mem) cmpT Tm.Good (Znd serT) 62 _ _ (Zf func62 rfl rfl)
  (fun x y hx hy=>by rw[←Tm.J4,←Tm.J4];exact a53 x y hx hy) n H l j 40 4 xs hl hg hH om
 refine Zi.mono h ?_;rintro r H' ⟨rfl,ys,hp,ha,rfl⟩;refine⟨rfl,ys,hp,fun i i' h h' hi=>?_,by rw[ZjX]⟩;have:=ha i i' h h' hi;rw[ltOf,decide_eq_false_iff_not]at this;exact this
def ZwD(l k m:Nat)(U:List Tm)(H:Za)(r:AV)(H':Za):Prop:=
 (r= .msl 4 l k m∧U.length=m∧H'=H.upd l k (.Zg 40 4 (flat (U.map Tm.enc)) m))∨
 (r= .sub 4 l k m 0 U.length∧0<m∧U.length≤m∧H'=H.upd l k (.Zg 40 4 (flat (U.map Tm.enc++List.replicate (m - U.length) zTm)) m))
def ZvX(n:Nat)(H:Za)(l k:Nat)(hl:l<n)(xs:List Tm)(hg:∀b∈xs,b.Good)(hlen:xs.length≤1000000)(hH:H l k=some (.Zg 40 4 (flat (xs.map Tm.enc)) xs.length)):
  Yc prog 197 n 236 [.msl 4 l k xs.length] H (fun r H'=>(XT cmpT xs).length≤1000∧ZwD l k xs.length (XT cmpT xs) H r H') fun H'=>1000<(XT cmpT xs).length∧ ∃cs m,H'=H.upd l k (.Zg 40 4 cs m):=by
 have hne:¬l=n:=om;refine xF func236 fun B=>?_
 refine gc ?_;refine YT (caps:=[]) (avs:=[.msl 4 l k xs.length,.fn (.func 62) []]) rfl (Zf func264 rfl rfl) (e264 (n+1) _ l k om xs hg hlen (by rw[Zk hl];exact hH)) sS ?_;rintro r H1 ⟨rfl,ys,hp,ha,rfl⟩;have hyl:xs.length=ys.length:=hp.length_eq.symm;have hkp:kpt cmpT ys ys.length=XT cmpT xs:=Znt serT hg hp ha;refine⟨[],H.upd l k (.Zg 40 4 (flat (ys.map Tm.enc)) ys.length),(Yi n _ _ _ _ _ hne).symm,.upd (Va ys),?_⟩;obtain⟨H2,hH2⟩:∃H2,H2=H.upd l k (.Zg 40 4 (flat (ys.map Tm.enc)) ys.length):=⟨_,rfl⟩
 rw[←hH2,hyl];refine gP ?_;refine YT (caps:=[]) (avs:=[.msl 4 l k ys.length,.fn (.func 16) []]) rfl (Zf func265 rfl rfl) (Zvy (n+1) _ l k om ys om (fun t ht=>hg t (hp.mem_iff.1 ht)) (by rw[Zk hl,hH2];exact Za.upd_same _ _ _ _)) sS ?_;rintro r H1 hq;unfold Zsx at hq;rw[hkp]at hq;generalize XT cmpT xs=U at*;rcases hq with⟨rfl,rfl,e⟩|⟨rfl,hpos,hle,rfl⟩
 ·have hUl:U.length=ys.length:=by rw[e]
  refine⟨[],H2,rfl,.refl _ _,?_⟩;refine gM ?_;refine YA 197 tok (pre:=[_,_]) (post:=[]) rfl rfl rfl rfl ?_;refine aS ?_;refine JU (Zf func232 rfl rfl) (e232 (n+1) _ ys.length) sS ?_ ?_;rotate_left
  ·rintro H1 ⟨hgt,rfl⟩;exact⟨_,_,rfl,.refl _ _,rfl,om,_,_,hH2⟩
  rintro r H1 ⟨hle,rfl,rfl⟩;refine⟨_,_,rfl,.refl _ _,?_⟩;refine aS ?_;refine ge ?_;refine Vu (Zn (v:=.msl 4 l k ys.length) (.refl _) (.msl _ _ _ _ hl) ⟨om,.inl ⟨rfl,hUl,?_⟩⟩);rw[hH2,e]
 ·refine⟨[],H2.upd l k (.Zg 40 4 (flat (U.map Tm.enc++List.replicate (ys.length - U.length) zTm)) ys.length),(Yi n _ _ _ _ _ hne).symm,.upd ?_,?_⟩
  ·refine⟨(XQ fun x hx=>?_).mem,by simp[Ze.at_]⟩;rcases Qk.1 hx with hx|hx
   ·obtain⟨y,_,rfl⟩:=Qi.1 hx;exact Tm.blw n y
   ·rw[(Uk.1 hx).2];exact Xf (Yg.mem (l:=[AV.int .u8 0,.int .i64 0,.str [],.sl 4 [] .full]) (p:=fun c=>Below n c) ⟨.int _ _,.int _ _,.str _,YN (fun _ h=>by cases h) (fun _ _ e=>by cases e),trivial⟩)
  refine gM ?_;refine YA 197 tok (pre:=[_,_]) (post:=[]) rfl rfl rfl rfl ?_;refine aS ?_;refine JU (Zf func232 rfl rfl) (e232 (n+1) _ U.length) sS ?_ ?_;rotate_left
  ·rintro H1 ⟨hgt,rfl⟩;exact⟨_,_,rfl,.refl _ _,rfl,om,_,_,by rw[hH2,Za.Zau]⟩
  rintro r H1 ⟨hle2,rfl,rfl⟩;refine⟨_,_,rfl,.refl _ _,?_⟩;refine aS ?_;refine ge ?_;exact Vu (Zn (v:=.sub 4 l k ys.length 0 U.length) (.refl _) (.sub _ _ _ _ _ _ hl) ⟨om,.inr ⟨rfl,hpos,hle,by rw[hH2,Za.Zau]⟩⟩)
end Go.Proofs.YtmdeagmbfhbbnaaGreatDoorR

namespace Go.Abs
def AV.sc:AV→Bool
 | .int _ _=>true
 | .bool _=>true
 | .str _=>true
 |_=>false
def Zst{E E':Env}{a:AV}{v:Value}(h:a.sc=true)(hv:VR E a v):VR E' a v:=by
 cases a<;>first|cases h|skip
 ·cases hv;exact .int _ _
 ·cases hv;exact .bool _
 ·cases hv;exact .str _
def Zp8{E E':Env}{az:List AV}{vs:List Value}(h:∀a∈az,a.sc=true)(hv:VRs E az vs):VRs E' az vs:=⟨hv.1,fun i h1 h2=>Zst (h _ (Qa h1)) (hv.2 i h1 h2)⟩
theorem Zov{P:Program}{n:Nat}{f:FuncId}{H:Za}{pre rs:List AV}{q j e sz N:Nat}{xs:List AV}(h:Pure P f (pre++[.sl sz xs .any]) (.tup rs))(hH:H q j=some (.Zg e sz (flat xs) N))(hN:0<N)(hxN:xs.length=N)(hml:N≤maxLen)
  (hk:∀x∈xs,x.cells.length=sz) (hx:∀c∈flat xs,c.sc=true) (hp:∀a∈pre,a.sc=true) (hr:∀a∈rs,a.sc=true):PC P n f (pre++[.msl sz q j N]) H (.tup rs):=fun E w vs hrel hv=>by
 obtain⟨us,vl,rfl,hu,hm⟩:∃us vl,vs=us++[vl]∧VRs E pre us∧VR E (.msl sz q j N) vl:=by
  have hl:=hv.1;simp only[Qh,Qq,QB]at hl;refine⟨vs.take pre.length,vs[pre.length]'om,?_,⟨by simp;omega,fun i h1 h2=>?_⟩,?_⟩
  ·conv=>lhs;rw[←Q7 pre.length vs,Qu om]
   rw[QT om]
  ·have:=hv.2 i (by simp;omega) (by simp at h2;omega);rw[MV h1]at this;simpa using this
  ·have:=hv.2 pre.length sm om;simpa using this
 cases hm with
 |mnil=>exact absurd hN (QY 0)
 |msl _ _ _ _ g cap hh=>
  subst hxN;obtain⟨c,q1,q2,q3,q4,q5,q6,q7,q8⟩:=hrel.mrow hh hH hN;obtain⟨cs2,hcs⟩:∃cs2,cs2=c.toList.take (xs.length*sz):=⟨_,rfl⟩
  rw[←hcs]at q7;have hl2:cs2.length=xs.length*sz:=by rw[q7.1,flat_length hk]
  let E0:Env:={E with F:=fun b o=>if b=g then cs2[o]? else E.F b o,m:=fun _ _=>none,g:=fun _ _=>none,hist:=fun _ _ _=>none}
  have hF:∀b o v,E0.F b o=some v→w.cell? ⟨b,o,none⟩=some v:=fun b o v hb=>by
   simp only[E0]at hb;split at hb
   ·rename_i e;subst e;have hjl:o<xs.length*sz:=by rw[←hl2];exact(Ub.1 hb).1
    rw[hcs,QZ hjl]at hb;simp only[World.cell?,q2];simpa using hb
   ·exact hrel.F b o v hb
  have h0:Zt n (fun _ _=>none) E0 w:=⟨⟨fun _ _ _=>rfl,fun _ _ _=>rfl,fun _ _ _ _=>rfl⟩,hF,fun _ _ _ _ h=>(by cases h),fun _ _ _ _=>⟨rfl,rfl,fun _=>rfl⟩,fun _ _ h=>absurd rfl h,fun _ _ _ _ _ h=>(by cases h),fun _ _ _ _ _ h=>(by cases h),fun _ _ _ _ _ h=>(by cases h),fun _ _ _ _ h=>(by cases h),fun b h=>by rcases h with⟨_,_,h⟩|⟨_,_,h⟩<;>cases h⟩
  have hs:VR E0 (.sl sz xs .any) (.slice (some ⟨g,0,none⟩) xs.length cap):=VR.Vs (cs:=cs2) hk (Zp8 hx q7) (fun jj u hj=>by simp only[E0,if_true,QK];exact hj) q3 hml trivial;have hcall:=h n (fun _ _=>none) E0 w (us++[.slice (some ⟨g,0,none⟩) xs.length cap]) h0 ((Zp8 hp hu).append (VRs.cons hs (VRs.nil _)));refine hcall.mono ?_;rintro e' w' ⟨r,v,H',E',rfl,⟨rfl,rfl⟩,hrv,hrel',hext⟩;obtain⟨g1,g2⟩:=hrel.grow (w':=w') (F':=E.F) hext.os hext.tape hext.output hext.drawn hext.size (fun b hb=>hext.block b hb fun ho=>by rcases ho with⟨_,_,h⟩|⟨_,_,h⟩<;>cases h) (fun _ _ _ h=>h)
   (fun b o v hf=>by
    have hlt:=hrel.ZcB hf;have:=hrel.F b o v hf;simp only[World.cell?,hext.block b hlt fun ho=>by rcases ho with⟨_,_,h⟩|⟨_,_,h⟩<;>cases h]at this⊢;exact this) (fun _ _ _=>rfl)
  refine⟨_,v,H,_,rfl,⟨rfl,rfl⟩,?_,g1,g2⟩;cases hrv with
  |tup _ vs' hl' hv'=>exact .tup _ _ hl' fun i h1 h2=>Zst (hr _ (Qa h1)) (hv' i h1 h2)
end Go.Abs

namespace Go.Proofs.YtmdeagmbfhbbnaaGreatDoorR
open Go.Abs
/-! Sets of integers. -/
def ZdR(S:List Int)(x:Int):List Int:=if x∈S then S else S++[x]
def encI(S:List Int):List (AV×AV):=Za5 eInt eInt (S.map fun x=>(x,x))
theorem Zkm(x:Int):∀S:List Int,ZgP x x (S.map fun s=>(s,s))=(ZdR S x).map fun s=>(s,s)
 |[]=>rfl
 |y::r=>by
  have ih:=Zkm x r;simp only[Qv,ZgP];by_cases h:y=x
  ·simp[h,ZdR]
  ·rw[if_neg h,ih];have:¬x=y:=fun e=>h e.symm
   unfold ZdR;by_cases h2:x∈r<;>simp[h2,this]
def ZrD(x:Int)(S:List Int):ZaN (.int .i64 x) (.int .i64 x) (encI S)=encI (ZdR S x):=by
 unfold encI;rw[←Zkm];exact Zmy (ek:=eInt) kinj_int eInt x x _
def Zj7(S:List Int):(encI S).length=S.length:=by simp[encI,Za5]
def Za0{n:Nat}(S:List Int):Ze.Below n (.map (encI S)):=Zkn (Zgr (ek:=eInt) (ev:=eInt) (fun _=>.int _ _) (fun _ _=>.int _ _))
def Zk3{n:Nat}{p:Nat→Prop}(S:List Int):Yg (fun c=>Inside n p c) (List.map (fun x=>x.1) (encI S)++List.map (fun x=>x.2) (encI S)):=Yb fun c hc=>((Za0 (n:=n) S).1 c hc).inside
def Zpe(S:List Int):∀p∈encI S,YF tt 3 p.1=true:=fun p hp=>by
 obtain⟨q,_,rfl⟩:=Qi.1 hp;rfl
section
variable {x:Int} {S:List Int}
def ZfY{y:Int}:y∈ZdR S x↔y∈S∨y=x:=by
 unfold ZdR;split
 ·rename_i h;constructor
  ·exact .inl
  ·rintro(h'|rfl)
   ·exact h'
   ·exact h
 ·simp
def ZcY(h:S.Nodup):(ZdR S x).Nodup:=by
 unfold ZdR;split
 ·exact h
 ·rename_i hx;exact GK.2 ⟨h,sm,fun a ha b hb e=>by simp only[Qm]at hb;subst hb;subst e;exact hx ha⟩
def Zqs:(ZdR S x).length≤S.length+1:=by unfold ZdR;split<;>simp
def Zab(op:Str)(S:List Int)(row:List Int):Option (List Int):=match Wj op row with
 |none=>some S
 |some v=>if 1000<(ZdR S v).length then none else some (ZdR S v)
def Zdd{op:Str}:∀{l:List (List Int)} {S T:List Int},S.Nodup→S.length≤1000→l.foldlM (Zab op) S=some T→T.Nodup∧T.length≤1000∧ ∀x,x∈T↔x∈S∨x∈l.filterMap (Wj op)
 |[],S,T,h,h1,e=>by simp at e;subst e;exact⟨h,h1,sm⟩
 |r::l,S,T,h,h1,e=>by
  rw[MQ]at e;unfold Zab at e;cases hc:Wj op r with
  |none=>
   rw[hc]at e;obtain⟨a,b,c⟩:=Zdd h h1 e;exact⟨a,b,fun x=>by rw[c,Qaa,hc]⟩
  |some v=>
   rw[hc]at e;simp only at e;split at e
   ·cases e
   ·rename_i hl;obtain⟨a,b,c⟩:=Zdd (ZcY h) om e;refine⟨a,b,fun x=>?_⟩;rw[c,Qaa,hc,ZfY,Ql,or_assoc]
def Zbd{op:Str}:∀{l:List (List Int)} {S:List Int},S.Nodup→l.foldlM (Zab op) S=none→ ∃T:List Int,T.Nodup∧1000<T.length∧ ∀x∈T,x∈S∨x∈l.filterMap (Wj op)
 |[],S,h,e=>by simp at e
 |r::l,S,h,e=>by
  rw[MQ]at e;unfold Zab at e;cases hc:Wj op r with
  |none=>
   rw[hc]at e;obtain⟨T,a,b,c⟩:=Zbd h e;exact⟨T,a,b,fun x hx=>by rw[Qaa,hc];exact c x hx⟩
  |some v=>
   rw[hc]at e;simp only at e;split at e
   ·rename_i hl;refine⟨ZdR S v,ZcY h,hl,fun x hx=>?_⟩;rw[Qaa,hc,Ql];rcases ZfY.1 hx with hx|hx
    ·exact .inl hx
    ·exact .inr (.inl hx)
   ·obtain⟨T,a,b,c⟩:=Zbd (ZcY h) e;refine⟨T,a,b,fun x hx=>?_⟩;rw[Qaa,hc,Ql];rcases c x hx with hx|hx
    ·rcases ZfY.1 hx with hx|hx
     ·exact .inl hx
     ·exact .inr (.inl hx)
    ·exact .inr (.inr hx)
def Zrx(a b:Int):cmpT (Ye a) (Ye b)=YO a b:=by
 rw[ZfD];simp only[Ye,Tm.kind,Tm.num,Tm.args,Tm.name,if_true,QB];have h1:∀x:Int,YO x x=0:=fun x=>by simp[YO]
 have h2:Lib.compareBytes ([]:List UInt8) []=0:=cmpBytes_self [];rw[h1,Y5,h1,h2,cmpT.cmps,Y5,Y5,Y5];unfold thn;split<;>simp_all
def Zkk(h:Y6 x=true):(Ye x).Good:=Xi (value_of (ZfO h) (by rw[ZfK];decide))
def Zpy(h:∀x∈S,Y6 x=true):XT cmpT (S.map Ye)=(XT YO S).map Ye:=by
 have hg:∀y∈S.map Ye,y.Good:=fun y hy=>by obtain⟨x,hx,rfl⟩:=Qi.1 hy;exact Zkk (h x hx)
 refine serT.unique (fun y hy=>hg y ((serT.set_mem hg y).1 hy)) (serT.set_asc hg) ?_ fun x=>?_
 ·exact G7.2 ((serI.set_asc fun _ _=>trivial).imp fun{a b} h=>by rw[Zrx];exact h)
 ·rw[serT.set_mem hg,Qi,Qi];simp only[serI.set_mem (l:=S) fun _ _=>trivial]
variable {ps:List (List Tm)}
def Zom{op:Str}(h:(Z7 (ps.map Yp)).foldlM (Zab op) []=some S){xs:List Tm}(hx:xs.Perm (S.map Ye)):Zbu op ps=some (XT cmpT xs)∧(XT cmpT xs).length≤1000∧ ∀t∈xs,t.Good:=by
 obtain⟨h1,h2,h3⟩:=Zdd Qae sm h;have hV:∀x,x∈S↔x∈(Z7 (ps.map Yp)).filterMap (Wj op):=fun x=>by rw[h3];simp
 have hfit:∀x∈S,Y6 x=true:=fun x hx=>by
  obtain⟨r,_,hr⟩:=QaF.1 ((hV x).1 hx);exact ZhK hr
 have hgx:∀t∈xs,t.Good:=fun t ht=>by
  obtain⟨x,hx,rfl⟩:=Qi.1 (hx.mem_iff.1 ht);exact Zkk (hfit x hx)
 have e1:XT cmpT xs=XT cmpT (S.map Ye):=serT.unique (fun y hy=>hgx y ((serT.set_mem hgx y).1 hy)) (serT.set_asc hgx) (serT.set_asc fun y hy=>hgx y (hx.mem_iff.2 hy)) fun x=>by
  rw[serT.set_mem hgx,serT.set_mem fun y hy=>hgx y (hx.mem_iff.2 hy),hx.mem_iff]
 have e2:XT YO S=XT YO ((Z7 (ps.map Yp)).filterMap (Wj op)):=serI.unique (fun _ _=>trivial) (serI.set_asc fun _ _=>trivial) (serI.set_asc fun _ _=>trivial) fun x=>by
  rw[serI.set_mem fun _ _=>trivial,serI.set_mem fun _ _=>trivial,hV]
 have hnd:(XT YO S).Nodup:=(serI.set_asc (l:=S) fun _ _=>trivial).imp fun{a b} h e=>by subst e;rw[serI.self trivial]at h;omega
 have hle:(XT YO S).length≤1000:=Ue (Xd hnd fun x hx=>(serI.set_mem (fun _ _=>trivial) x).1 hx) h2;rw[e1,Zpy hfit];refine⟨?_,by simpa using hle,hgx⟩;unfold Zbu Zo7;rw[←e2,if_neg om]
def ZoN{op:Str}(h:(Z7 (ps.map Yp)).foldlM (Zab op) []=none):Zbu op ps=none:=by
 obtain⟨T,h1,h2,h3⟩:=Zbd Qae h;have:=Xd (q:=XT YO ((Z7 (ps.map Yp)).filterMap (Wj op))) h1 fun x hx=>(serI.set_mem (fun _ _=>trivial) x).2 (by have:=h3 x hx;simpa using this)
 unfold Zbu Zo7;rw[if_pos om]
end
end Go.Proofs.YtmdeagmbfhbbnaaGreatDoorR

namespace Go.Abs
open Go.Proofs.YtmdeagmbfhbbnaaGreatDoorR
section
variable {S S':List Str}
def ZgT(h:∀n,n∈S↔n∈S')(l:List Str):Vd S l=Vd S' l:=by
 unfold Vd;congr 1
 funext n;exact decide_eq_decide.2 (h n)
def Zjk(h:∀n,n∈S↔n∈S'):Y3 S=Y3 S':=by
 funext x;unfold Y3;simp only[ZgT h]
def ZjH(h:∀n,n∈S↔n∈S')(l:List Lt):Vj S l=Vj S' l:=by unfold Vj;rw[Zjk h]
def Zd1(h:∀n,n∈S↔n∈S'):X7 S=X7 S':=by funext x;unfold X7;rw[ZgT h]
def plG:Nat→List Str→List Lt→List (Stp×Lt)×List Str×List Lt
 |0,S,l=>([],S,l)
 |f+1,S,l=>match Vj S l with
  |none=>([],S,l)
  |some (s,x,r)=>let p:=plG f (ZP S (ZA x)) r;((s,x)::p.1,p.2)
def plG_planF:∀(f:Nat) (S S':List Str) (l:List Lt),(∀n,n∈S↔n∈S')→(plG f S l).1.map Prod.fst=(planF f S' l).1∧(∀n,n∈(plG f S l).2.1↔n∈(planF f S' l).2.1)∧(plG f S l).2.2=(planF f S' l).2.2
 |0,S,S',l,h=>⟨rfl,h,rfl⟩
 |f+1,S,S',l,h=>by
  unfold plG planF;rw[ZjH h l];cases Vj S' l with
  |none=>exact⟨rfl,h,rfl⟩
  |some p=>
   obtain⟨s,x,r⟩:=p;obtain⟨h1,h2,h3⟩:=plG_planF f (ZP S (ZA x)) (S'++ZA x) r fun n=>by rw[VG,Qk,h n]
   exact⟨by simp[h1],h2,h3⟩
def ZfW{f:Lt→Option Stp}{s:Stp}:∀(l:List Lt) (i:Nat) (h:i<l.length),(∀j (h:j<l.length),j<i→f l[j]=none)→f l[i]=some s→ZaB f l=some (s,l[i],l.take i++l.drop (i+1))
 |x::r,0,h,_,e=>by
  simp only[Uh]at e;simp[ZaB,e]
 |x::r,i+1,h,hn,e=>by
  have h0:=hn 0 sm om;simp only[Uh]at h0;have:=ZfW r i (by simpa using h) (fun j hj hji=>hn (j+1) (by simpa using hj) om) e;simp[ZaB,h0,this]
theorem ZaQ{f:Lt→Option Stp}:∀(l:List Lt),(∀j (h:j<l.length),f l[j]=none)→ZaB f l=none
 |[],_=>rfl
 |x::r,hn=>by
  have h0:=hn 0 sm;simp only[Uh]at h0;have:=ZaQ r (fun j hj=>hn (j+1) (by simpa using hj));simp[ZaB,h0,this]
variable {s:Stp} {l:List Lt}
def ZoJ(i:Nat)(h:i<l.length)(hn:∀j (h:j<l.length),j<i→Y3 S l[j]=none)(e:Y3 S l[i]=some s):Vj S l=some (s,l[i],l.take i++l.drop (i+1)):=by
 unfold Vj;rw[ZfW l i h hn e];rfl
def ZlE(i:Nat)(h:i<l.length)(h0:∀j (h:j<l.length),Y3 S l[j]=none)(hn:∀j (h:j<l.length),j<i→JR l[j]=none)(e:JR l[i]=some s):Vj S l=some (s,l[i],l.take i++l.drop (i+1)):=by
 unfold Vj;rw[ZaQ l h0,ZfW l i h hn e];rfl
def ZqH(h0:∀j (h:j<l.length),Y3 S l[j]=none)(hn:∀j (h:j<l.length),JR l[j]=none):Vj S l=none:=by
 unfold Vj;rw[ZaQ l h0,ZaQ l hn];rfl
def Zkg{x:Lt}{r:List Lt}{f:Nat}(h:Vj S l=some (s,x,r))(hf:l.length=f+1):plG l.length S l=((s,x)::(plG f (ZP S (ZA x)) r).1,(plG f (ZP S (ZA x)) r).2):=by
 rw[hf,plG,h]
theorem ZrS(h:Vj S l=none):plG l.length S l=([],S,l):=by
 cases l with
 |nil=>rfl
 |cons x r=>rw[Qq,plG,h]
end
end Go.Abs

namespace Go.Proofs.YtmdeagmbfhbbnaaGreatDoorR
open Go.Abs
def Zlv(S:List Str)(c:Nat):∃k,k≤S.length∧(∀j,j<k→newV (c+1+j)∈S)∧newV (c+1+k)∉S:=by
 have key:∀f k,f+k=S.length+1→(∀j,j<k→newV (c+1+j)∈S)→ ∃k,k≤S.length∧(∀j,j<k→newV (c+1+j)∈S)∧newV (c+1+k)∉S:=by
  intro f;induction f with
  |zero=>intro k hk h;have:=Zck h;omega
  |succ f ih=>
   intro k hk h;by_cases hx:newV (c+1+k)∈S
   ·refine ih (k+1) om fun j hj=>?_
    rcases Qe j k with h'|h'
    ·exact h j h'
    ·have:j=k:=om;subst this;exact hx
   ·exact⟨k,Zck h,h,hx⟩
 exact key (S.length+1) 0 om fun j hj=>absurd hj (Qo _)
section
variable {S T:List Str}
def Zlk(h:∀x,x∈S↔x∈T)(c:Nat):XG S c=XG T c:=by
 obtain⟨k,h1,h2,h3⟩:=Zlv S c;have h2':∀j,j<k→newV (c+1+j)∈T:=fun j hj=>(h _).1 (h2 j hj)
 have h3':newV (c+1+k)∉T:=fun hx=>h3 ((h _).2 hx)
 unfold XG;rw[Zdn h2 h3 om,Zdn h2' h3' (by have:=Zck h2';omega)]
def ZoU(h:∀x,x∈S↔x∈T):(∀t c,flT S t c=flT T t c)∧ ∀l c,flT.flTs S l c=flT.flTs T l c:=by
 refine XL (fun k n s l ih c=>?_) (fun c=>rfl) fun t r h1 h2 c=>?_
 ·by_cases hk:k=5∨k=6
  ·rw[Ve hk,Ve hk,Zlk h]
  ·rw[Vf hk,Vf hk,ih c]
 ·simp only[flT.flTs,h1 c,h2]
def ZoG(h:∀x,x∈S↔x∈T)(x:Lt)(c:Nat):flX S x c=flX T x c:=by
 unfold flX;rw[(ZoU h).2]
theorem Zel{S T:List Str}(h:∀x,x∈S↔x∈T):∀(l:List Lt) (c:Nat),flL S l c=flL T l c
 |[],_=>rfl
 |x::r,c=>by rw[flL,flL,ZoG h,Zel h]
def Zav(S:List Str):List Lt→Nat→Nat
 |[],c=>c
 |x::r,c=>Zav S r (flX S x c).2
def Zgm(S:List Str):∀(p q:List Lt) (c:Nat),flL S (p++q) c=flL S p c++flL S q (Zav S p c)∧Zav S (p++q) c=Zav S q (Zav S p c)
 |[],q,c=>⟨rfl,rfl⟩
 |x::p,q,c=>by
  have:=Zgm S p q (flX S x c).2;simp only[Q8,flL,Zav,this,Uc,and_self]
def ZpL(S:List Str)(l:List Lt)(c i:Nat)(h:i<l.length):flL S (l.take (i+1)) c=flL S (l.take i) c++(flX S l[i] (Zav S (l.take i) c)).1∧Zav S (l.take (i+1)) c=(flX S l[i] (Zav S (l.take i) c)).2:=by
 rw[Qj h];obtain⟨h1,h2⟩:=Zgm S (l.take i) [l[i]] c;rw[h1,h2];simp[flL,Zav]
def Sm.len{x:Lt}(h:Sm x):x.at_.args.length≤305:=by have:=Tm.sz_len x.at_.args;have:=h.at_;omega
def ZrV{x:Lt}(h:Sm x)(c:Nat):(flX S x c).2≤c+305*(S.length+2)∧(flX S x c).1.length≤306:=by
 have h0:=h.at_;unfold flX;split
 ·have:=(Zdc S).2 x.at_.args c;have h2:Tm.sz.szs x.at_.args*(S.length+2)≤305*(S.length+2):=QF _ h0;simp only[Qq,Qw];omega
 ·simp
def Zi2{S:List Str}:∀{l:List Lt},(∀x∈l,Sm x)→ ∀c,Zav S l c≤c+l.length*(305*(S.length+2))∧(flL S l c).length≤l.length*306
 |[],_,c=>by simp[Zav,flL]
 |x::r,h,c=>by
  have h1:=ZrV (S:=S) (h x sm) c;have h2:=Zi2 (S:=S) (l:=r) (fun y hy=>h y (by simp[hy])) (flX S x c).2;simp only[Zav,flL,Qh,Qq,Ui,QaX];omega
def Zak(l:List Lt)(used:List Str):List Str:=ZP (ZP [] used) (l.flatMap fun x=>(YB x).flatMap ZU)
def Zke(l:List Lt)(used:List Str):flL (Zak l used) l 0=XZ l used:=by
 unfold XZ;refine Zel (fun x=>?_) l 0;rw[Zak,VG,VG];simp
end
end Go.Proofs.YtmdeagmbfhbbnaaGreatDoorR
