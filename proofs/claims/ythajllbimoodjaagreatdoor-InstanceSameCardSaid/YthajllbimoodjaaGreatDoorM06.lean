/- The examples of layer 14, run. -/
import Derived.Test.YthajllbimoodjaaGreatDoorM05
import Derived.Test.YthajllbimoodjaaGreatDoorM03
import Derived.Test.YthajllbimoodjaaGreatDoorM02
import Derived.Test.YthajllbimoodjaaGreatDoorM04
import Derived.Test.YthajllbimoodjaaGreatDoorTie
import Derived.Test.YthajllbimoodjaaGreatDoorCards
import Derived.LaidSub
import Derived.Shelf.Vars
import Derived.Deep.DeepHandedRow
import Derived.WalkKit
import Derived.ProofKit
import Derived.Stop.Joined
set_option linter.all false
set_option maxRecDepth 100000
open Go.Proofs.Tryz
noncomputable section
namespace Go.Proofs.YthajllbimoodjaaGreatDoor
open Go.Abs
def ih6(a:Stos):CodeX:=Ziv tt 4 (295,5) (Zt5 tt 4 (295,5) tbl (Zt8 4 a) 40) (hof []) 1000
def ZpY{H0:Za}{ss:Stos}(h:ZlG 4 H0 ss){φ:Fm}{N:Nat}:Jz prog 4 H0 φ 5 N (ih6 ss):=ZaL tok mixed usOK (Zn4 tok usOK tbl_ok (Zsx h) 40) dc 1000
def atm(s:UInt8)(i:Int):Am:=⟨[s],[.mk 1 i [] []]⟩
def stP:List Am:=[atm 97 1,atm 97 2,atm 98 1,atm 100 1,atm 100 2]
def stC:List Am:=[atm 100 1,atm 100 2]
def goodP:Zbn stP:=fun a h=>ZfP (Qw.1 (show stP.all Zin=true by kernel_rfl) a h)
def goodC:Zbn stC:=fun a h=>ZfP (Qw.1 (show stC.all Zin=true by kernel_rfl) a h)
theorem dst6:YX Tryz.f6.ntmps (Zz Tryz.f6)=true:=by kernel_rfl
def tmF(t:Tm):AV:=.agg [.int .u8 t.kind,.int .i64 t.num,.str t.name,.sl 4 [] .full]
def amF(a:Am):AV:=.agg [.str a.pred,.sl 4 (a.args.map tmF) .full]
def Ztb(k n:Int)(s:Bs):Ze:=.box [.int .u8 k,.int .i64 n,.str s,.sl 4 [] .full]
def tm3:LN:=[(1,.ptr 4 1 0),(2,.ptr 4 4 0),(3,.ptr 4 5 0)]
def SA:Hp:=[(1,Ztb 3 0 [88]),(4,Ztb 1 1 []),(5,Ztb 1 2 [])]
theorem segA:Zuc (ih6 []) 6 (Zz Tryz.f6) [4,5,1,2,3] [1,4,5] [] [] 0=some ((4,.sl 2 (stP.map amF) (.buf 4 11))::(5,.sl 2 (stC.map amF) (.buf 4 8))::tm3,SA.map (fun p=>(p.1,some p.2)),17):=by kernel_rfl
def tmA:LN:=[(4,.sl 2 (stP.map Am.enc) .any),(5,.sl 2 (stC.map Am.enc) .any),(1,.ptr 4 1 0),(2,.ptr 4 4 0),(3,.ptr 4 5 0)]
theorem wkA:tmA.all (fun p=>wkB 40 (lkv ((4,.sl 2 (stP.map amF) (.buf 4 11))::(5,.sl 2 (stC.map amF) (.buf 4 8))::tm3) p.1) p.2)=true:=by kernel_rfl
def tmB:LN:=[(7,.ptr 2 0 0),(8,.ptr 3 0 0),(1,.ptr 4 1 0),(2,.ptr 4 4 0),(3,.ptr 4 5 0)]
theorem finB:Zrm (ih6 [(2,0,stP),(3,0,stC)]) (Zg7 7 (Zz Tryz.f6)) 0 tmB SA 17=true:=by kernel_rfl
theorem dst7:YX Tryz.f6.ntmps (Zg7 7 (Zz Tryz.f6))=true:=by kernel_rfl
theorem sAP:(Jb sto0 stP).A=stP:=by kernel_rfl
theorem sAC:(Jb sto0 stC).A=stC:=by kernel_rfl
def aw6(H:Za)(C:Tabs H):PC prog 2 6 [] H (.bool true):=by
 refine PC.up 3 (.bool _) (ZsK tok (Zf func6 rfl rfl) sm fun B=>?_);have f:Tabs (Zeq 2 H):=by
  obtain⟨m,t,w,D,g⟩:=C;exact⟨m,t,w,by rw[Zeq,if_pos dc];exact D,by rw[Zeq,if_pos dc];exact g⟩
 have b:∀l k,2<=l->Zeq 2 H l k=none:=fun l k h=>by rw[Zeq,if_neg om]
 show AK prog ⟨none,B⟩ 5 Tryz.f6.ntmps [.code (Zz Tryz.f6)] _ ⟨[],[],Zeq 2 H⟩;refine Zsz (ZpY (H0:=Zeq 2 H) ⟨dc,f,sm⟩) dst6 segA (fun _ _ _=>rfl) ⟨fun s h=>absurd rfl h,fun s _=>b _ _ dc⟩ fun a u j r=>?_
 have d:Tabs a:=Zlm dc f u;have G:YW a 2 0:=fun k _=>(j 2 k dc).trans (b _ _ dc)
 have I:YW (put a 2 0 (Jb sto0 stP)) 3 0:=fun k _=>by rw[WQ dc];exact(j 3 k dc).trans (b _ _ dc)
 have c:Tabs (put a 2 0 (Jb sto0 stP)):=d.up fun k=>WQ dc
 show AKc ⟨prog,tt,⟨none,B⟩,5,Tryz.f6.ntmps⟩ [.code (Zg7 6 (Zz Tryz.f6))] _ ⟨_,[],a⟩;refine ZJ (s':=⟨tmA,[],a⟩) (ZsX wkA _) ?_;unfold tmA;refine nR ?_;refine call9 rfl 2 0 stP _ (show 2<5 by decide) G goodP dc (show 0<5 by decide) d rfl ?_;refine aS ?_;refine call9 rfl 3 0 stC _ (show 3<5 by decide) I goodC dc (show 0<5 by decide) c rfl ?_;refine aS ?_;refine ZJ (s':=⟨tmB,[],put (put a 2 0 (Jb sto0 stP)) 3 0 (Jb sto0 stC)⟩) (ZjF _ [7,8,1,2,3] _) ?_;have n:∀q s,q≠2->q≠3->put (put a 2 0 (Jb sto0 stP)) 3 0 (Jb sto0 stC) q s=a q s:=fun q s g F=>by rw[WQ F,WQ g]
 show AK prog ⟨none,B⟩ 5 Tryz.f6.ntmps [.code (Zg7 7 (Zz Tryz.f6))] _ ⟨tmB,[],_⟩;refine Zrn (ZpY (H0:=put (put a 2 0 (Jb sto0 stP)) 3 0 (Jb sto0 stC)) ⟨dc,c.up fun k=>WQ dc,fun e p=>?_⟩) dst7 finB (fun _ _ _=>rfl) ⟨fun s h=>(n _ _ dc dc).trans (r.blk s h),fun s h=>(n _ _ dc dc).trans (r.free s h)⟩ fun i o y z=>?_
 ·simp only[Ql,QA,or_false]at p;rcases p with rfl|rfl
  ·exact⟨dc,_,fun k x A=>by rw[WQ dc];exact Ya.put a 2 0 _ k x A,ok0.Jb goodP,sAP⟩
  ·exact⟨dc,_,Ya.put _ 3 0 _,ok0.Jb goodC,sAC⟩
 ·show PostF prog tt 5 [.tmp 0] _ .ret _;refine Zq (v:=.bool true) (by rw[show lkv (Zc.mk i [] o).tmps 0= .bool true from y];exact .refl _) (.bool _) ⟨rfl,fun l k E=>?_⟩;show o l k=H l k;rw[z l k om,n l k om om,j l k om,Zeq,if_pos E]
end Go.Proofs.YthajllbimoodjaaGreatDoor

namespace Go.Abs
structure GL where
 no:Bool
 a:Am
structure GE where
 tuple:LT
 cond:List GL
structure GBd where
 kind:Int
 lit:GL
 no:Bool
 fn:Int
 elems:List GE
 op:Int
 bound:Int
structure Ins where
 kind:Int
 heads:List Am
 lower:Int
 upper:Int
 body:List GBd
 weight:Int
 level:Int
 tuple:LT
def GL.cs(x:GL):LA:=[.bool x.no,.str x.a.pred,.sl 4 (x.a.args.map Tm.enc) .any]
def GL.enc(x:GL):AV:=.agg x.cs
def GE.cs(x:GE):LA:=[.sl 4 (x.tuple.map Tm.enc) .any,.sl 3 (x.cond.map GL.enc) .any]
def GE.enc(x:GE):AV:=.agg x.cs
def GBd.cs(x:GBd):LA:=[.int .u8 x.kind,.bool x.lit.no,.str x.lit.a.pred,.sl 4 (x.lit.a.args.map Tm.enc) .any,.bool x.no,.int .u8 x.fn,.sl 2 (x.elems.map GE.enc) .any,.int .u8 x.op,.int .i64 x.bound]
def GBd.enc(x:GBd):AV:=.agg x.cs
def Ins.cs(x:Ins):LA:=[.int .u8 x.kind,.sl 2 (x.heads.map Am.enc) .any,.int .i64 x.lower,.int .i64 x.upper,.sl 9 (x.body.map GBd.enc) .any,.int .i64 x.weight,.int .i64 x.level,.sl 4 (x.tuple.map Tm.enc) .any]
def Ins.enc(x:Ins):AV:=.agg x.cs
section
variable {n:Nat}
def GL.bcs(x:GL):ZW (fun c=>Below n c) x.cs:=⟨.bool _,.str _,ZB _,trivial⟩
def GL.blw(n:Nat)(x:GL):Below n x.enc:=Yt x.bcs.mem
variable {k:Nat}
def Zen(l:List GL):Below n (.sl k (l.map GL.enc) .any):=Zl fun x a=>by obtain⟨u,_,rfl⟩:=Qg.1 a;exact u.blw n
def GE.bcs(x:GE):ZW (fun c=>Below n c) x.cs:=⟨ZB _,Zen _,trivial⟩
def GE.blw(n:Nat)(x:GE):Below n x.enc:=Yt x.bcs.mem
def Zem(l:List GE):Below n (.sl k (l.map GE.enc) .any):=Zl fun x a=>by obtain⟨u,_,rfl⟩:=Qg.1 a;exact u.blw n
def GBd.bcs(x:GBd):ZW (fun c=>Below n c) x.cs:=⟨.int _ _,.bool _,.str _,ZB _,.bool _,.int _ _,Zem _,.int _ _,.int _ _,trivial⟩
def GBd.blw(n:Nat)(x:GBd):Below n x.enc:=Yt x.bcs.mem
def Zaz(l:List GBd):Below n (.sl k (l.map GBd.enc) .any):=Zl fun x a=>by obtain⟨u,_,rfl⟩:=Qg.1 a;exact u.blw n
def Ins.bcs(x:Ins):ZW (fun c=>Below n c) x.cs:=⟨.int _ _,Xj _,.int _ _,.int _ _,Zaz _,.int _ _,.int _ _,ZB _,trivial⟩
def Ins.blw(n:Nat)(x:Ins):Below n x.enc:=Yt x.bcs.mem
theorem GL.Yu(x:GL):x.enc.cells=[.bool x.no,.str x.a.pred,.sl 4 (x.a.args.map Tm.enc) .any]:=rfl
theorem GL.fold(x:GL):AV.agg [.bool x.no,.str x.a.pred,.sl 4 (x.a.args.map Tm.enc) .any]=x.enc:=rfl
theorem GE.Yu(x:GE):x.enc.cells=[.sl 4 (x.tuple.map Tm.enc) .any,.sl 3 (x.cond.map GL.enc) .any]:=rfl
theorem GE.fold(x:GE):AV.agg [.sl 4 (x.tuple.map Tm.enc) .any,.sl 3 (x.cond.map GL.enc) .any]=x.enc:=rfl
theorem GBd.Yu(x:GBd):x.enc.cells=[.int .u8 x.kind,.bool x.lit.no,.str x.lit.a.pred,.sl 4 (x.lit.a.args.map Tm.enc) .any,.bool x.no,.int .u8 x.fn,.sl 2 (x.elems.map GE.enc) .any,.int .u8 x.op,.int .i64 x.bound]:=rfl
theorem GBd.fold(x:GBd):AV.agg [.int .u8 x.kind,.bool x.lit.no,.str x.lit.a.pred,.sl 4 (x.lit.a.args.map Tm.enc) .any,.bool x.no,.int .u8 x.fn,.sl 2 (x.elems.map GE.enc) .any,.int .u8 x.op,.int .i64 x.bound]=x.enc:=rfl
theorem Ins.Yu(x:Ins):x.enc.cells=[.int .u8 x.kind,.sl 2 (x.heads.map Am.enc) .any,.int .i64 x.lower,.int .i64 x.upper,.sl 9 (x.body.map GBd.enc) .any,.int .i64 x.weight,.int .i64 x.level,.sl 4 (x.tuple.map Tm.enc) .any]:=rfl
theorem Ins.fold(x:Ins):AV.agg [.int .u8 x.kind,.sl 2 (x.heads.map Am.enc) .any,.int .i64 x.lower,.int .i64 x.upper,.sl 9 (x.body.map GBd.enc) .any,.int .i64 x.weight,.int .i64 x.level,.sl 4 (x.tuple.map Tm.enc) .any]=x.enc:=rfl
attribute [go_sem] GL.Yu GL.fold GL.cs GE.Yu GE.fold GE.cs GBd.Yu GBd.fold GBd.cs Ins.Yu Ins.fold Ins.cs
end
end Go.Abs

namespace Go.Proofs.YthajllbimoodjaaGreatDoor
open Go.Abs
theorem cmpT_zeroW:∀{a b:Tm},Wd a->Wd b->cmpT a b=0->a=b
 | .mk k n s l,b,ha,hb,h=>by
  have hl:∀(p q:LT),(∀u∈p,u∈l)->(∀u∈q,Wd u)->cmpT.cmps p q=0->p=q:=by
   intro p;induction p with
   |nil=>intro q _ _ h;cases q with
    |nil=>rfl
    |cons u q=>cases h
   |cons t p ih=>
    intro q c g h;cases q with
    |nil=>cases h
    |cons u q=>
     simp only[cmpT.cmps]at h;obtain⟨f,i⟩:=YC h;rw[ih q (fun v hv=>c v (Qx _ hv)) (fun v hv=>g v (Qx _ hv)) i];rw[cmpT_zeroW (a:=t) (b:=u) (ha.arg (c t sm)) (g u sm) f]
  have hk:0<=k:=ha.kind.1;have d:0<=b.kind:=hb.kind.1;have e:∀u∈b.args,Wd u:=fun u x=>hb.arg x
  rw[ZaU]at h;obtain⟨f,h⟩:=YC h;obtain⟨i,h⟩:=YC h;obtain⟨z,h⟩:=YC h;obtain⟨o,h⟩:=YC h;obtain⟨w,h⟩:=YC h;cases b with
  |mk k' n' s' l'=>
   have j:k=k':=Zg5 hk d (WO f);have y:n=n':=WO h;have m:s=s':=cmpBytes_zero o;have r:l=l':=hl l l' (fun u h=>h) e w;rw[j,y,m,r]
termination_by a=>SizeOf.sizeOf a
decreasing_by
 have:=QU (c t sm);simp only[Tm.mk.sizeOf_spec];omega
def VB(n:Int):Yh n n=0:=by unfold Yh;simp
def cmpT_same:∀a:Tm,cmpT a a=0
 | .mk k n s l=>by
  have d:∀(p:LT),(∀u∈p,u∈l)->cmpT.cmps p p=0:=by
   intro p;induction p with
   |nil=>intro _;rfl
   |cons t p ih=>
    intro b;simp only[cmpT.cmps];rw[cmpT_same t,ih fun v c=>b v (Qx _ c)];rfl
  rw[ZaU];show thn (Yh (rank k) (rank k)) (thn (if k=1 then Yh n n else 0) (thn (Yh l.length l.length) (thn (Lib.compareBytes s s) (thn (cmpT.cmps l l) (Yh n n)))))=0;rw[d l fun u h=>h,cmpBytes_self];simp only[VB,YD,ite_self]
termination_by a=>SizeOf.sizeOf a
decreasing_by
 have:=QU (b t sm);simp only[Tm.mk.sizeOf_spec];omega
def Znd{a b:Tm}(c:Wd a)(d:Wd b):(cmpT a b==0)=eqT a b:=by
 cases h:eqT a b with
 |true=>rw[(eqT_iff a b).1 h,cmpT_same];rfl
 |false=>
  have:cmpT a b≠0:=fun e=>by rw[(eqT_iff a b).2 (cmpT_zeroW c d e)]at h;cases h
  simpa using this
theorem cmps_eqL:∀{p q:LT},(∀u∈p,Wd u)->(∀u∈q,Wd u)->(cmpT.cmps p q==0)=(eqL eqT p q|| !(p.length==q.length)&&(cmpT.cmps p q==0))
 |[],[],_,_=>rfl
 |[],_::_,_,_=>by simp[cmpT.cmps,eqL]
 |_::_,[],_,_=>by simp[cmpT.cmps,eqL]
 |a::p,b::q,ha,hb=>by
  have ih:=cmps_eqL (p:=p) (q:=q) (fun u c=>ha u (Qx _ c)) fun u c=>hb u (Qx _ c)
  have d:=Znd (ha a sm) (hb b sm);have f:(thn (cmpT a b) (cmpT.cmps p q)==0)=((cmpT a b==0)&&(cmpT.cmps p q==0)):=by
   by_cases e:cmpT a b=0
   ·rw[e,YD];rfl
   ·rw[J3 e];simp[e]
  simp only[cmpT.cmps,eqL,f,d,Qm];have:(p.length+1==q.length+1)=(p.length==q.length):=sm;rw[this];cases eqT a b
  ·simp
  ·simpa using ih
def Zne{p q:LT}(a:∀u∈p,Wd u)(c:∀u∈q,Wd u)(b:p.length=q.length):(cmpT.cmps p q==0)=eqL eqT p q:=by
 have:=cmps_eqL a c;rw[b]at this;simpa using this
def Vo(x y:GL):Bool:=(x.no==y.no)&&eqA x.a y.a
def Wn(x y:GE):Bool:=eqL eqT x.tuple y.tuple&&eqL Vo x.cond y.cond
def VX(x y:GBd):Bool:=(x.kind==y.kind)&&Vo x.lit y.lit&&(x.no==y.no)&&(x.fn==y.fn)&&(x.op==y.op)&&(x.bound==y.bound)&&eqL Wn x.elems y.elems
def eqI(x y:Ins):Bool:=(x.kind==y.kind)&&eqL eqA x.heads y.heads&&(x.lower==y.lower)&&(x.upper==y.upper)&&eqL VX x.body y.body&&(x.weight==y.weight)&&(x.level==y.level)&&eqL eqT x.tuple y.tuple
theorem ZaB{b:Type}{e:b->b->Bool}(c:∀a,e a a=true):∀l:List b,eqL e l l=true
 |[]=>rfl
 |a::l=>by rw[eqL,c,ZaB c l];rfl
def ZpH(x:Ins):eqI x x=true:=by
 have b:=ZaB fun a=>(eqT_iff a a).2 rfl
 have c:∀a,eqA a a=true:=fun a=>(ZfG a a).2 rfl
 have d:∀y,Vo y y=true:=fun y=>by simp[Vo,c]
 have e:∀y,Wn y y=true:=fun y=>by simp[Wn,b,ZaB d]
 have f:∀y,VX y y=true:=fun y=>by simp[VX,d,ZaB e]
 simp[eqI,b,ZaB c,ZaB f]
structure WdE (x:GE):Prop where
 tl:x.tuple.length<=10000000000000
 t:∀u∈x.tuple,Wd u
 cl:x.cond.length<=10000000000000
 c:∀y∈x.cond,WdA y.a
structure WdB (x:GBd):Prop where
 lit:WdA x.lit.a
 el:x.elems.length<=10000000000000
 e:∀y∈x.elems,WdE y
structure WdI (x:Ins):Prop where
 hl:x.heads.length<=10000000000000
 h:∀a∈x.heads,WdA a
 bl:x.body.length<=10000000000000
 b:∀y∈x.body,WdB y
 tl:x.tuple.length<=10000000000000
 t:∀u∈x.tuple,Wd u
structure EqH {α:Type} (n:Nat) (H:Za) (f:Nat) (caps:LA) (enc:α->AV) (l m:List α) (p:α->α->Bool):Prop where
 fn:∃fn c,Fun prog f fn c
 ans:∀x∈l,∀y∈m,∀k G,n<=k->(∀l' s,l'<n->G l' s=H l' s)->PC prog k f (enc x::enc y::caps) G (.bool (p x y))
 blw:∀k,n<=k->ZW (fun c=>Below k c) caps
def ZvI(p q:LT)(f:Nat)(a:LA)(H:Za)(i:Nat):Zc:=
 ⟨[(17,.int .i64 i),(16,.int .i64 p.length),(15,.sl 4 (p.map Tm.enc) .any),(2,.fn (.func f) a),(1,.sl 4 (q.map Tm.enc) .any)],[],H⟩
def h43(p q:LT)(D:p.length<=10000000000000)(f:Nat)(a:LA)(e:Tm->Tm->Bool)(n:Nat)(H:Za)(o:EqH n H f a Tm.enc p q e):PC prog n 43 [.sl 4 (p.map Tm.enc) .any,.sl 4 (q.map Tm.enc) .any,.fn (.func f) a] H (.bool (eqL e p q)):=by
 obtain⟨⟨s,c,z⟩,o,m⟩:=o;have g:∀q,Inside n q (.fn (.func f) a):=fun q=>(Below.fn _ _ fun i w=>(m n (Qi n)).mem _ (Qa w)).inside
 have b:∀(r:LT) q,Inside n q (.sl 4 (r.map Tm.enc) .any):=fun r q=>(Zl fun x A=>by obtain⟨u,_,rfl⟩:=Qg.1 A;exact Tm.blw n u).inside
 refine aF func43 fun B=>?_
 refine nR ?_;cases l:((p.length:Int)==q.length)with
 |false=>
  refine nr ?_;simp only[go_sem,simprocAttr,bne,l];refine gi ?_;refine Zk rfl rfl ?_;refine Zb ?_ (.bool _) rfl;try simp only[go_sem,simprocAttr,Xl (nat_ne l)]
  exact .refl _
 |true=>
 have d:p.length=q.length:=nat_eq l;refine nr ?_;simp only[go_sem,simprocAttr,bne,l];refine gv ?_;repeat refine kn rfl ?_
 refine ZG (ZvI p q f a H) (fun i=>∀j (h:j<p.length),j<i->e p[j] (q[j]'om)=true) p.length rfl ?_ (fun j _ h=>absurd h (Qj _)) ?_
 ·apply kZ;repeat' first|apply q0|exact xx|apply aI
  all_goals first|exact g _|exact b _ _
 intro i w t;refine ZV rfl ?_;rcases Qd i p.length with h|h
 ·have h':i<q.length:=om;refine nq h ?_;refine nT ?_;refine nq2 (getD_map Tm.enc _ _ h) h ?_;refine nq2 (getD_map Tm.enc _ _ h') h' ?_;refine nR ?_;refine Yp (avs:=[Tm.enc p[i],Tm.enc q[i]]) rfl z (o p[i] (Qa h) q[i] (Qa h') (n+1) _ om fun E k h=>Zi h _ _ _) rfl ?_;cases v:e p[i] q[i]with
  |false=>
   refine aS ?_;refine gn ?_;refine Zb ?_ (.bool _) rfl;refine aq (YM h h' v) ?_;exact .refl _
  |true=>
   refine gI ?_;refine⟨fun j C y=>?_,?_⟩
   ·rcases Qd j i with h'|h'
    ·exact t j C h'
    ·have:j=i:=om;subst this;exact v
   ·apply kZ;repeat' first|apply q0|exact xx|apply aI
    ·refine aS ?_;rw[iw];exact .refl _
    all_goals first|exact g _|exact b _ _
 ·refine nq (QC.2 h) ?_;refine gt ?_;refine Zb ?_ (.bool _) rfl;refine aq (Xa d (fun j h h'=>t j h om)) ?_;exact .refl _
def ZvJ(p q:List GL)(f:Nat)(a:LA)(H:Za)(i:Nat):Zc:=
 ⟨[(17,.int .i64 i),(16,.int .i64 p.length),(15,.sl 3 (p.map GL.enc) .any),(2,.fn (.func f) a),(1,.sl 3 (q.map GL.enc) .any)],[],H⟩
def h45(p q:List GL)(D:p.length<=10000000000000)(f:Nat)(a:LA)(e:GL->GL->Bool)(n:Nat)(H:Za)(o:EqH n H f a GL.enc p q e):PC prog n 45 [.sl 3 (p.map GL.enc) .any,.sl 3 (q.map GL.enc) .any,.fn (.func f) a] H (.bool (eqL e p q)):=by
 obtain⟨⟨s,c,z⟩,o,m⟩:=o;have g:∀q,Inside n q (.fn (.func f) a):=fun q=>(Below.fn _ _ fun i w=>(m n (Qi n)).mem _ (Qa w)).inside
 have b:∀(r:List GL) q,Inside n q (.sl 3 (r.map GL.enc) .any):=fun r q=>(Zl fun x A=>by obtain⟨u,_,rfl⟩:=Qg.1 A;exact GL.blw n u).inside
 refine aF func45 fun B=>?_
 refine nR ?_;cases l:((p.length:Int)==q.length)with
 |false=>
  refine nr ?_;simp only[go_sem,simprocAttr,bne,l];refine gi ?_;refine Zk rfl rfl ?_;refine Zb ?_ (.bool _) rfl;try simp only[go_sem,simprocAttr,Xl (nat_ne l)]
  exact .refl _
 |true=>
 have d:p.length=q.length:=nat_eq l;refine nr ?_;simp only[go_sem,simprocAttr,bne,l];refine gv ?_;repeat refine kn rfl ?_
 refine ZG (ZvJ p q f a H) (fun i=>∀j (h:j<p.length),j<i->e p[j] (q[j]'om)=true) p.length rfl ?_ (fun j _ h=>absurd h (Qj _)) ?_
 ·apply kZ;repeat' first|apply q0|exact xx|apply aI
  all_goals first|exact g _|exact b _ _
 intro i w t;refine ZV rfl ?_;rcases Qd i p.length with h|h
 ·have h':i<q.length:=om;refine nq h ?_;refine nT ?_;refine nq2 (getD_map GL.enc _ _ h) h ?_;refine nq2 (getD_map GL.enc _ _ h') h' ?_;refine nR ?_;refine Yp (avs:=[GL.enc p[i],GL.enc q[i]]) rfl z (o p[i] (Qa h) q[i] (Qa h') (n+1) _ om fun E k h=>Zi h _ _ _) rfl ?_;cases v:e p[i] q[i]with
  |false=>
   refine aS ?_;refine gn ?_;refine Zb ?_ (.bool _) rfl;refine aq (YM h h' v) ?_;exact .refl _
  |true=>
   refine gI ?_;refine⟨fun j C y=>?_,?_⟩
   ·rcases Qd j i with h'|h'
    ·exact t j C h'
    ·have:j=i:=om;subst this;exact v
   ·apply kZ;repeat' first|apply q0|exact xx|apply aI
    ·refine aS ?_;rw[iw];exact .refl _
    all_goals first|exact g _|exact b _ _
 ·refine nq (QC.2 h) ?_;refine gt ?_;refine Zb ?_ (.bool _) rfl;refine aq (Xa d (fun j h h'=>t j h om)) ?_;exact .refl _
def ZvK(p q:List GE)(f:Nat)(a:LA)(H:Za)(i:Nat):Zc:=
 ⟨[(17,.int .i64 i),(16,.int .i64 p.length),(15,.sl 2 (p.map GE.enc) .any),(2,.fn (.func f) a),(1,.sl 2 (q.map GE.enc) .any)],[],H⟩
def h47(p q:List GE)(D:p.length<=10000000000000)(f:Nat)(a:LA)(e:GE->GE->Bool)(n:Nat)(H:Za)(o:EqH n H f a GE.enc p q e):PC prog n 47 [.sl 2 (p.map GE.enc) .any,.sl 2 (q.map GE.enc) .any,.fn (.func f) a] H (.bool (eqL e p q)):=by
 obtain⟨⟨s,c,z⟩,o,m⟩:=o;have g:∀q,Inside n q (.fn (.func f) a):=fun q=>(Below.fn _ _ fun i w=>(m n (Qi n)).mem _ (Qa w)).inside
 have b:∀(r:List GE) q,Inside n q (.sl 2 (r.map GE.enc) .any):=fun r q=>(Zl fun x A=>by obtain⟨u,_,rfl⟩:=Qg.1 A;exact GE.blw n u).inside
 refine aF func47 fun B=>?_
 refine nR ?_;cases l:((p.length:Int)==q.length)with
 |false=>
  refine nr ?_;simp only[go_sem,simprocAttr,bne,l];refine gi ?_;refine Zk rfl rfl ?_;refine Zb ?_ (.bool _) rfl;try simp only[go_sem,simprocAttr,Xl (nat_ne l)]
  exact .refl _
 |true=>
 have d:p.length=q.length:=nat_eq l;refine nr ?_;simp only[go_sem,simprocAttr,bne,l];refine gv ?_;repeat refine kn rfl ?_
 refine ZG (ZvK p q f a H) (fun i=>∀j (h:j<p.length),j<i->e p[j] (q[j]'om)=true) p.length rfl ?_ (fun j _ h=>absurd h (Qj _)) ?_
 ·apply kZ;repeat' first|apply q0|exact xx|apply aI
  all_goals first|exact g _|exact b _ _
 intro i w t;refine ZV rfl ?_;rcases Qd i p.length with h|h
 ·have h':i<q.length:=om;refine nq h ?_;refine nT ?_;refine nq2 (getD_map GE.enc _ _ h) h ?_;refine nq2 (getD_map GE.enc _ _ h') h' ?_;refine nR ?_;refine Yp (avs:=[GE.enc p[i],GE.enc q[i]]) rfl z (o p[i] (Qa h) q[i] (Qa h') (n+1) _ om fun E k h=>Zi h _ _ _) rfl ?_;cases v:e p[i] q[i]with
  |false=>
   refine aS ?_;refine gn ?_;refine Zb ?_ (.bool _) rfl;refine aq (YM h h' v) ?_;exact .refl _
  |true=>
   refine gI ?_;refine⟨fun j C y=>?_,?_⟩
   ·rcases Qd j i with h'|h'
    ·exact t j C h'
    ·have:j=i:=om;subst this;exact v
   ·apply kZ;repeat' first|apply q0|exact xx|apply aI
    ·refine aS ?_;rw[iw];exact .refl _
    all_goals first|exact g _|exact b _ _
 ·refine nq (QC.2 h) ?_;refine gt ?_;refine Zb ?_ (.bool _) rfl;refine aq (Xa d (fun j h h'=>t j h om)) ?_;exact .refl _
def ZvL(p q:List Am)(f:Nat)(a:LA)(H:Za)(i:Nat):Zc:=
 ⟨[(17,.int .i64 i),(16,.int .i64 p.length),(15,.sl 2 (p.map Am.enc) .any),(2,.fn (.func f) a),(1,.sl 2 (q.map Am.enc) .any)],[],H⟩
def h48(p q:List Am)(D:p.length<=10000000000000)(f:Nat)(a:LA)(e:Am->Am->Bool)(n:Nat)(H:Za)(o:EqH n H f a Am.enc p q e):PC prog n 48 [.sl 2 (p.map Am.enc) .any,.sl 2 (q.map Am.enc) .any,.fn (.func f) a] H (.bool (eqL e p q)):=by
 obtain⟨⟨s,c,z⟩,o,m⟩:=o;have g:∀q,Inside n q (.fn (.func f) a):=fun q=>(Below.fn _ _ fun i w=>(m n (Qi n)).mem _ (Qa w)).inside
 have b:∀(r:List Am) q,Inside n q (.sl 2 (r.map Am.enc) .any):=fun r q=>(Zl fun x A=>by obtain⟨u,_,rfl⟩:=Qg.1 A;exact Am.blw n u).inside
 refine aF func48 fun B=>?_
 refine nR ?_;cases l:((p.length:Int)==q.length)with
 |false=>
  refine nr ?_;simp only[go_sem,simprocAttr,bne,l];refine gi ?_;refine Zk rfl rfl ?_;refine Zb ?_ (.bool _) rfl;try simp only[go_sem,simprocAttr,Xl (nat_ne l)]
  exact .refl _
 |true=>
 have d:p.length=q.length:=nat_eq l;refine nr ?_;simp only[go_sem,simprocAttr,bne,l];refine gv ?_;repeat refine kn rfl ?_
 refine ZG (ZvL p q f a H) (fun i=>∀j (h:j<p.length),j<i->e p[j] (q[j]'om)=true) p.length rfl ?_ (fun j _ h=>absurd h (Qj _)) ?_
 ·apply kZ;repeat' first|apply q0|exact xx|apply aI
  all_goals first|exact g _|exact b _ _
 intro i w t;refine ZV rfl ?_;rcases Qd i p.length with h|h
 ·have h':i<q.length:=om;refine nq h ?_;refine nT ?_;refine nq2 (getD_map Am.enc _ _ h) h ?_;refine nq2 (getD_map Am.enc _ _ h') h' ?_;refine nR ?_;refine Yp (avs:=[Am.enc p[i],Am.enc q[i]]) rfl z (o p[i] (Qa h) q[i] (Qa h') (n+1) _ om fun E k h=>Zi h _ _ _) rfl ?_;cases v:e p[i] q[i]with
  |false=>
   refine aS ?_;refine gn ?_;refine Zb ?_ (.bool _) rfl;refine aq (YM h h' v) ?_;exact .refl _
  |true=>
   refine gI ?_;refine⟨fun j C y=>?_,?_⟩
   ·rcases Qd j i with h'|h'
    ·exact t j C h'
    ·have:j=i:=om;subst this;exact v
   ·apply kZ;repeat' first|apply q0|exact xx|apply aI
    ·refine aS ?_;rw[iw];exact .refl _
    all_goals first|exact g _|exact b _ _
 ·refine nq (QC.2 h) ?_;refine gt ?_;refine Zb ?_ (.bool _) rfl;refine aq (Xa d (fun j h h'=>t j h om)) ?_;exact .refl _
def ZvM(p q:List GBd)(f:Nat)(a:LA)(H:Za)(i:Nat):Zc:=
 ⟨[(17,.int .i64 i),(16,.int .i64 p.length),(15,.sl 9 (p.map GBd.enc) .any),(2,.fn (.func f) a),(1,.sl 9 (q.map GBd.enc) .any)],[],H⟩
def h49(p q:List GBd)(D:p.length<=10000000000000)(f:Nat)(a:LA)(e:GBd->GBd->Bool)(n:Nat)(H:Za)(o:EqH n H f a GBd.enc p q e):PC prog n 49 [.sl 9 (p.map GBd.enc) .any,.sl 9 (q.map GBd.enc) .any,.fn (.func f) a] H (.bool (eqL e p q)):=by
 obtain⟨⟨s,c,z⟩,o,m⟩:=o;have g:∀q,Inside n q (.fn (.func f) a):=fun q=>(Below.fn _ _ fun i w=>(m n (Qi n)).mem _ (Qa w)).inside
 have b:∀(r:List GBd) q,Inside n q (.sl 9 (r.map GBd.enc) .any):=fun r q=>(Zl fun x A=>by obtain⟨u,_,rfl⟩:=Qg.1 A;exact GBd.blw n u).inside
 refine aF func49 fun B=>?_
 refine nR ?_;cases l:((p.length:Int)==q.length)with
 |false=>
  refine nr ?_;simp only[go_sem,simprocAttr,bne,l];refine gi ?_;refine Zk rfl rfl ?_;refine Zb ?_ (.bool _) rfl;try simp only[go_sem,simprocAttr,Xl (nat_ne l)]
  exact .refl _
 |true=>
 have d:p.length=q.length:=nat_eq l;refine nr ?_;simp only[go_sem,simprocAttr,bne,l];refine gv ?_;repeat refine kn rfl ?_
 refine ZG (ZvM p q f a H) (fun i=>∀j (h:j<p.length),j<i->e p[j] (q[j]'om)=true) p.length rfl ?_ (fun j _ h=>absurd h (Qj _)) ?_
 ·apply kZ;repeat' first|apply q0|exact xx|apply aI
  all_goals first|exact g _|exact b _ _
 intro i w t;refine ZV rfl ?_;rcases Qd i p.length with h|h
 ·have h':i<q.length:=om;refine nq h ?_;refine nT ?_;refine nq2 (getD_map GBd.enc _ _ h) h ?_;refine nq2 (getD_map GBd.enc _ _ h') h' ?_;refine nR ?_;refine Yp (avs:=[GBd.enc p[i],GBd.enc q[i]]) rfl z (o p[i] (Qa h) q[i] (Qa h') (n+1) _ om fun E k h=>Zi h _ _ _) rfl ?_;cases v:e p[i] q[i]with
  |false=>
   refine aS ?_;refine gn ?_;refine Zb ?_ (.bool _) rfl;refine aq (YM h h' v) ?_;exact .refl _
  |true=>
   refine gI ?_;refine⟨fun j C y=>?_,?_⟩
   ·rcases Qd j i with h'|h'
    ·exact t j C h'
    ·have:j=i:=om;subst this;exact v
   ·apply kZ;repeat' first|apply q0|exact xx|apply aI
    ·refine aS ?_;rw[iw];exact .refl _
    all_goals first|exact g _|exact b _ _
 ·refine nq (QC.2 h) ?_;refine gt ?_;refine Zb ?_ (.bool _) rfl;refine aq (Xa d (fun j h h'=>t j h om)) ?_;exact .refl _
section
variable {H:Za} {n:Nat}
def Ztn{p q:LT}(a:∀u∈p,Wd u)(b:∀u∈q,Wd u):EqH n H 44 [] Tm.enc p q eqT:=
 ⟨⟨_,_,Zf func44 rfl rfl⟩,fun x d y c k G _ _=>Znd (a x d) (b y c)▸ZuV x y (a x d) (b y c) k G,fun _ _=>trivial⟩
def ZuL(a b:Am)(d:WdA a)(g:WdA b):Pure prog 41 [a.enc,b.enc] (.bool (eqA a b)):=by
 intro n H;have e:eqA a b=((a.pred==b.pred)&&eqL eqT a.args b.args):=by rw[eqA,eqs_eqL]
 have f:=d.len;refine aF func41 fun B=>?_
 refine nR ?_;cases c:(a.pred==b.pred)with
 |false=>
  refine nq c ?_;refine Zk rfl rfl ?_;refine Zb ?_ (.bool _) rfl;try simp only[go_sem,simprocAttr,e,c]
  exact .refl _
 |true=>
  refine nq c ?_;refine cQ (h43 a.args b.args f 44 [] eqT (n+1) _ (Ztn d.arg g.arg)) ?_;refine aS ?_;refine Zk rfl rfl ?_;refine Zb ?_ (.bool _) rfl;try simp only[go_sem,simprocAttr,e,c]
  exact .refl _
def Zwy{p q:List Am}(a:∀u∈p,WdA u)(b:∀u∈q,WdA u):EqH n H 41 [] Am.enc p q eqA:=
 ⟨⟨_,_,Zf func41 rfl rfl⟩,fun x d y c k G _ _=>ZuL x y (a x d) (b y c) k G,fun _ _=>trivial⟩
def ZuK(x y:GL)(c:WdA x.a)(e:WdA y.a):Pure prog 40 [x.enc,y.enc] (.bool (Vo x y)):=by
 intro n H;have d:Vo x y=((x.no==y.no)&&eqA x.a y.a):=rfl;refine aF func40 fun B=>?_
 refine nR ?_;cases b:(x.no==y.no)with
 |false=>
  refine nq b ?_;refine Zk rfl rfl ?_;refine Zb ?_ (.bool _) rfl;try simp only[go_sem,simprocAttr,d,b]
  exact .refl _
 |true=>
  refine nq b ?_;refine cP (ZuL x.a y.a c e) ?_;refine Zk rfl rfl ?_;refine Zb ?_ (.bool _) rfl;try simp only[go_sem,simprocAttr,d,b]
  exact .refl _
def ZwB{p q:List GL}(b:∀u∈p,WdA u.a)(c:∀u∈q,WdA u.a):EqH n H 40 [] GL.enc p q Vo:=
 ⟨⟨_,_,Zf func40 rfl rfl⟩,fun x e y d k G _ _=>ZuK x y (b x e) (c y d) k G,fun _ _=>trivial⟩
def Zww(x y:GE)(a:WdE x)(e:WdE y)(n:Nat)(H:Za)(l j:Nat)(h:l<n)(g:H l j=some (.box [.fn (.func 40) []])):PC prog n 42 [x.enc,y.enc,.ptr l j 0] H (.bool (Wn x y)):=by
 have d:¬l=n:=om;have f:Wn x y=(eqL eqT x.tuple y.tuple&&eqL Vo x.cond y.cond):=rfl;refine aF func42 fun B=>?_
 refine gc ?_;refine cQ (h43 x.tuple y.tuple a.tl 44 [] eqT (n+1) _ (Ztn a.t e.t)) ?_;cases b:eqL eqT x.tuple y.tuple with
 |false=>
  refine aq b ?_;refine Zk rfl rfl ?_;refine Zb ?_ (.bool _) rfl;try simp only[go_sem,simprocAttr,f,b]
  exact .refl _
 |true=>
  simp only[go_sem,simprocAttr,b,d,g];refine cQ (h45 x.cond y.cond a.cl 40 [] Vo (n+1) _ (ZwB a.c e.c)) ?_;refine aS ?_;refine Zk rfl rfl ?_;refine Zb ?_ (.bool _) rfl;try simp only[go_sem,simprocAttr,f,b]
  exact .refl _
def ZwA{l j:Nat}(d:l<n)(f:H l j=some (.box [.fn (.func 40) []])){p q:List GE}(a:∀u∈p,WdE u)(c:∀u∈q,WdE u):EqH n H 42 [.ptr l j 0] GE.enc p q Wn:=
 ⟨⟨_,_,Zf func42 rfl rfl⟩,fun x h y e k G b g=>Zww x y (a x h) (c y e) k G l j om ((g l j d).trans f),fun k b=>⟨.ptr _ _ _ (show l<k by omega),trivial⟩⟩
def Zwx(x y:GBd)(m:WdB x)(q:WdB y)(n:Nat)(H:Za)(l j r:Nat)(s:l<n)(h:H l j=some (.box [.fn (.func 40) []]))(b:H l r=some (.box [.fn (.func 42) [.ptr l j 0]])):PC prog n 46 [x.enc,y.enc,.ptr l j 0,.ptr l r 0] H (.bool (VX x y)):=by
 have a:¬l=n:=om;have k:VX x y=((x.kind==y.kind)&&Vo x.lit y.lit&&(x.no==y.no)&&(x.fn==y.fn)&&(x.op==y.op)&&(x.bound==y.bound)&&eqL Wn x.elems y.elems):=rfl;refine aF func46 fun B=>?_
 refine nR ?_;cases c:(x.kind==y.kind)with
 |false=>
  refine nq4 c a h b ?_;refine Zk rfl rfl ?_;refine Zb ?_ (.bool _) rfl;try simp only[go_sem,simprocAttr,k,c]
  exact .refl _
 |true=>
 refine nq4 c a h b ?_;refine Yp (avs:=[x.lit.enc,y.lit.enc]) rfl (Zf func40 rfl rfl) (ZuK x.lit y.lit m.lit q.lit (n+1) _) sS ?_;cases d:Vo x.lit y.lit with
 |false=>
  simp only[go_sem,simprocAttr,c,d,a,h,b];refine Zk rfl rfl ?_;refine Zb ?_ (.bool _) rfl;try simp only[go_sem,simprocAttr,k,c,d]
  exact .refl _
 |true=>
 cases f:(x.no==y.no)with
 |false=>
  simp only[go_sem,simprocAttr,c,d,f,a,h,b];refine Zk rfl rfl ?_;refine Zb ?_ (.bool _) rfl;try simp only[go_sem,simprocAttr,k,c,d,f]
  exact .refl _
 |true=>
 cases g:(x.fn==y.fn)with
 |false=>
  simp only[go_sem,simprocAttr,c,d,f,g,a,h,b];refine Zk rfl rfl ?_;refine Zb ?_ (.bool _) rfl;try simp only[go_sem,simprocAttr,k,c,d,f,g]
  exact .refl _
 |true=>
 cases i:(x.op==y.op)with
 |false=>
  simp only[go_sem,simprocAttr,c,d,f,g,i,a,h,b];refine Zk rfl rfl ?_;refine Zb ?_ (.bool _) rfl;try simp only[go_sem,simprocAttr,k,c,d,f,g,i]
  exact .refl _
 |true=>
 cases o:(x.bound==y.bound)with
 |false=>
  simp only[go_sem,simprocAttr,c,d,f,g,i,o,a,h,b];refine Zk rfl rfl ?_;refine Zb ?_ (.bool _) rfl;try simp only[go_sem,simprocAttr,k,c,d,f,g,i,o]
  exact .refl _
 |true=>
 simp only[go_sem,simprocAttr,c,d,f,g,i,o,a,h,b];refine cQ (h47 x.elems y.elems m.el 42 [.ptr l j 0] Wn (n+1) _ (ZwA om ((Zi s _ _ _).trans h) m.e q.e)) ?_;cases p:eqL Wn x.elems y.elems with
 |false=>
  simp only[go_sem,simprocAttr,c,d,f,g,i,o,p,a,h,b];refine Zk rfl rfl ?_;refine Zb ?_ (.bool _) rfl;try simp only[go_sem,simprocAttr,k,c,d,f,g,i,o,p]
  exact .refl _
 |true=>
  simp only[go_sem,simprocAttr,c,d,f,g,i,o,p,a,h,b];refine Zk rfl rfl ?_;refine Zb ?_ (.bool _) rfl;try simp only[go_sem,simprocAttr,k,c,d,f,g,i,o,p]
  exact .refl _
def Zwz{l j j2:Nat}(hl:l<n)(f:H l j=some (.box [.fn (.func 40) []]))(a:H l j2=some (.box [.fn (.func 42) [.ptr l j 0]])){p q:List GBd}(c:∀u∈p,WdB u)(d:∀u∈q,WdB u):EqH n H 46 [.ptr l j 0,.ptr l j2 0] GBd.enc p q VX:=
 ⟨⟨_,_,Zf func46 rfl rfl⟩,fun x hx y e k G hk b=>Zwx x y (c x hx) (d y e) k G l j j2 om ((b l j hl).trans f) ((b l j2 hl).trans a),fun k hk=>⟨.ptr _ _ _ (show l<k by omega),.ptr _ _ _ (show l<k by omega),trivial⟩⟩
def Ztm(a b:Ins)(o:WdI a)(q:WdI b):Pure prog 12 [a.enc,b.enc] (.bool (eqI a b)):=by
 intro n H;have k:eqI a b=((a.kind==b.kind)&&eqL eqA a.heads b.heads&&(a.lower==b.lower)&&(a.upper==b.upper)&&eqL VX a.body b.body&&(a.weight==b.weight)&&(a.level==b.level)&&eqL eqT a.tuple b.tuple):=rfl;refine aF func12 fun B=>?_
 refine gc ?_;refine gc ?_;cases c:(a.kind==b.kind)with
 |false=>
  refine nq c ?_;refine Zk rfl rfl ?_;refine Zb ?_ (.bool _) rfl;try simp only[go_sem,simprocAttr,k,c]
  exact .refl _
 |true=>
 refine nq c ?_;refine cQ (h48 a.heads b.heads o.hl 41 [] eqA (n+1) _ (Zwy o.h q.h)) ?_;cases d:eqL eqA a.heads b.heads with
 |false=>
  refine aq2 c d ?_;refine Zk rfl rfl ?_;refine Zb ?_ (.bool _) rfl;try simp only[go_sem,simprocAttr,k,c,d]
  exact .refl _
 |true=>
 cases e:(a.lower==b.lower)with
 |false=>
  simp only[go_sem,simprocAttr,c,d,e];refine Zk rfl rfl ?_;refine Zb ?_ (.bool _) rfl;try simp only[go_sem,simprocAttr,k,c,d,e]
  exact .refl _
 |true=>
 cases f:(a.upper==b.upper)with
 |false=>
  simp only[go_sem,simprocAttr,c,d,e,f];refine Zk rfl rfl ?_;refine Zb ?_ (.bool _) rfl;try simp only[go_sem,simprocAttr,k,c,d,e,f]
  exact .refl _
 |true=>
 simp only[go_sem,simprocAttr,c,d,e,f];refine cQ (h49 a.body b.body o.bl 46 [.ptr n 5 0,.ptr n 6 0] VX (n+1) _ (Zwz (l:=n) (j:=5) (j2:=6) om (by simp[full,lkb]) (by simp[full,lkb]) o.b q.b)) ?_;cases g:eqL VX a.body b.body with
 |false=>
  simp only[go_sem,simprocAttr,c,d,e,f,g];refine Zk rfl rfl ?_;refine Zb ?_ (.bool _) rfl;try simp only[go_sem,simprocAttr,k,c,d,e,f,g]
  exact .refl _
 |true=>
 cases i:(a.weight==b.weight)with
 |false=>
  simp only[go_sem,simprocAttr,c,d,e,f,g,i];refine Zk rfl rfl ?_;refine Zb ?_ (.bool _) rfl;try simp only[go_sem,simprocAttr,k,c,d,e,f,g,i]
  exact .refl _
 |true=>
 cases m:(a.level==b.level)with
 |false=>
  simp only[go_sem,simprocAttr,c,d,e,f,g,i,m];refine Zk rfl rfl ?_;refine Zb ?_ (.bool _) rfl;try simp only[go_sem,simprocAttr,k,c,d,e,f,g,i,m]
  exact .refl _
 |true=>
 simp only[go_sem,simprocAttr,c,d,e,f,g,i,m];refine cQ (h43 a.tuple b.tuple o.tl 44 [] eqT (n+1) _ (Ztn o.t q.t)) ?_;cases p:eqL eqT a.tuple b.tuple with
 |false=>
  simp only[go_sem,simprocAttr,c,d,e,f,g,i,m,p];refine Zk rfl rfl ?_;refine Zb ?_ (.bool _) rfl;try simp only[go_sem,simprocAttr,k,c,d,e,f,g,i,m,p]
  exact .refl _
 |true=>
  simp only[go_sem,simprocAttr,c,d,e,f,g,i,m,p];refine Zk rfl rfl ?_;refine Zb ?_ (.bool _) rfl;try simp only[go_sem,simprocAttr,k,c,d,e,f,g,i,m,p]
  exact .refl _
end
def ZvQ(p q:List Am)(H:Za)(i:Nat):Zc:=
 ⟨[(5,.int .i64 i),(0,.sl 2 (p.map Am.enc) .any),(1,.sl 2 (q.map Am.enc) .any)],[],H⟩
def e53(p q:List Am)(m:p.length<=10000000000000)(k:∀x∈p,∀y∈q,Pure prog 11 [x.enc,y.enc] (.bool (eqA x y))):Pure prog 53 [.sl 2 (p.map Am.enc) .any,.sl 2 (q.map Am.enc) .any] (.bool (eqL eqA p q)):=by
 intro n H;have a:∀(r:List Am) q,Inside n q (.sl 2 (r.map Am.enc) .any):=fun r q=>(Zl fun x l=>by obtain⟨u,_,rfl⟩:=Qg.1 l;exact Am.blw n u).inside
 refine aF func53 fun B=>?_
 refine nR ?_;cases c:((p.length:Int)==q.length)with
 |false=>
  refine nr ?_;simp only[go_sem,simprocAttr,bne,c];refine gi ?_;refine Zk rfl rfl ?_;refine Zb ?_ (.bool _) rfl;try simp only[go_sem,simprocAttr,Xl (nat_ne c)]
  exact .refl _
 |true=>
 have b:p.length=q.length:=nat_eq c;refine nr ?_;simp only[go_sem,simprocAttr,bne,c];refine gv ?_;repeat refine kn rfl ?_
 refine ZG (ZvQ p q H) (fun i=>∀j (h:j<p.length),j<i->eqA p[j] (q[j]'om)=true) p.length rfl ?_ (fun j _ h=>absurd h (Qj _)) ?_
 ·apply kZ;repeat' first|apply q0|exact xx|apply aI
  all_goals first|exact a _ _|skip
 intro i o e;refine ZV rfl ?_;rcases Qd i p.length with h|h
 ·have h':i<q.length:=om;refine nq h ?_;refine nT ?_;refine dq4 (getD_map Am.enc _ _ h) h (getD_map Am.enc _ _ h') h' ?_;refine XY (Zf func11 rfl rfl) (k _ (Qa h) _ (Qa h')) rfl ?_;refine aS ?_;cases d:eqA p[i] q[i]with
  |false=>
   refine nTq d ?_;refine nR ?_;refine nW ?_;refine Zb ?_ (.bool _) rfl;refine aq (YM h h' d) ?_;exact .refl _
  |true=>
   refine nFq d ?_;refine gd ?_;refine⟨fun j f g=>?_,?_⟩
   ·rcases Qd j i with h'|h'
    ·exact e j f h'
    ·have:j=i:=om;subst this;exact d
   ·apply kZ;repeat' first|apply q0|exact xx|apply aI
    all_goals first|exact a _ _|skip
    refine aS ?_;rw[iw];exact .refl _
 ·refine nq (QC.2 h) ?_;refine gt ?_;refine Zb ?_ (.bool _) rfl;refine aq (Xa b (fun j h h'=>e j h om)) ?_;exact .refl _
def ZtV(p q:List GL)(H:Za)(i:Nat):Zc:=
 ⟨[(5,.int .i64 i),(0,.sl 3 (p.map GL.enc) .any),(1,.sl 3 (q.map GL.enc) .any)],[],H⟩
def Zwv(p q:List GL)(m:p.length<=10000000000000)(k:∀x∈p,∀y∈q,Pure prog 225 [x.enc,y.enc] (.bool (Vo x y))):Pure prog 359 [.sl 3 (p.map GL.enc) .any,.sl 3 (q.map GL.enc) .any] (.bool (eqL Vo p q)):=by
 intro n H;have a:∀(r:List GL) q,Inside n q (.sl 3 (r.map GL.enc) .any):=fun r q=>(Zl fun x l=>by obtain⟨u,_,rfl⟩:=Qg.1 l;exact GL.blw n u).inside
 refine aF func359 fun B=>?_
 refine nR ?_;cases c:((p.length:Int)==q.length)with
 |false=>
  refine nr ?_;simp only[go_sem,simprocAttr,bne,c];refine gi ?_;refine Zk rfl rfl ?_;refine Zb ?_ (.bool _) rfl;try simp only[go_sem,simprocAttr,Xl (nat_ne c)]
  exact .refl _
 |true=>
 have b:p.length=q.length:=nat_eq c;refine nr ?_;simp only[go_sem,simprocAttr,bne,c];refine gv ?_;repeat refine kn rfl ?_
 refine ZG (ZtV p q H) (fun i=>∀j (h:j<p.length),j<i->Vo p[j] (q[j]'om)=true) p.length rfl ?_ (fun j _ h=>absurd h (Qj _)) ?_
 ·apply kZ;repeat' first|apply q0|exact xx|apply aI
  all_goals first|exact a _ _|skip
 intro i o e;refine ZV rfl ?_;rcases Qd i p.length with h|h
 ·have h':i<q.length:=om;refine nq h ?_;refine nT ?_;refine dq4 (getD_map GL.enc _ _ h) h (getD_map GL.enc _ _ h') h' ?_;refine XY (Zf func225 rfl rfl) (k _ (Qa h) _ (Qa h')) rfl ?_;refine aS ?_;cases d:Vo p[i] q[i]with
  |false=>
   refine nTq d ?_;refine nR ?_;refine nW ?_;refine Zb ?_ (.bool _) rfl;refine aq (YM h h' d) ?_;exact .refl _
  |true=>
   refine nFq d ?_;refine gd ?_;refine⟨fun j f g=>?_,?_⟩
   ·rcases Qd j i with h'|h'
    ·exact e j f h'
    ·have:j=i:=om;subst this;exact d
   ·apply kZ;repeat' first|apply q0|exact xx|apply aI
    all_goals first|exact a _ _|skip
    refine aS ?_;rw[iw];exact .refl _
 ·refine nq (QC.2 h) ?_;refine gt ?_;refine Zb ?_ (.bool _) rfl;refine aq (Xa b (fun j h h'=>e j h om)) ?_;exact .refl _
def ZtU(p q:List GE)(H:Za)(i:Nat):Zc:=
 ⟨[(5,.int .i64 i),(0,.sl 2 (p.map GE.enc) .any),(1,.sl 2 (q.map GE.enc) .any)],[],H⟩
def e226(p q:List GE)(m:p.length<=10000000000000)(k:∀x∈p,∀y∈q,Pure prog 292 [x.enc,y.enc] (.bool (Wn x y))):Pure prog 226 [.sl 2 (p.map GE.enc) .any,.sl 2 (q.map GE.enc) .any] (.bool (eqL Wn p q)):=by
 intro n H;have a:∀(r:List GE) q,Inside n q (.sl 2 (r.map GE.enc) .any):=fun r q=>(Zl fun x l=>by obtain⟨u,_,rfl⟩:=Qg.1 l;exact GE.blw n u).inside
 refine aF func226 fun B=>?_
 refine nR ?_;cases c:((p.length:Int)==q.length)with
 |false=>
  refine nr ?_;simp only[go_sem,simprocAttr,bne,c];refine gi ?_;refine Zk rfl rfl ?_;refine Zb ?_ (.bool _) rfl;try simp only[go_sem,simprocAttr,Xl (nat_ne c)]
  exact .refl _
 |true=>
 have b:p.length=q.length:=nat_eq c;refine nr ?_;simp only[go_sem,simprocAttr,bne,c];refine gv ?_;repeat refine kn rfl ?_
 refine ZG (ZtU p q H) (fun i=>∀j (h:j<p.length),j<i->Wn p[j] (q[j]'om)=true) p.length rfl ?_ (fun j _ h=>absurd h (Qj _)) ?_
 ·apply kZ;repeat' first|apply q0|exact xx|apply aI
  all_goals first|exact a _ _|skip
 intro i o e;refine ZV rfl ?_;rcases Qd i p.length with h|h
 ·have h':i<q.length:=om;refine nq h ?_;refine nT ?_;refine dq4 (getD_map GE.enc _ _ h) h (getD_map GE.enc _ _ h') h' ?_;refine XY (Zf func292 rfl rfl) (k _ (Qa h) _ (Qa h')) rfl ?_;refine aS ?_;cases d:Wn p[i] q[i]with
  |false=>
   refine nTq d ?_;refine nR ?_;refine nW ?_;refine Zb ?_ (.bool _) rfl;refine aq (YM h h' d) ?_;exact .refl _
  |true=>
   refine nFq d ?_;refine gd ?_;refine⟨fun j f g=>?_,?_⟩
   ·rcases Qd j i with h'|h'
    ·exact e j f h'
    ·have:j=i:=om;subst this;exact d
   ·apply kZ;repeat' first|apply q0|exact xx|apply aI
    all_goals first|exact a _ _|skip
    refine aS ?_;rw[iw];exact .refl _
 ·refine nq (QC.2 h) ?_;refine gt ?_;refine Zb ?_ (.bool _) rfl;refine aq (Xa b (fun j h h'=>e j h om)) ?_;exact .refl _
def ZvR(p q:List GBd)(H:Za)(i:Nat):Zc:=
 ⟨[(5,.int .i64 i),(0,.sl 9 (p.map GBd.enc) .any),(1,.sl 9 (q.map GBd.enc) .any)],[],H⟩
def e54(p q:List GBd)(m:p.length<=10000000000000)(k:∀x∈p,∀y∈q,Pure prog 136 [x.enc,y.enc] (.bool (VX x y))):Pure prog 54 [.sl 9 (p.map GBd.enc) .any,.sl 9 (q.map GBd.enc) .any] (.bool (eqL VX p q)):=by
 intro n H;have a:∀(r:List GBd) q,Inside n q (.sl 9 (r.map GBd.enc) .any):=fun r q=>(Zl fun x l=>by obtain⟨u,_,rfl⟩:=Qg.1 l;exact GBd.blw n u).inside
 refine aF func54 fun B=>?_
 refine nR ?_;cases c:((p.length:Int)==q.length)with
 |false=>
  refine nr ?_;simp only[go_sem,simprocAttr,bne,c];refine gi ?_;refine Zk rfl rfl ?_;refine Zb ?_ (.bool _) rfl;try simp only[go_sem,simprocAttr,Xl (nat_ne c)]
  exact .refl _
 |true=>
 have b:p.length=q.length:=nat_eq c;refine nr ?_;simp only[go_sem,simprocAttr,bne,c];refine gv ?_;repeat refine kn rfl ?_
 refine ZG (ZvR p q H) (fun i=>∀j (h:j<p.length),j<i->VX p[j] (q[j]'om)=true) p.length rfl ?_ (fun j _ h=>absurd h (Qj _)) ?_
 ·apply kZ;repeat' first|apply q0|exact xx|apply aI
  all_goals first|exact a _ _|skip
 intro i o e;refine ZV rfl ?_;rcases Qd i p.length with h|h
 ·have h':i<q.length:=om;refine nq h ?_;refine nT ?_;refine dq4 (getD_map GBd.enc _ _ h) h (getD_map GBd.enc _ _ h') h' ?_;refine XY (Zf func136 rfl rfl) (k _ (Qa h) _ (Qa h')) rfl ?_;refine aS ?_;cases d:VX p[i] q[i]with
  |false=>
   refine nTq d ?_;refine nR ?_;refine nW ?_;refine Zb ?_ (.bool _) rfl;refine aq (YM h h' d) ?_;exact .refl _
  |true=>
   refine nFq d ?_;refine gd ?_;refine⟨fun j f g=>?_,?_⟩
   ·rcases Qd j i with h'|h'
    ·exact e j f h'
    ·have:j=i:=om;subst this;exact d
   ·apply kZ;repeat' first|apply q0|exact xx|apply aI
    all_goals first|exact a _ _|skip
    refine aS ?_;rw[iw];exact .refl _
 ·refine nq (QC.2 h) ?_;refine gt ?_;refine Zb ?_ (.bool _) rfl;refine aq (Xa b (fun j h h'=>e j h om)) ?_;exact .refl _
def ZuH(x y:GL)(d:WdA x.a):Pure prog 225 [x.enc,y.enc] (.bool (Vo x y)):=by
 intro n H;have e:Vo x y=((x.no==y.no)&&eqA x.a y.a):=rfl;refine aF func225 fun B=>?_
 refine nR ?_;cases b:(x.no==y.no)with
 |false=>
  refine nq b ?_;refine Zk rfl rfl ?_;refine Zb ?_ (.bool _) rfl;try simp only[go_sem,simprocAttr,e,b]
  exact .refl _
 |true=>
 refine nq b ?_;refine XY (Zf func11 rfl rfl) (Zuv x.a y.a d) sS ?_;cases c:eqA x.a y.a with
 |false=>
  refine aq2 b c ?_;refine Zk rfl rfl ?_;refine Zb ?_ (.bool _) rfl;try simp only[go_sem,simprocAttr,e,b,c]
  exact .refl _
 |true=>
  refine aq2 b c ?_;refine Zk rfl rfl ?_;refine Zb ?_ (.bool _) rfl;try simp only[go_sem,simprocAttr,e,b,c]
  exact .refl _
def Zwu(x y:GE)(a:WdE x):Pure prog 292 [x.enc,y.enc] (.bool (Wn x y)):=by
 intro n H;have f:Wn x y=(eqL eqT x.tuple y.tuple&&eqL Vo x.cond y.cond):=rfl;refine aF func292 fun B=>?_
 refine nR ?_;refine nr ?_;refine aS ?_;refine XY (Zf func39 rfl rfl) (Zru x.tuple y.tuple a.tl (fun u e v _=>Zrv u v (a.t u e))) sS ?_;cases b:eqL eqT x.tuple y.tuple with
 |false=>
  refine aq b ?_;refine Zk rfl rfl ?_;refine Zb ?_ (.bool _) rfl;try simp only[go_sem,simprocAttr,f,b]
  exact .refl _
 |true=>
 refine aq b ?_;refine XY (Zf func359 rfl rfl) (Zwv x.cond y.cond a.cl (fun u e v _=>ZuH u v (a.c u e))) sS ?_;cases d:eqL Vo x.cond y.cond with
 |false=>
  refine aq2 b d ?_;refine Zk rfl rfl ?_;refine Zb ?_ (.bool _) rfl;try simp only[go_sem,simprocAttr,f,b,d]
  exact .refl _
 |true=>
  refine aq2 b d ?_;refine Zk rfl rfl ?_;refine Zb ?_ (.bool _) rfl;try simp only[go_sem,simprocAttr,f,b,d]
  exact .refl _
def Zwk(x y:GBd)(h:WdB x):Pure prog 136 [x.enc,y.enc] (.bool (VX x y)):=by
 intro n H;have g:VX x y=((x.kind==y.kind)&&Vo x.lit y.lit&&(x.no==y.no)&&(x.fn==y.fn)&&(x.op==y.op)&&(x.bound==y.bound)&&eqL Wn x.elems y.elems):=rfl;refine aF func136 fun B=>?_
 refine nR ?_;cases a:(x.kind==y.kind)with
 |false=>
  refine nq a ?_;refine Zk rfl rfl ?_;refine Zb ?_ (.bool _) rfl;try simp only[go_sem,simprocAttr,QY,Uf,QW,g,a]
  exact .refl _
 |true=>
 refine nq a ?_;refine XY (Zf func225 rfl rfl) (ZuH x.lit y.lit h.lit) sS ?_;cases b:Vo x.lit y.lit with
 |false=>
  refine aq2 a b ?_;refine Zk rfl rfl ?_;refine Zb ?_ (.bool _) rfl;try simp only[go_sem,simprocAttr,QY,Uf,QW,g,a,b]
  exact .refl _
 |true=>
 cases c:(x.no==y.no)with
 |false=>
  simp only[go_sem,simprocAttr,a,b,c];refine Zk rfl rfl ?_;refine Zb ?_ (.bool _) rfl;try simp only[go_sem,simprocAttr,QY,Uf,QW,g,a,b,c]
  exact .refl _
 |true=>
 cases d:(x.fn==y.fn)with
 |false=>
  simp only[go_sem,simprocAttr,a,b,c,d];refine Zk rfl rfl ?_;refine Zb ?_ (.bool _) rfl;try simp only[go_sem,simprocAttr,QY,Uf,QW,g,a,b,c,d]
  exact .refl _
 |true=>
 simp only[go_sem,simprocAttr,a,b,c,d];refine XY (Zf func226 rfl rfl) (e226 x.elems y.elems h.el (fun u k v _=>Zwu u v (h.e u k))) sS ?_;cases f:eqL Wn x.elems y.elems with
 |false=>
  simp only[go_sem,simprocAttr,a,b,c,d,f];refine Zk rfl rfl ?_;refine Zb ?_ (.bool _) rfl;try simp only[go_sem,simprocAttr,QY,Uf,QW,g,a,b,c,d,f]
  exact .refl _
 |true=>
 cases i:(x.op==y.op)with
 |false=>
  simp only[go_sem,simprocAttr,a,b,c,d,f,i];refine Zk rfl rfl ?_;refine Zb ?_ (.bool _) rfl;try simp only[go_sem,simprocAttr,QY,Uf,QW,g,a,b,c,d,f,i]
  exact .refl _
 |true=>
 cases j:(x.bound==y.bound)with
 |false=>
  simp only[go_sem,simprocAttr,a,b,c,d,f,i,j];refine Zk rfl rfl ?_;refine Zb ?_ (.bool _) rfl;try simp only[go_sem,simprocAttr,QY,Uf,QW,g,a,b,c,d,f,i,j]
  exact .refl _
 |true=>
  simp only[go_sem,simprocAttr,a,b,c,d,f,i,j];refine Zk rfl rfl ?_;refine Zb ?_ (.bool _) rfl;try simp only[go_sem,simprocAttr,QY,Uf,QW,g,a,b,c,d,f,i,j]
  exact .refl _
def e14(a b:Ins)(l:WdI a):Pure prog 14 [a.enc,b.enc] (.bool (eqI a b)):=by
 intro n H;have j:eqI a b=((a.kind==b.kind)&&eqL eqA a.heads b.heads&&(a.lower==b.lower)&&(a.upper==b.upper)&&eqL VX a.body b.body&&(a.weight==b.weight)&&(a.level==b.level)&&eqL eqT a.tuple b.tuple):=rfl;refine aF func14 fun B=>?_
 refine nR ?_;cases c:(a.kind==b.kind)with
 |false=>
  refine nq c ?_;refine Zk rfl rfl ?_;refine Zb ?_ (.bool _) rfl;try simp only[go_sem,simprocAttr,j,c]
  exact .refl _
 |true=>
 refine nq c ?_;refine XY (Zf func53 rfl rfl) (e53 a.heads b.heads l.hl (fun u m v _=>Zuv u v (l.h u m))) sS ?_;cases d:eqL eqA a.heads b.heads with
 |false=>
  refine aq2 c d ?_;refine Zk rfl rfl ?_;refine Zb ?_ (.bool _) rfl;try simp only[go_sem,simprocAttr,j,c,d]
  exact .refl _
 |true=>
 cases e:(a.lower==b.lower)with
 |false=>
  simp only[go_sem,simprocAttr,c,d,e];refine Zk rfl rfl ?_;refine Zb ?_ (.bool _) rfl;try simp only[go_sem,simprocAttr,j,c,d,e]
  exact .refl _
 |true=>
 cases f:(a.upper==b.upper)with
 |false=>
  simp only[go_sem,simprocAttr,c,d,e,f];refine Zk rfl rfl ?_;refine Zb ?_ (.bool _) rfl;try simp only[go_sem,simprocAttr,j,c,d,e,f]
  exact .refl _
 |true=>
 simp only[go_sem,simprocAttr,c,d,e,f];refine XY (Zf func54 rfl rfl) (e54 a.body b.body l.bl (fun u m v _=>Zwk u v (l.b u m))) sS ?_;cases g:eqL VX a.body b.body with
 |false=>
  simp only[go_sem,simprocAttr,c,d,e,f,g];refine Zk rfl rfl ?_;refine Zb ?_ (.bool _) rfl;try simp only[go_sem,simprocAttr,j,c,d,e,f,g]
  exact .refl _
 |true=>
 cases i:(a.weight==b.weight)with
 |false=>
  simp only[go_sem,simprocAttr,c,d,e,f,g,i];refine Zk rfl rfl ?_;refine Zb ?_ (.bool _) rfl;try simp only[go_sem,simprocAttr,j,c,d,e,f,g,i]
  exact .refl _
 |true=>
 cases k:(a.level==b.level)with
 |false=>
  simp only[go_sem,simprocAttr,c,d,e,f,g,i,k];refine Zk rfl rfl ?_;refine Zb ?_ (.bool _) rfl;try simp only[go_sem,simprocAttr,j,c,d,e,f,g,i,k]
  exact .refl _
 |true=>
 simp only[go_sem,simprocAttr,c,d,e,f,g,i,k];refine XY (Zf func39 rfl rfl) (Zru a.tuple b.tuple l.tl (fun u m v _=>Zrv u v (l.t u m))) sS ?_;cases o:eqL eqT a.tuple b.tuple with
 |false=>
  simp only[go_sem,simprocAttr,c,d,e,f,g,i,k,o];refine Zk rfl rfl ?_;refine Zb ?_ (.bool _) rfl;try simp only[go_sem,simprocAttr,j,c,d,e,f,g,i,k,o]
  exact .refl _
 |true=>
  simp only[go_sem,simprocAttr,c,d,e,f,g,i,k,o];refine Zk rfl rfl ?_;refine Zb ?_ (.bool _) rfl;try simp only[go_sem,simprocAttr,j,c,d,e,f,g,i,k,o]
  exact .refl _
def ZgP{n:Nat}(h:n<=100000000000000):n<=maxLen:=by unfold maxLen;omega
def a89(a b:Int):Pure prog 222 [.int .i64 a,.int .i64 b] (.int .i64 (Yh a b)):=by
 intro n H;refine aF func222 fun B=>?_
 refine nR ?_;cases c:decide (a<b)with
 |true=>
  refine nq c ?_;refine gi ?_;refine Zk rfl rfl ?_;refine Zb ?_ (.int _ _) rfl;try simp only[go_sem,simprocAttr,Yh,of_decide_eq_true c]
  exact .refl _
 |false=>
  refine nq c ?_;refine nF ?_;cases d:decide (b<a)with
  |true=>
   refine nq d ?_;refine gi ?_;refine Zk rfl rfl ?_;refine Zb ?_ (.int _ _) rfl;try simp only[go_sem,simprocAttr,Yh,of_decide_eq_false c,of_decide_eq_true d]
   exact .refl _
  |false=>
   refine nq d ?_;refine gv ?_;refine Zk rfl rfl ?_;refine Zb ?_ (.int _ _) rfl;try simp only[go_sem,simprocAttr,Yh,of_decide_eq_false c,of_decide_eq_false d]
   exact .refl _
def a91(a b:Bs):Pure prog 224 [.str a,.str b] (.int .i64 (Lib.compareBytes a b)):=by
 intro n H;have c:=ZhN a b;refine aF func224 fun B=>?_
 refine nR ?_;cases d:Op.bytesLess a b with
 |true=>
  refine nq d ?_;refine gi ?_;rw[d]at c;simp only[reduceIte]at c;refine Zk rfl rfl ?_;refine Zb ?_ (.int _ _) rfl;try simp only[go_sem,simprocAttr,<-c]
  exact .refl _
 |false=>
  refine nq d ?_;refine nF ?_;rw[d]at c;cases e:(a==b)with
  |true=>
   rw[e]at c;refine nr ?_;simp only[go_sem,simprocAttr,d,e,Gg];refine gv ?_;simp only[QE,reduceIte,QaF,Qav]at c;refine Zk rfl rfl ?_;refine Zb ?_ (.int _ _) rfl;try simp only[go_sem,simprocAttr,<-c]
   exact .refl _
  |false=>
   rw[e]at c;refine nr ?_;simp only[go_sem,simprocAttr,d,e,Gg];refine gi ?_;simp only[QE,reduceIte,UE,QaE]at c;refine Zk rfl rfl ?_;refine Zb ?_ (.int _ _) rfl;try simp only[go_sem,simprocAttr,<-c]
   exact .refl _
def a90(k:Int)(p:0<=k/\k<=255):Pure prog 223 [.int .u8 k] (.int .i64 (rank k+1)):=by
 intro n H;refine aF func223 fun B=>?_
 refine gc ?_;by_cases d:k=1
 ·subst d;refine nR ?_;refine nT ?_;refine gj ?_;exact Zb (.refl _) (.int _ _) rfl
 have h:(k==1)=false:=by simpa using d
 by_cases b:k=2
 ·subst b;refine nR ?_;refine gv ?_;refine gj ?_;exact Zb (.refl _) (.int _ _) rfl
 have o:(k==2)=false:=by simpa using b
 refine nq h ?_;refine nF ?_;refine nq o ?_;refine nF ?_;by_cases c:k=4
 ·subst c;refine nR ?_;refine gj ?_;exact Zb (.refl _) (.int _ _) rfl
 have l:(k==4)=false:=by simpa using c
 refine nq l ?_;refine nF ?_;by_cases f:k=3
 ·subst f;refine nR ?_;refine gj ?_;exact Zb (.refl _) (.int _ _) rfl
 have j:(k==3)=false:=by simpa using f
 refine nq j ?_;refine nF ?_;by_cases e:k=5
 ·subst e;refine nR ?_;refine nT ?_;refine gj ?_;exact Zb (.refl _) (.int _ _) rfl
 have g:(k==5)=false:=by simpa using e
 refine nq g ?_;refine nF ?_;by_cases a:k=6
 ·subst a;refine nR ?_;refine gj ?_;exact Zb (.refl _) (.int _ _) rfl
 have i:(k==6)=false:=by simpa using a
 refine nq i ?_;refine nF ?_;have m:rank k+1=k+7:=by simp only[rank,d,b,f,c,e,a,if_false];omega
 refine ge ?_;refine Zb ?_ (.int _ _) rfl;refine aS ?_;rw[m,IntWalk.i64_in k om,iw];exact .refl _
def Zux(a b:Tm)(A:Wd a)(u:Wd b)(G:∀x∈a.args,∀y∈b.args,Pure prog 133 [x.enc,y.enc] (.int .i64 (cmpT x y))):Pure prog 133 [a.enc,b.enc] (.int .i64 (cmpT a b)):=by
 intro n H;have E:=A.len;have I:=u.len;have s:=ZpC a b;refine aF func133 fun B=>?_
 refine gh ?_;refine Vf tok mixed litO rfl rfl (by kernel_rfl) (by kernel_rfl) ?_;simp only[go_sem,simprocAttr,litO,QS,Nat.reduceBEq,Uj,UE,Nat.reduceEqDiff];refine W9 (Zf func223 rfl rfl) (a90 a.kind A.kind) sS ?_;simp only[go_sem,simprocAttr,litO,QS,Nat.reduceBEq,Uj,UE,Nat.reduceEqDiff];refine W9 (Zf func223 rfl rfl) (a90 b.kind u.kind) sS ?_;simp only[go_sem,simprocAttr,litO,QS,Nat.reduceBEq,Uj,UE,Nat.reduceEqDiff];refine W9 (Zf func222 rfl rfl) (a89 (rank a.kind+1) (rank b.kind+1)) sS ?_;simp only[go_sem,simprocAttr,litO,QS,Nat.reduceBEq,Uj,UE,Nat.reduceEqDiff];refine W9 (Zf func222 rfl rfl) (a89 a.args.length b.args.length) sS ?_;simp only[go_sem,simprocAttr,litO,QS,Nat.reduceBEq,Uj,UE,Nat.reduceEqDiff];refine W9 (Zf func224 rfl rfl) (a91 a.name b.name) sS ?_;simp only[go_sem,simprocAttr,litO,QS,Nat.reduceBEq,Uj,UE,Nat.reduceEqDiff];refine⟨dc,?_⟩;refine gh ?_;refine Zah (s54 n a b (k1 a b) H) ?_ ?_
 ·cases d:(a.kind==1)with
  |false=>
   have e:¬a.kind=1:=by simpa using d
   refine nFq d ?_;refine nN ?_;refine⟨rfl,?_⟩;apply kZ;repeat' first|apply q0|exact xx|apply aI
   all_goals first|exact ZoI rfl|exact Zh0 _|exact allI _|skip
   simp only[go_sem,simprocAttr,Yc,flat_nil,flI,k1,if_neg e,eInt]
  |true=>
   have e:a.kind=1:=by simpa using d
   refine nTq d ?_;refine nR ?_;refine cP (a89 a.num b.num) ?_;refine⟨by simp[flat,AV.cells],?_⟩;refine nN ?_;refine⟨rfl,?_⟩;apply kZ;repeat' first|apply q0|exact xx|apply aI
   all_goals first|exact ZoI rfl|exact Zh0 _|exact allI _|skip
   simp only[go_sem,simprocAttr,Yc,flat_nil,flI,k1,if_pos e,eInt]
 refine ZV rfl ?_;refine gh ?_;have v:min a.args.length b.args.length<=a.args.length:=Nat.min_le_left _ _;have r:min a.args.length b.args.length<=b.args.length:=Nat.min_le_right _ _;refine Zx (Zxn n a b H) (min a.args.length b.args.length) rfl ?_ ?_
 ·apply kZ;repeat' first|apply q0|exact xx|apply aI
  all_goals first|exact ZoI rfl|exact Zh0 _|exact allI _|skip
 intro i F;refine ZV rfl ?_;have w:(zc a.args b.args i).length=i:=Zuf _ _ _ om om;rcases Qd i (min a.args.length b.args.length)with h|h
 ·have h':i<a.args.length:=om;have c:i<b.args.length:=om;refine nq2 h' c ?_;refine nT ?_;refine kK ?_;refine Vf tok mixed appO rfl rfl (by kernel_rfl) (by kernel_rfl) ?_;simp only[go_sem,simprocAttr,appO,Tm.Zw _ _ h',h',Tm.Zw _ _ c,c];refine XY (Zf func133 rfl rfl) (G _ (Qa h') _ (Qa c)) sS ?_;refine aS ?_;refine⟨dc,⟨ZgP om,om⟩,?_⟩;refine gd ?_;refine⟨h,?_⟩;apply kZ;repeat' first|apply q0|exact xx|apply aI
  all_goals first|exact ZoI rfl|exact Zh0 _|exact allI _|skip
  ·refine aS ?_;rw[iw];exact .refl _
  ·simp only[go_sem,simprocAttr,Yc,flat_nil,flI,ZsB _ _ _ h' c,QM,eInt,MS,Q5]
 ·have o:i=min a.args.length b.args.length:=om;subst o;have p:(decide (min a.args.length b.args.length<a.args.length)&&decide (min a.args.length b.args.length<b.args.length))=false:=by
   rw[<-Me,Qb,decide_eq_true_eq,decide_eq_true_eq];omega
  have J:(k1 a b).length=4:=rfl;generalize min a.args.length b.args.length=m at*;cases d:decide (m<a.args.length);all_goals
   rw[d]at p;try simp only[QX]at p
   refine nq2 d p ?_;refine gG ?_;refine cP (a89 a.num b.num) ?_;refine⟨dc,⟨ZgP om,om⟩,?_⟩;generalize z:k1 a b++zc a.args b.args m++[Yh a.num b.num]=l at s;have D:4+m+1=l.length:=by rw[<-z];simp only[Qh,Qm,Qz];omega
   have q:flI (k1 a b++zc a.args b.args m)++flat [AV.int IntKind.i64 (Yh a.num b.num)]=flI l:=by rw[<-z];simp[flI,flat,AV.cells]
   rw[q,D];refine gh ?_;refine ZG (ZvD n l H) (fun i=>∀j (h:j<l.length),j<i->l[j]=0) l.length rfl ?_ (fun j _ h=>absurd h (Qj _)) ?_
   ·apply kZ;repeat' first|apply q0|exact xx|apply aI
    all_goals first|exact ZoI rfl|exact Zh0 _|exact allI _|skip
   intro i F k;refine ZV rfl ?_;rcases Qd i l.length with h|h
   ·refine nq h ?_;refine nT ?_;have g:=ZpU l i h;cases f:(l[i]==0)with
    |false=>
     refine nr ?_;simp only[go_sem,simprocAttr,h,g,bne,f];refine⟨⟨om,by rw[Zct];omega,by rw[Zct];omega⟩,?_⟩;refine gH ?_;refine aq2 h g ?_;refine⟨⟨om,by rw[Zct];omega,by rw[Zct];omega⟩,?_⟩;refine nW ?_;refine Zb ?_ (.int _ _) rfl;rw[s,Zqt h (by simpa using f) k];exact .refl _
    |true=>
     refine nr ?_;simp only[go_sem,simprocAttr,h,g,bne,f];refine⟨⟨om,by rw[Zct];omega,by rw[Zct];omega⟩,?_⟩;refine gm ?_;refine⟨fun j t C=>?_,?_⟩
     ·rcases Qd j i with h'|h'
      ·exact k j t h'
      ·have:j=i:=om;subst this;simpa using f
     ·apply kZ;repeat' first|apply q0|exact xx|apply aI
      all_goals first|exact ZoI rfl|exact Zh0 _|exact allI _|skip
      refine aS ?_;rw[iw];exact .refl _
   ·refine nq (QC.2 h) ?_;refine gt ?_;refine Zb ?_ (.int _ _) rfl;rw[s,ZkM (fun j t=>k j t om)];exact .refl _
def Zuw(a b:Tm)(c:Wd a)(e:Wd b):Pure prog 133 [a.enc,b.enc] (.int .i64 (cmpT a b)):=
 Zux a b c e fun x d y f=>Zuw x y (c.arg d) (e.arg f)
termination_by SizeOf.sizeOf a
decreasing_by exact Tm.Xp d
def Zs2(a b:Tm)(ha:Wd a)(r:Wd b)(q:∀x∈a.args,∀y∈b.args,Pure prog 134 [x.enc,y.enc] (.bool (eqT x y))):Pure prog 134 [a.enc,b.enc] (.bool (eqT a b)):=by
 intro n H;have p:=ha.len;have hx:=ZlS a b;refine aF func134 fun B=>?_
 refine nR ?_;cases c:(a.kind==b.kind)with
 |false=>
  refine nr ?_;simp only[go_sem,simprocAttr,bne,c];refine gi ?_;refine Zk rfl rfl ?_;refine Zb ?_ (.bool _) rfl;try simp only[go_sem,simprocAttr,hx,c]
  exact .refl _
 |true=>
 cases d:(a.num==b.num)with
 |false=>
  refine nr ?_;simp only[go_sem,simprocAttr,bne,c,d];refine gi ?_;refine Zk rfl rfl ?_;refine Zb ?_ (.bool _) rfl;try simp only[go_sem,simprocAttr,hx,c,d]
  exact .refl _
 |true=>
 cases e:(a.name==b.name)with
 |false=>
  refine nr ?_;simp only[go_sem,simprocAttr,bne,c,d,e];refine gi ?_;refine Zk rfl rfl ?_;refine Zb ?_ (.bool _) rfl;try simp only[go_sem,simprocAttr,hx,c,d,e]
  exact .refl _
 |true=>
 cases g:((a.args.length:Int)==b.args.length)with
 |false=>
  refine nr ?_;simp only[go_sem,simprocAttr,bne,c,d,e,g];refine gi ?_;have:eqT.eqs a.args b.args=false:=eqs_len (nat_ne g);refine Zk rfl rfl ?_;refine Zb ?_ (.bool _) rfl;try simp only[go_sem,simprocAttr,hx,c,d,e,this]
  exact .refl _
 |true=>
 have f:a.args.length=b.args.length:=nat_eq g;have l:eqT a b=eqT.eqs a.args b.args:=by rw[hx,c,d,e];rfl
 refine nr ?_;simp only[go_sem,simprocAttr,bne,c,d,e,g];refine gN ?_;refine ZG (Zvm n a b H) (fun i=>∀j (h:j<a.args.length),j<i->eqT a.args[j] (b.args[j]'om)=true) a.args.length rfl ?_ (fun j _ h=>absurd h (Qj _)) ?_
 ·exact KK
 intro i s hq;refine ZV rfl ?_;rcases Qd i a.args.length with h|h
 ·have h':i<b.args.length:=om;refine nq h ?_;refine nT ?_;refine dq4 (Tm.Zw _ _ h) h (Tm.Zw _ _ h') h' ?_;refine XY (Zf func134 rfl rfl) (q _ (Qa h) _ (Qa h')) sS ?_;refine aS ?_;cases k:eqT a.args[i] b.args[i]with
  |false=>
   refine nTq k ?_;refine nR ?_;refine nW ?_;refine Zb ?_ (.bool _) rfl;refine aq2 l (eqs_false h h' k) ?_;exact .refl _
  |true=>
   refine nFq k ?_;refine gd ?_;refine⟨fun j m o=>?_,?_⟩
   ·rcases Qd j i with h'|h'
    ·exact hq j m h'
    ·have:j=i:=om;subst this;exact k
   ·apply kZ;repeat' first|apply q0|exact xx|apply aI
    refine aS ?_;rw[iw];exact .refl _
 ·refine nq (QC.2 h) ?_;refine gt ?_;refine Zb ?_ (.bool _) rfl;refine aq2 l (eqs_true f (fun j h h'=>hq j h om)) ?_;exact .refl _
def ZsJ(a b:Tm)(c:Wd a)(e:Wd b):Pure prog 134 [a.enc,b.enc] (.bool (eqT a b)):=
 Zs2 a b c e fun x d y f=>ZsJ x y (c.arg d) (e.arg f)
termination_by SizeOf.sizeOf a
decreasing_by exact Tm.Xp d
def ZsI(a b:Am)(ha:WdA a)(o:WdA b):Pure prog 51 [a.enc,b.enc] (.bool (eqA a b)):=by
 intro n H;have m:=ha.len;have hx:eqA a b=((a.pred==b.pred)&&eqT.eqs a.args b.args):=rfl;refine aF func51 fun B=>?_
 refine nR ?_;cases c:(a.pred==b.pred)with
 |false=>
  refine nr ?_;simp only[go_sem,simprocAttr,bne,c];refine gi ?_;refine Zk rfl rfl ?_;refine Zb ?_ (.bool _) rfl;try simp only[go_sem,simprocAttr,hx,c]
  exact .refl _
 |true=>
 cases e:((a.args.length:Int)==b.args.length)with
 |false=>
  refine nr ?_;simp only[go_sem,simprocAttr,bne,c,e];refine gi ?_;have:eqT.eqs a.args b.args=false:=eqs_len (nat_ne e);refine Zk rfl rfl ?_;refine Zb ?_ (.bool _) rfl;try simp only[go_sem,simprocAttr,hx,c,this]
  exact .refl _
 |true=>
 have d:a.args.length=b.args.length:=nat_eq e;have g:eqA a b=eqT.eqs a.args b.args:=by rw[hx,c];rfl
 refine nr ?_;simp only[go_sem,simprocAttr,bne,c,e];refine gv ?_;repeat refine kn rfl ?_
 refine ZG (Zvi n a b H) (fun i=>∀j (h:j<a.args.length),j<i->eqT a.args[j] (b.args[j]'om)=true) a.args.length rfl ?_ (fun j _ h=>absurd h (Qj _)) ?_
 ·exact KK
 intro i p hq;refine ZV rfl ?_;rcases Qd i a.args.length with h|h
 ·have h':i<b.args.length:=om;refine nq h ?_;refine nT ?_;refine dq4 (Tm.Zw _ _ h) h (Tm.Zw _ _ h') h' ?_;refine XY (Zf func134 rfl rfl) (ZsJ _ _ (ha.arg _ (Qa h)) (o.arg _ (Qa h'))) sS ?_;refine aS ?_;cases f:eqT a.args[i] b.args[i]with
  |false=>
   refine nTq f ?_;refine nR ?_;refine nW ?_;refine Zb ?_ (.bool _) rfl;refine aq2 g (eqs_false h h' f) ?_;exact .refl _
  |true=>
   refine nFq f ?_;refine gd ?_;refine⟨fun j k l=>?_,?_⟩
   ·rcases Qd j i with h'|h'
    ·exact hq j k h'
    ·have:j=i:=om;subst this;exact f
   ·apply kZ;repeat' first|apply q0|exact xx|apply aI
    refine aS ?_;rw[iw];exact .refl _
 ·refine nq (QC.2 h) ?_;refine gt ?_;refine Zb ?_ (.bool _) rfl;refine aq2 g (eqs_true d (fun j h h'=>hq j h om)) ?_;exact .refl _
def Zxl(p q:LT)(H:Za)(i:Nat):Zc:=
 ⟨[(5,.int .i64 i),(0,.sl 4 (p.map Tm.enc) .any),(1,.sl 4 (q.map Tm.enc) .any)],[],H⟩
def c50(p q:LT)(hl:p.length<=10000000000000)(e:∀u∈p,Wd u)(d:∀u∈q,Wd u)(b:p.length=q.length):Pure prog 50 [.sl 4 (p.map Tm.enc) .any,.sl 4 (q.map Tm.enc) .any] (.int .i64 (cmpT.cmps p q)):=by
 intro n H;refine aF func50 fun B=>?_
 refine gk ?_;refine ZG (Zxl p q H) (fun i=>cmpT.cmps p q=cmpT.cmps (p.drop i) (q.drop i)) p.length rfl ?_ rfl ?_
 ·exact KK
 intro i f hq;refine ZV rfl ?_;rcases Qd i p.length with h|h
 ·have a:i<q.length:=om;refine nq2 h a ?_;refine nT ?_;refine dq4 (getD_map Tm.enc _ _ h) h (getD_map Tm.enc _ _ a) a ?_;refine cP (Zuw _ _ (e _ (Qa h)) (d _ (Qa a))) ?_;rw[Zck _ _ i h a]at hq;cases c:(cmpT p[i] q[i]==0)with
  |false=>
   refine nr ?_;simp only[go_sem,simprocAttr,bne,c];refine gn ?_;refine Zb ?_ (.int _ _) rfl;rw[hq,J3 (by simpa using c)];exact .refl _
  |true=>
   refine nr ?_;simp only[go_sem,simprocAttr,bne,c];refine gm ?_;refine⟨?_,?_⟩
   ·rw[hq,(by simpa using c:cmpT p[i] q[i]=0),YD]
   ·apply kZ;repeat' first|apply q0|exact xx|apply aI
    refine aS ?_;rw[iw];exact .refl _
 ·refine nq (QC.2 h) ?_;refine gt ?_;refine Zb ?_ (.int _ _) rfl;rw[hq,UQ h,UQ om];simp only[go_sem,simprocAttr,b,Qbs];exact .refl _
def ZuC(x y:GL)(c:WdA x.a)(e:WdA y.a):Pure prog 135 [x.enc,y.enc] (.bool (Vo x y)):=by
 intro n H;have d:Vo x y=((x.no==y.no)&&eqA x.a y.a):=rfl;refine aF func135 fun B=>?_
 refine nR ?_;cases b:(x.no==y.no)with
 |false=>
  refine nq b ?_;refine Zk rfl rfl ?_;refine Zb ?_ (.bool _) rfl;try simp only[go_sem,simprocAttr,d,b]
  exact .refl _
 |true=>
  refine nq b ?_;refine cP (ZsI x.a y.a c e) ?_;refine Zk rfl rfl ?_;refine Zb ?_ (.bool _) rfl;try simp only[go_sem,simprocAttr,d,b]
  exact .refl _
def ZvB(x y:GBd)(H:Za)(i:Nat):Zc:=⟨[(5,.int .i64 i),(2,.iptr x.cs),(3,.iptr y.cs)],[],H⟩
def ZvC(n:Nat)(x y:GBd)(i:Nat)(e f:GE)(H:Za)(k:Nat):Zc:=⟨[(8,.int .i64 k),(6,.ptr n 6 0),(7,.ptr n 7 0),(5,.int .i64 i),(2,.iptr x.cs),(3,.iptr y.cs)],[(6,.box e.cs),(7,.box f.cs)],H⟩
def o52(n:Nat):Opt:=⟨true,true,fun d=>if d=67\/d=70\/d=72\/d=75 then .pure else if d=6 then .at_ n 6 else if d=7 then .at_ n 7 else .auto,[6,7]⟩
def c52(x y:GBd)(hx':WdB x)(hy:WdB y):Pure prog 52 [x.enc,y.enc] (.bool (VX x y)):=by
 intro n H;have hla:=hx'.el;have hx:VX x y=((x.kind==y.kind)&&Vo x.lit y.lit&&(x.no==y.no)&&(x.fn==y.fn)&&(x.op==y.op)&&(x.bound==y.bound)&&eqL Wn x.elems y.elems):=rfl;refine aF func52 fun B=>?_
 refine nR ?_;cases h1:(x.kind==y.kind)with
 |false=>
  refine nr ?_;simp only[go_sem,simprocAttr,bne,h1];refine gi ?_;refine Zk rfl rfl ?_;refine Zb ?_ (.bool _) rfl;try simp only[go_sem,simprocAttr,QY,Uf,QW,QX,hx,h1]
  exact .refl _
 |true=>
 refine nr ?_;simp only[go_sem,simprocAttr,bne,h1];refine XY (Zf func135 rfl rfl) (ZuC x.lit y.lit hx'.lit hy.lit) sS ?_;cases h2:Vo x.lit y.lit with
 |false=>
  simp only[go_sem,simprocAttr,bne,h1,h2];refine gi ?_;refine Zk rfl rfl ?_;refine Zb ?_ (.bool _) rfl;try simp only[go_sem,simprocAttr,QY,Uf,QW,QX,hx,h1,h2]
  exact .refl _
 |true=>
 cases h3:(x.no==y.no)with
 |false=>
  simp only[go_sem,simprocAttr,bne,h1,h2,h3];refine gi ?_;refine Zk rfl rfl ?_;refine Zb ?_ (.bool _) rfl;try simp only[go_sem,simprocAttr,QY,Uf,QW,QX,hx,h1,h2,h3]
  exact .refl _
 |true=>
 cases h4:(x.fn==y.fn)with
 |false=>
  simp only[go_sem,simprocAttr,bne,h1,h2,h3,h4];refine gi ?_;refine Zk rfl rfl ?_;refine Zb ?_ (.bool _) rfl;try simp only[go_sem,simprocAttr,QY,Uf,QW,QX,hx,h1,h2,h3,h4]
  exact .refl _
 |true=>
 cases h5:(x.op==y.op)with
 |false=>
  simp only[go_sem,simprocAttr,bne,h1,h2,h3,h4,h5];refine gi ?_;refine Zk rfl rfl ?_;refine Zb ?_ (.bool _) rfl;try simp only[go_sem,simprocAttr,QY,Uf,QW,QX,hx,h1,h2,h3,h4,h5]
  exact .refl _
 |true=>
 cases h6:(x.bound==y.bound)with
 |false=>
  simp only[go_sem,simprocAttr,bne,h1,h2,h3,h4,h5,h6];refine gi ?_;refine Zk rfl rfl ?_;refine Zb ?_ (.bool _) rfl;try simp only[go_sem,simprocAttr,QY,Uf,QW,QX,hx,h1,h2,h3,h4,h5,h6]
  exact .refl _
 |true=>
 cases L7:((x.elems.length:Int)==y.elems.length)with
 |false=>
  have eL7:eqL Wn x.elems y.elems=false:=Xl (nat_ne L7);simp only[go_sem,simprocAttr,bne,h1,h2,h3,h4,h5,h6,L7];refine gi ?_;refine Zk rfl rfl ?_;refine Zb ?_ (.bool _) rfl;try simp only[go_sem,simprocAttr,QY,Uf,QW,QX,hx,h1,h2,h3,h4,h5,h6,eL7]
  exact .refl _
 |true=>
 have nL7:x.elems.length=y.elems.length:=nat_eq L7;simp only[go_sem,simprocAttr,bne,h1,h2,h3,h4,h5,h6,L7];refine nF ?_;have hy7:VX x y=eqL Wn x.elems y.elems:=by rw[hx,h1,h2,h3,h4,h5,h6];rfl
 refine gh ?_;refine ZT 2 x.cs [(2,.iptr x.cs),(3,.ptr n 3 0),(5,.int .i64 0)] rfl (ZM fun c hc=>(x.bcs.mem c hc).inside) ⟨.inr ⟨0,rfl,rfl⟩,.inl ⟨.refl _,.ptr _ _ _ (.inr ⟨rfl,dc⟩)⟩,.inl ⟨.refl _,.int _ _⟩,trivial⟩ ⟨Ze.Zv (ZM fun c hc=>(y.bcs.mem c hc).inside),trivial⟩ ?_;refine ZT 3 y.cs [(2,.iptr x.cs),(3,.iptr y.cs),(5,.int .i64 0)] rfl (ZM fun c hc=>(y.bcs.mem c hc).inside) ⟨.inl ⟨.refl _,(Zj x.bcs).inside⟩,.inr ⟨0,rfl,rfl⟩,.inl ⟨.refl _,.int _ _⟩,trivial⟩ trivial ?_;have hbx:∀q,Inside n q (.iptr x.cs):=fun q=>(Zj x.bcs).inside
 have hby:∀q,Inside n q (.iptr y.cs):=fun q=>(Zj y.bcs).inside
 refine ZG (ZvB x y H) (fun i=>∀j (h:j<x.elems.length),j<i->Wn x.elems[j] (y.elems[j]'om)=true) x.elems.length rfl ?_ (fun j _ h=>absurd h (Qj _)) ?_
 ·apply kZ;repeat' first|apply q0|exact xx|apply aI
  all_goals first|exact hbx _|exact hby _|skip
 intro i hi hq;refine ZV rfl ?_;rcases Qd i x.elems.length with h|h
 ·have h':i<y.elems.length:=om;refine nq h ?_;refine nT ?_;refine kK ?_;refine Vf tok mixed (o52 n) rfl rfl (by kernel_rfl) (by kernel_rfl) ?_;simp only[go_sem,simprocAttr,o52,getD_map GE.enc _ _ h,h,getD_map GE.enc _ _ h',h',QS,Nat.reduceBEq,Uj,UE,Nat.reduceEqDiff];have hfin:∀b,Wn x.elems[i] y.elems[i]=b->b=false->VX x y=false:=fun b hb e=>by subst e;rw[hy7,YM h h' hb]
  have hwe:=hx'.e _ (Qa h);have hwf:=hy.e _ (Qa h');obtain⟨e,he0⟩:∃e,x.elems[i]=e:=⟨_,rfl⟩
  obtain⟨f,hf0⟩:∃f,y.elems[i]=f:=⟨_,rfl⟩
  rw[he0]at hwe hfin;rw[hf0]at hwf hfin;rw[he0,hf0];cases k1:((e.tuple.length:Int)==f.tuple.length)with
  |false=>
   have hb:Wn e f=false:=by rw[Wn,Xl (nat_ne k1),QW]
   refine nr ?_;simp only[go_sem,simprocAttr,bne,k1];refine gn ?_;refine Zb ?_ (.bool _) rfl;rw[hfin _ hb rfl];exact .refl _
  |true=>
  have e1:=nat_eq k1;refine nr ?_;simp only[go_sem,simprocAttr,bne,k1];refine XY (Zf func50 rfl rfl) (c50 e.tuple f.tuple hwe.tl hwe.t hwf.t e1) sS ?_;have hz:=Zne hwe.t hwf.t e1;cases k2:(cmpT.cmps e.tuple f.tuple==0)with
  |false=>
   have hb:Wn e f=false:=by rw[Wn,<-hz,k2,QW]
   simp only[go_sem,simprocAttr,bne,k1,k2];refine gn ?_;refine Zb ?_ (.bool _) rfl;rw[hfin _ hb rfl];exact .refl _
  |true=>
  cases k3:((e.cond.length:Int)==f.cond.length)with
  |false=>
   have hb:Wn e f=false:=by rw[Wn,Xl (nat_ne k3),QY]
   simp only[go_sem,simprocAttr,bne,k1,k2,k3];refine gn ?_;refine Zb ?_ (.bool _) rfl;rw[hfin _ hb rfl];exact .refl _
  |true=>
  have e3:=nat_eq k3;have he:Wn e f=eqL Vo e.cond f.cond:=by rw[Wn,<-hz,k2,QX]
  have hcl:=hwe.cl;simp only[go_sem,simprocAttr,bne,k1,k2,k3];refine gN ?_;refine ZG (ZvC n x y i e f H) (fun k=>∀j (h:j<e.cond.length),j<k->Vo e.cond[j] (f.cond[j]'om)=true) e.cond.length rfl ?_ (fun j _ h=>absurd h (Qj _)) ?_
  ·apply kZ;repeat' first|apply q0|exact xx|apply aI
   all_goals first|exact hbx _|exact hby _|exact(Zem _).inside|exact(Zen _).inside|skip
  intro k hk hq2;refine ZV rfl ?_;rcases Qd k e.cond.length with hc|hc
  ·have hc':k<f.cond.length:=om;refine nq hc ?_;refine nT ?_;refine dq4 (getD_map GL.enc _ _ hc) hc (getD_map GL.enc _ _ hc') hc' ?_;refine cP (ZuC _ _ (hwe.c _ (Qa hc)) (hwf.c _ (Qa hc'))) ?_;cases k5:Vo e.cond[k] f.cond[k]with
   |false=>
    have hb:Wn e f=false:=by rw[he,YM hc hc' k5]
    refine nTq k5 ?_;refine nR ?_;refine nW ?_;refine Zb (P:=prog) ?_ (.bool _) rfl;rw[hfin _ hb rfl];exact .refl _
   |true=>
    refine nFq k5 ?_;refine gd ?_;refine⟨fun j hj hji=>?_,?_⟩
    ·rcases Qd j k with h'|h'
     ·exact hq2 j hj h'
     ·have:j=k:=om;subst this;exact k5
    ·apply kZ;repeat' first|apply q0|exact xx|apply aI
     all_goals first|exact hbx _|exact hby _|exact(Zem _).inside|exact(Zen _).inside|skip
     refine aS ?_;rw[iw];exact .refl _
  ·have hE:Wn e f=true:=by rw[he];exact Xa e3 (fun j h h'=>hq2 j h om)
   refine nq (QC.2 hc) ?_;refine gg ?_;refine gd ?_;refine⟨fun j hj hji=>?_,?_⟩
   ·rcases Qd j i with h'|h'
    ·exact hq j hj h'
    ·have:j=i:=om;subst this;rw[he0,hf0];exact hE
   ·apply kZ;repeat' first|apply q0|exact xx|apply aI
    all_goals first|exact hbx _|exact hby _|skip
    refine aS ?_;rw[iw];exact .refl _
 ·refine nq (QC.2 h) ?_;refine gt ?_;refine Zb ?_ (.bool _) rfl;refine aq2 hy7 (Xa nL7 (fun j h h'=>hq j h om)) ?_;exact .refl _
def Zvq(n:Nat)(a b:Ins)(H:Za)(i:Nat):Zc:=⟨[(5,.int .i64 i),(2,.ptr n 2 0),(3,.ptr n 3 0)],[(2,.box a.cs),(3,.box b.cs)],H⟩
def Zvr(n:Nat)(a b:Ins)(H:Za)(i:Nat):Zc:=⟨[(6,.int .i64 i),(2,.ptr n 2 0),(3,.ptr n 3 0)],[(2,.box a.cs),(3,.box b.cs)],H⟩
def c13(a b:Ins)(ha:WdI a)(hb:WdI b):Pure prog 13 [a.enc,b.enc] (.bool (eqI a b)):=by
 intro n H;have hla:=ha.hl;have hlb:=ha.bl;have hbx:∀q,Ze.Inside n q (.box a.cs):=fun q=>Ze.Zv (ZM fun c hc=>(a.bcs.mem c hc).inside)
 have hby:∀q,Ze.Inside n q (.box b.cs):=fun q=>Ze.Zv (ZM fun c hc=>(b.bcs.mem c hc).inside)
 have hx:eqI a b=((a.kind==b.kind)&&eqL eqA a.heads b.heads&&(a.lower==b.lower)&&(a.upper==b.upper)&&eqL VX a.body b.body&&(a.weight==b.weight)&&(a.level==b.level)&&eqL eqT a.tuple b.tuple):=rfl;refine aF func13 fun B=>?_
 refine nR ?_;cases h1:(a.kind==b.kind)with
 |false=>
  refine nr ?_;simp only[go_sem,simprocAttr,Gy,QN,QG,bne,h1];refine gi ?_;refine Zk rfl rfl ?_;refine Zb ?_ (.bool _) rfl;try simp only[go_sem,simprocAttr,QY,Uf,QW,QX,hx,h1]
  exact .refl _
 |true=>
 cases L2:((a.heads.length:Int)==b.heads.length)with
 |false=>
  have eL2:eqL eqA a.heads b.heads=false:=Xl (nat_ne L2);refine nr ?_;simp only[go_sem,simprocAttr,Gy,QN,QG,bne,h1,L2];refine gi ?_;refine Zk rfl rfl ?_;refine Zb ?_ (.bool _) rfl;try simp only[go_sem,simprocAttr,QY,Uf,QW,QX,hx,h1,eL2]
  exact .refl _
 |true=>
 have nL2:a.heads.length=b.heads.length:=nat_eq L2;cases h3:(a.lower==b.lower)with
 |false=>
  refine nr ?_;simp only[go_sem,simprocAttr,Gy,QN,QG,bne,h1,L2,h3];refine gi ?_;refine Zk rfl rfl ?_;refine Zb ?_ (.bool _) rfl;try simp only[go_sem,simprocAttr,QY,Uf,QW,QX,hx,h1,L2,h3]
  exact .refl _
 |true=>
 cases h4:(a.upper==b.upper)with
 |false=>
  refine nr ?_;simp only[go_sem,simprocAttr,Gy,QN,QG,bne,h1,L2,h3,h4];refine gi ?_;refine Zk rfl rfl ?_;refine Zb ?_ (.bool _) rfl;try simp only[go_sem,simprocAttr,QY,Uf,QW,QX,hx,h1,L2,h3,h4]
  exact .refl _
 |true=>
 cases L5:((a.body.length:Int)==b.body.length)with
 |false=>
  have eL5:eqL VX a.body b.body=false:=Xl (nat_ne L5);refine nr ?_;simp only[go_sem,simprocAttr,Gy,QN,QG,bne,h1,L2,h3,h4,L5];refine gi ?_;refine Zk rfl rfl ?_;refine Zb ?_ (.bool _) rfl;try simp only[go_sem,simprocAttr,QY,Uf,QW,QX,hx,h1,h3,h4,eL5]
  exact .refl _
 |true=>
 have nL5:a.body.length=b.body.length:=nat_eq L5;cases h6:(a.weight==b.weight)with
 |false=>
  refine nr ?_;simp only[go_sem,simprocAttr,Gy,QN,QG,bne,h1,L2,h3,h4,L5,h6];refine gi ?_;refine Zk rfl rfl ?_;refine Zb ?_ (.bool _) rfl;try simp only[go_sem,simprocAttr,QY,Uf,QW,QX,hx,h1,L2,h3,h4,L5,h6]
  exact .refl _
 |true=>
 cases h7:(a.level==b.level)with
 |false=>
  refine nr ?_;simp only[go_sem,simprocAttr,Gy,QN,QG,bne,h1,L2,h3,h4,L5,h6,h7];refine gi ?_;refine Zk rfl rfl ?_;refine Zb ?_ (.bool _) rfl;try simp only[go_sem,simprocAttr,QY,Uf,QW,QX,hx,h1,L2,h3,h4,L5,h6,h7]
  exact .refl _
 |true=>
 cases L8:((a.tuple.length:Int)==b.tuple.length)with
 |false=>
  have eL8:eqL eqT a.tuple b.tuple=false:=Xl (nat_ne L8);refine nr ?_;simp only[go_sem,simprocAttr,Gy,QN,QG,bne,h1,L2,h3,h4,L5,h6,h7,L8];refine gi ?_;refine Zk rfl rfl ?_;refine Zb ?_ (.bool _) rfl;try simp only[go_sem,simprocAttr,QY,Uf,QW,QX,hx,h1,h3,h4,h6,h7,eL8]
  exact .refl _
 |true=>
 have nL8:a.tuple.length=b.tuple.length:=nat_eq L8;refine nr ?_;simp only[go_sem,simprocAttr,Gy,QN,QG,bne,h1,L2,h3,h4,L5,h6,h7,L8];refine XY (Zf func50 rfl rfl) (c50 a.tuple b.tuple ha.tl ha.t hb.t nL8) sS ?_;have hz:=Zne ha.t hb.t nL8;cases h8:(cmpT.cmps a.tuple b.tuple==0)with
 |false=>
  simp only[go_sem,simprocAttr,bne,h1,L2,h3,h4,L5,h6,h7,L8,h8];refine gi ?_;refine Zk rfl rfl ?_;refine Zb ?_ (.bool _) rfl;try simp only[go_sem,simprocAttr,QY,Uf,QW,QX,hx,h1,h3,h4,h6,h7,hz.symm.trans h8]
  exact .refl _
 |true=>
 simp only[go_sem,simprocAttr,bne,h1,L2,h3,h4,L5,h6,h7,L8,h8];refine nF ?_;have hy8:eqI a b=(eqL eqA a.heads b.heads&&eqL VX a.body b.body):=by rw[hx,h1,h3,h4,h6,h7,hz.symm.trans h8];simp only[QX,Uf]
 clear hx;have hx:=hy8;refine gh ?_;refine ZG (Zvq n a b H) (fun i=>∀j (h:j<a.heads.length),j<i->eqA a.heads[j] (b.heads[j]'om)=true) a.heads.length rfl ?_ (fun j _ h=>absurd h (Qj _)) ?_
 ·apply kZ;repeat' first|apply q0|exact xx|apply aI
  all_goals first|exact hbx _|exact hby _|exact(Zaz _).inside|skip
 intro i hi hq;refine ZV rfl ?_;rcases Qd i a.heads.length with h|h
 ·have h':i<b.heads.length:=om;refine nq h ?_;refine nT ?_;refine dq4 (getD_map Am.enc _ _ h) h (getD_map Am.enc _ _ h') h' ?_;refine cP (ZsI _ _ (ha.h _ (Qa h)) (hb.h _ (Qa h'))) ?_;cases h5:eqA a.heads[i] b.heads[i]with
  |false=>
   refine nTq h5 ?_;refine nR ?_;refine nW ?_;refine Zb ?_ (.bool _) rfl;simp only[go_sem,simprocAttr,QY,Uf,QW,QX,hx,YM h h' h5];exact .refl _
  |true=>
   refine nFq h5 ?_;refine gd ?_;refine⟨fun j hj hji=>?_,?_⟩
   ·rcases Qd j i with h'|h'
    ·exact hq j hj h'
    ·have:j=i:=om;subst this;exact h5
   ·apply kZ;repeat' first|apply q0|exact xx|apply aI
    all_goals first|exact hbx _|exact hby _|exact(Zaz _).inside|skip
    refine aS ?_;rw[iw];exact .refl _
 have hA:eqL eqA a.heads b.heads=true:=Xa nL2 (fun j h h'=>hq j h om);rw[hA,QX]at hx;refine nq (QC.2 h) ?_;refine gg ?_;refine gh ?_;refine ZG (Zvr n a b H) (fun i=>∀j (h:j<a.body.length),j<i->VX a.body[j] (b.body[j]'om)=true) a.body.length rfl ?_ (fun j _ h=>absurd h (Qj _)) ?_
 ·apply kZ;repeat' first|apply q0|exact xx|apply aI
  all_goals first|exact hbx _|exact hby _|exact(Zaz _).inside|skip
 clear hq h hi;intro i hi hq;refine ZV rfl ?_;rcases Qd i a.body.length with h|h
 ·have h':i<b.body.length:=om;refine nq h ?_;refine nT ?_;refine dq4 (getD_map GBd.enc _ _ h) h (getD_map GBd.enc _ _ h') h' ?_;refine cP (c52 _ _ (ha.b _ (Qa h)) (hb.b _ (Qa h'))) ?_;cases h5:VX a.body[i] b.body[i]with
  |false=>
   refine nTq h5 ?_;refine nR ?_;refine nW ?_;refine Zb ?_ (.bool _) rfl;simp only[go_sem,simprocAttr,QY,Uf,QW,QX,hx,YM h h' h5];exact .refl _
  |true=>
   refine nFq h5 ?_;refine gd ?_;refine⟨fun j hj hji=>?_,?_⟩
   ·rcases Qd j i with h'|h'
    ·exact hq j hj h'
    ·have:j=i:=om;subst this;exact h5
   ·apply kZ;repeat' first|apply q0|exact xx|apply aI
    all_goals first|exact hbx _|exact hby _|exact(Zaz _).inside|skip
    refine aS ?_;rw[iw];exact .refl _
 ·refine nq (QC.2 h) ?_;refine gt ?_;refine Zb ?_ (.bool _) rfl;refine aq2 hx (Xa nL5 (fun j h h'=>hq j h om)) ?_;exact .refl _
def o4:Opt:=⟨true,true,fun d=>if d=44 then .heap else .auto,[]⟩
def e4(a b:Ins)(ha:WdI a)(hb:WdI b)(H:Za)(hT:Tabs H):PC prog 1 4 [a.enc,b.enc] H (.bool true):=by
 refine aF func4 fun B=>?_
 refine gc ?_;generalize hg:decide (_>(80:Int))=g;cases g with
 |true=>
  refine nT ?_;refine V3 tok rfl rfl ?_;refine aS ?_;refine cQ (aw6 _ (hT.full Nat.one_pos)) ?_;refine aS ?_;exact pB
 |false=>
  refine nF ?_;repeat refine kn rfl ?_
  refine Vf tok mixed o4 rfl rfl (by kernel_rfl) (by kernel_rfl) ?_;simp only[go_sem,simprocAttr,o4];refine W9 (Zf func12 rfl rfl) (Ztm a b ha hb) sS ?_;simp only[go_sem,simprocAttr,o4];refine W9 (Zf func13 rfl rfl) (c13 a b ha hb) sS ?_;simp only[go_sem,simprocAttr,o4,beq_self_eq_true];refine W9 (Zf func12 rfl rfl) (Ztm a b ha hb) sS ?_;simp only[go_sem,simprocAttr,o4];refine W9 (Zf func14 rfl rfl) (e14 a b ha) sS ?_;simp only[go_sem,simprocAttr,o4,beq_self_eq_true];refine W9 (Zf func12 rfl rfl) (ZpH a▸Ztm a a ha ha) sS ?_;simp only[go_sem,simprocAttr,o4];refine Zgj (Zf func6 rfl rfl) (fun G hG=>aw6 G (Jl hG▸hT.full Nat.one_pos)) rfl ?_;simp only[go_sem,simprocAttr];exact pB
open Go.ChangeShapes Go.WideShapes Go.ChangeAt Go.RowKit
def rdS:List TypeId:=[3,4,5,9,23,25,29,33,49,51,61,62,64,66,68]
theorem rdOk:ZmA tt rdS=true:=by kernel_rfl
def wf_u8{n:Int}(h:(Lit.int .u8 n).wf=true):0<=n/\n<=255:=by
 simp[Lit.wf,IntKind.min,IntKind.max,IntKind.signed,IntKind.bits]at h;omega
def Zk4{n:Nat}(h:n<=reachBytes):n<=140737488355328:=UA h dc
theorem r3:tt 3=some ⟨.int .i64,1,8,[.int .i64 0]⟩:=rfl
theorem r4:tt 4=some ⟨.bool,1,1,[.bool false]⟩:=rfl
theorem r5:tt 5=some ⟨.int .u8,1,1,[.int .u8 0]⟩:=rfl
theorem r9:tt 9=some ⟨.str,1,16,[.str []]⟩:=rfl
theorem r23:tt 23=some ⟨.slice 25,1,24,[.sl 4 [] .full]⟩:=rfl
theorem r25:tt 25=some ⟨.struct [(0,5),(1,3),(2,9),(3,23)],4,56,[.int .u8 0,.int .i64 0,.str [],.sl 4 [] .full]⟩:=rfl
theorem r29:tt 29=some ⟨.slice 33,1,24,[.sl 2 [] .full]⟩:=rfl
theorem r33:tt 33=some ⟨.struct [(0,9),(1,23)],2,40,[.str [],.sl 4 [] .full]⟩:=rfl
theorem r49:tt 49=some ⟨.slice 64,1,24,[.sl 9 [] .full]⟩:=rfl
theorem r51:tt 51=some ⟨.struct [(0,5),(1,29),(2,3),(3,3),(4,49),(5,3),(6,3),(7,23)],8,112,[.int .u8 0,.sl 2 [] .full,.int .i64 0,.int .i64 0,.sl 9 [] .full,.int .i64 0,.int .i64 0,.sl 4 [] .full]⟩:=rfl
theorem r61:tt 61=some ⟨.struct [(0,4),(1,33)],3,48,[.bool false,.str [],.sl 4 [] .full]⟩:=rfl
theorem r62:tt 62=some ⟨.slice 68,1,24,[.sl 2 [] .full]⟩:=rfl
theorem r64:tt 64=some ⟨.struct [(0,5),(1,61),(4,4),(5,5),(6,62),(7,5),(8,3)],9,104,[.int .u8 0,.bool false,.str [],.sl 4 [] .full,.bool false,.int .u8 0,.sl 2 [] .full,.int .u8 0,.int .i64 0]⟩:=rfl
theorem r66:tt 66=some ⟨.slice 61,1,24,[.sl 3 [] .full]⟩:=rfl
theorem r68:tt 68=some ⟨.struct [(0,23),(1,66)],2,48,[.sl 4 [] .full,.sl 3 [] .full]⟩:=rfl
def Zmd{α:Type}{p:α->Prop}{enc:α->LA}:∀{xs:List LA},(∀x∈xs,∃a,x=enc a/\p a)-> ∃l:List α,xs=l.map enc/\ ∀a∈l,p a
 |[],_=>⟨[],rfl,sm⟩
 |x::xs,h=>by
  obtain⟨a,f,c⟩:=h x sm;obtain⟨l,g,e⟩:=Zmd (xs:=xs) (fun y d=>h y (by simp[d]));exact⟨a::l,by rw[f,g];rfl,fun b hb=>by rcases Ql.1 hb with rfl|hb;exact c;exact e b hb⟩
section
variable {cs:LA}
def ZlX{t:TypeId}(h:Xy tt t cs):(t=25-> ∃u:Tm,cs=u.cs/\Wd u)/\(t=23-> ∃l:LT,cs=[.sl 4 (l.map Tm.enc) .any]/\l.length<=10000000000000/\ ∀u∈l,Wd u):=by
 induction h with
 |int h hd hw=>exact⟨fun e=>(by subst e;rw[r25]at h;cases h;cases hd),fun e=>(by subst e;rw[r23]at h;cases h;cases hd)⟩
 |bool h hd=>exact⟨fun e=>(by subst e;rw[r25]at h;cases h;cases hd),fun e=>(by subst e;rw[r23]at h;cases h;cases hd)⟩
 |str h hd a=>exact⟨fun e=>(by subst e;rw[r25]at h;cases h;cases hd),fun e=>(by subst e;rw[r23]at h;cases h;cases hd)⟩
 |slice xs h hd he d a ih=>
  refine⟨fun e=>(by subst e;rw[r25]at h;cases h;cases hd),fun e=>?_⟩;subst e;rw[r23]at h;cases h;cases hd;rw[r25]at he;cases he;obtain⟨l,c,g⟩:=Zmd (enc:=Tm.cs) (p:=Wd) (fun x d=>(ih x d).1 rfl);refine⟨l,?_,?_,g⟩
  ·rw[c,QbH];congr 2
   exact MG fun u _=>by simp[XT,Zp.isAgg,Tm.Zc3]
  ·rw[c,Qv]at a;have i:l.length*56<=140737488355328:=Zk4 a;omega
 |struct h hd ps a hf ih=>
  refine⟨fun e=>?_,fun e=>(by subst e;rw[r23]at h;cases h;cases hd)⟩;subst e;rw[r25]at h;cases h;cases hd
  match ps,a with
  |[p0,p1,p2,p3],_=>
   obtain⟨k,rfl,f⟩:=(hf 0 sm sm).WA r5 rfl;obtain⟨n,rfl,m⟩:=(hf 1 sm sm).WA r3 rfl;obtain⟨s,rfl,j⟩:=(hf 2 sm sm).Zju r9 rfl;obtain⟨l,rfl,a,b⟩:=(ih 3 sm sm).2 rfl;exact⟨.mk k n s l,rfl,.mk k n s l (wf_u8 f) a b⟩
def ZpI(h:Xy tt 33 cs):∃a:Am,cs=a.cs/\WdA a:=by
 obtain⟨e,rfl,c,d⟩:=h.JY r33 rfl
 match e,c with
 |[p0,p1],_=>
  obtain⟨s,rfl,f⟩:=(d 0 sm sm).Zju r9 rfl;obtain⟨l,rfl,c,b⟩:=(ZlX (d 1 sm sm)).2 rfl;exact⟨⟨s,l⟩,rfl,c,b⟩
def ZdF{α:Type}{e t k:Nat}{r re:Zp}{enc:α->AV}{acs:α->LA}{p:α->Prop}(h:Xy tt t cs)(hr:tt t=some r)(hd:r.td= .slice e)(he:tt e=some re)(hk:re.size=k)(ha:re.isAgg=true)(d:16<=re.bytes)
  (hc:∀x,enc x= .agg (acs x)) (hf:∀cs,Xy tt e cs-> ∃a:α,cs=acs a/\p a):∃l:List α,cs=[.sl k (l.map enc) .any]/\l.length<=10000000000000/\ ∀a∈l,p a:=by
 obtain⟨xs,rfl,hx,b⟩:=h.Zo7 hr hd he;obtain⟨l,rfl,f⟩:=Zmd (enc:=acs) (p:=p) (fun x c=>hf x (hx x c));refine⟨l,?_,?_,f⟩
 ·rw[QbH,hk];congr 2
  exact MG fun u _=>by simp only[Function.comp,XT,ha,if_true,hc]
 ·rw[Qv]at b;have g:=Zk4 b;have i:=Qau l.length d;omega
def ZpJ(h:Xy tt 61 cs):∃x:GL,cs=x.cs/\WdA x.a:=by
 obtain⟨d,rfl,c,b⟩:=h.JY r61 rfl
 match d,c with
 |[p0,p1],_=>
  obtain⟨g,rfl⟩:=(b 0 sm sm).Zgi r4 rfl;obtain⟨a,rfl,e⟩:=ZpI (b 1 sm sm);exact⟨⟨g,a⟩,rfl,e⟩
def Ztp(h:Xy tt 68 cs):∃x:GE,cs=x.cs/\WdE x:=by
 obtain⟨g,rfl,d,f⟩:=h.JY r68 rfl
 match g,d with
 |[p0,p1],_=>
  obtain⟨l,rfl,d,b⟩:=(ZlX (f 0 sm sm)).2 rfl;obtain⟨c,rfl,i,e⟩:=ZdF (enc:=GL.enc) (acs:=GL.cs) (p:=fun x=>WdA x.a) (f 1 sm sm) r66 rfl r61 rfl rfl dc (fun _=>rfl) fun _ h=>ZpJ h
  exact⟨⟨l,c⟩,rfl,d,b,i,e⟩
def Zto(h:Xy tt 64 cs):∃x:GBd,cs=x.cs/\WdB x:=by
 obtain⟨d,rfl,c,a⟩:=h.JY r64 rfl
 match d,c with
 |[p0,p1,p2,p3,p4,p5,p6],_=>
  obtain⟨k,rfl,_⟩:=(a 0 sm sm).WA r5 rfl;obtain⟨x,rfl,e⟩:=ZpJ (a 1 sm sm);obtain⟨g,rfl⟩:=(a 2 sm sm).Zgi r4 rfl;obtain⟨f,rfl,_⟩:=(a 3 sm sm).WA r5 rfl;obtain⟨l,rfl,c,b⟩:=ZdF (enc:=GE.enc) (acs:=GE.cs) (p:=WdE) (a 4 sm sm) r62 rfl r68 rfl rfl dc (fun _=>rfl) fun _ h=>Ztp h
  obtain⟨o,rfl,_⟩:=(a 5 sm sm).WA r5 rfl;obtain⟨n,rfl,_⟩:=(a 6 sm sm).WA r3 rfl;exact⟨⟨k,x,g,f,l,o,n⟩,rfl,e,c,b⟩
def ZrK(h:Xy tt 51 cs):∃x:Ins,cs=x.cs/\WdI x:=by
 obtain⟨g,rfl,e,a⟩:=h.JY r51 rfl
 match g,e with
 |[p0,p1,p2,p3,p4,p5,p6,p7],_=>
  obtain⟨k,rfl,_⟩:=(a 0 sm sm).WA r5 rfl;obtain⟨n,rfl,d,f⟩:=ZdF (enc:=Am.enc) (acs:=Am.cs) (p:=WdA) (a 1 sm sm) r29 rfl r33 rfl rfl dc (fun _=>rfl) fun _ h=>ZpI h
  obtain⟨o,rfl,_⟩:=(a 2 sm sm).WA r3 rfl;obtain⟨q,rfl,_⟩:=(a 3 sm sm).WA r3 rfl;obtain⟨b,rfl,i,m⟩:=ZdF (enc:=GBd.enc) (acs:=GBd.cs) (p:=WdB) (a 4 sm sm) r49 rfl r64 rfl rfl dc (fun _=>rfl) fun _ h=>Zto h
  obtain⟨w,rfl,_⟩:=(a 5 sm sm).WA r3 rfl;obtain⟨j,rfl,_⟩:=(a 6 sm sm).WA r3 rfl;obtain⟨l,rfl,e,c⟩:=(ZlX (a 7 sm sm)).2 rfl;exact⟨⟨k,n,o,q,b,w,j,l⟩,rfl,d,f,i,m,e,c⟩
def Zm6(h:Xy tt 51 cs):∃x:Ins,Zlw tt 51 cs=x.enc/\WdI x:=by
 obtain⟨a,rfl,b⟩:=ZrK h;exact⟨a,rfl,b⟩
/-! The variables of Go's library. -/
theorem own:ownKnob prog.godebug=none:=by kernel_rfl
theorem ZuO : Tryz.prog.globalNamed "internal/strconv.uint64pow10" = some 1 := by kernel_rfl
theorem gPowT:(prog.globals[1]?).map (·.type)=some 421:=by kernel_rfl
theorem cells421:prog.cellsOf 421=20:=by kernel_rfl
theorem cells336:prog.cellsOf 336=1:=by kernel_rfl
variable {W:World}
def Zse (h : laidMetH Tryz.prog Rows.instanceSameRow.laid W) : Lib.TabIs Tryz.prog W "internal/strconv.uint64pow10" .u64 Lib.pow10Tab := by
 have h1 := laidMetH.filter (fun x => x.1 == "internal/strconv.uint64pow10") h
 exact Lib.tabIs_of_head (rest:=[]) ZuO gPowT Tryz.underlying421 Tryz.underlying336 cells336 cells421 h1
def Zfq(W:World):Env where
 F:=fun b o=>if b=0\/b=1 then none else W.cell? ⟨b,o,none⟩
 m:=fun l k=>if l=0/\k=0 then some 0 else if l=0/\k=1 then some 1 else none
 hist:=fun _ _ _=>none
 g:=fun _ _=>none
 qd:=false
def ZhZ(m:Int):Za:=fun l k=>if l=0/\k=0 then some (.var 0 3 [.int .i64 m])else if l=0/\k=1 then some (.var 1 421 (Lib.pow10Tab.map (.int .u64)))else none
def ZvS(m:Int):Tabs (ZhZ m):=⟨m,3,421,rfl,rfl⟩
def ZrA (hsh : W.ShapedOpen Tryz.prog) (hL : Lib.TabIs Tryz.prog W "internal/strconv.uint64pow10" .u64 Lib.pow10Tab) :
  ∃m,W.heap[0]? =some (.cells #[.int .i64 m] 3 (0,0))/\W.heap[1]? =some (.cells (Lib.pow10Tab.map fun z=>Value.int .u64 z).toArray 421 (0,0)):=by
 obtain⟨m,hm⟩:=cell_of_shapedOpen_int (P:=prog) (g:=0) (t:=3) (zero:=#[.int .i64 0]) hsh (of_decide_eq_true (by kernel_rfl)) (by kernel_rfl) rfl (by kernel_rfl) (by kernel_rfl) Tryz.underlying3;obtain⟨cs,h1,h2,_⟩:=hsh.1 0 #[.int .i64 0] 3 (of_decide_eq_true (by kernel_rfl)) (by kernel_rfl);obtain⟨cs3,h3,h4,_⟩:=hsh.1 1 (Array.replicate 20 (.int .u64 0)) 421 (of_decide_eq_true (by kernel_rfl)) (by kernel_rfl);refine⟨m,?_,?_⟩
 ·have hs:cs.size=1:=h2;simp only[World.cell?,h1]at hm;rw[h1];have:cs= #[.int .i64 m]:=by
   apply Array.ext_getElem?;intro i;cases i with
   |zero=>simpa using hm
   |succ i=>rw[Qad om,Qad sm]
  rw[this]
 ·unfold Lib.TabIs World.var? at hL;rw[ZuO]at hL;simp only[UY,h3]at hL;rw[h3,Uu hL]
def ZuQ{m:Int}(d:W.heap[0]? =some (.cells #[.int .i64 m] 3 (0,0)))(f:W.heap[1]? =some (.cells (Lib.pow10Tab.map fun z=>Value.int .u64 z).toArray 421 (0,0))):Zo 1 (ZhZ m) (Zfq W) W:=by
 have a:∀l k b,(Zfq W).m l k=some b->(l=0/\k=0/\b=0)\/(l=0/\k=1/\b=1):=fun l k b h=>by
  simp only[Zfq]at h;split at h
  ·rename_i e;cases h;exact .inl ⟨e.1,e.2,rfl⟩
  ·split at h
   ·rename_i e;cases h;exact .inr ⟨e.1,e.2,rfl⟩
   ·cases h
 refine{norm:=⟨fun l k c=>?_,fun _ _ _=>rfl,fun _ _ _ _=>rfl⟩,F:=fun b o v h=>?_,blk:=fun l k b c h=>?_,dom:=fun l k c h=>?_,nobuf:=fun l k h=>absurd rfl h,inj:=fun l k q s b h j=>?_,injg:=fun _ _ _ _ _ h=>(by cases h),mg:=fun _ _ _ _ _ _ h=>(by cases h),mF:=fun l k b o h=>?_,lt:=fun b h=>?_}
 ·simp only[Zfq];rw[if_neg om,if_neg om]
 ·simp only[Zfq]at h;split at h
  ·cases h
  ·exact h
 ·simp only[ZhZ]at h;split at h
  ·rename_i e;obtain⟨rfl,rfl⟩:=e;cases h;exact⟨rfl,rfl,_,d,VRs.cons (.int _ _) (VRs.nil _)⟩
  ·split at h
   ·rename_i e;obtain⟨rfl,rfl⟩:=e;cases h;exact⟨rfl,rfl,_,f,sm,fun i r p=>by simp only[QZ,U3];exact .int _ _⟩
   ·cases h
 ·simp only[ZhZ]at h;split at h
  ·cases h
  ·rename_i n;split at h
   ·cases h
   ·rename_i g;simp only[Zfq];rw[if_neg n,if_neg g];simp
 ·rcases a _ _ _ h with⟨rfl,rfl,rfl⟩|⟨rfl,rfl,rfl⟩<;>rcases a _ _ _ j with⟨rfl,rfl,e⟩|⟨rfl,rfl,e⟩<;>first|(cases e;done)|exact⟨trivial,trivial⟩|exact⟨rfl,rfl⟩|simp
 ·rcases a _ _ _ h with⟨_,_,rfl⟩|⟨_,_,rfl⟩<;>simp[Zfq]
 ·rcases h with⟨l,k,h⟩|⟨l,k,h⟩
  ·rcases a _ _ _ h with⟨_,_,rfl⟩|⟨_,_,rfl⟩
   ·exact(QO.1 d).1
   ·exact(QO.1 f).1
  ·cases h
def Zs9{e:World}{m:Int}{g:Env}(s:W.heap[0]? =some (.cells #[.int .i64 m] 3 (0,0)))(t:W.heap[1]? =some (.cells (Lib.pow10Tab.map fun z=>Value.int .u64 z).toArray 421 (0,0)))
  (n:Zo 1 (ZhZ m) g e) (a:Ext 1 (Zfq W) W g e):Go.RowKit.Below W.heap.size W e:=by
 refine⟨a.os,a.tape,a.output,a.size,fun k o=>?_⟩;by_cases f:k=0
 ·subst f;obtain⟨_,_,c,d,b⟩:=n.blk 0 0 (.var 0 3 [.int .i64 m]) om rfl;obtain⟨x,r,q,p,u⟩:=b.Yw;cases p;rw[d,s,show c= #[.int .i64 m] from Qaa.1 (by rw[q,u.of_nil])]
 ·by_cases i:k=1
  ·subst i;obtain⟨_,_,c,d,b⟩:=n.blk 0 1 (.var 1 421 (Lib.pow10Tab.map (.int .u64))) om rfl;rw[d,t,show c=_ from Qaa.1 (VRs.ZtY b)]
  ·refine a.block k o ?_;rintro(⟨l,j,h⟩|⟨l,j,h⟩)
   ·simp only[Zfq]at h;split at h
    ·cases h;exact f rfl
    ·split at h
     ·cases h;exact i rfl
     ·cases h
   ·cases h
def Zqc{H:Type}{enc:TypeId×Value->H}(f:Nat)(ts:List TypeId)(hts:∀t∈ts,t∈rdS)(h:∀cs,ZjI tt ts cs-> ∀H,Tabs H->PC prog 1 f (wraps tt ts cs) H (.bool true))
  (W:World) (base:Nat) (args:Array Value) (ds:List (DataW H)) (ps:List MemPlace) (hA:DataW.TrodAll enc prog W 0 (fun _=>true) true ts args.toList ds ps)
  (hok:∀(j:Nat) t v,ts[j]? =some t->args.toList[j]? =some v->Value.okWide prog W .any base t v) (hw:∀n∈DataW.weightsEach prog ts ds,n<=reachBytes)
  (hsh : W.ShapedOpen Tryz.prog) (hL : Lib.TabIs Tryz.prog W "internal/strconv.uint64pow10" .u64 Lib.pow10Tab) :
  Calls prog f args W fun e W'=>e= .returned (.bool true)/\Go.RowKit.Below W.heap.size W W':=by
 obtain⟨m,h0,h3⟩:=ZrA hsh hL;obtain⟨cs,hf,hv⟩:=Zm7 (E:=Zfq W) (X:=fun b=>b=0\/b=1) tok rdS rdOk (fun b o v hX hc=>by simp only[Zfq];rw[if_neg hX];exact hc)
  (fun b o v hX hc=>by
   rcases hX with rfl|rfl
   ·simp only[World.cell?,h0]at hc;cases o with
    |zero=>simp at hc;exact .inl ⟨m,hc.symm⟩
    |succ o=>simp at hc
   ·simp only[World.cell?,h3]at hc;simp only[Qae,QE,if_false,List.getElem?_toArray,Ub,Ur]at hc;obtain⟨z,_,rfl⟩:=hc;exact .inr ⟨z,rfl⟩) ts args.toList ds ps hA hts hok hw
 have hc:=h cs hf (ZhZ m) (ZvS m) (Zfq W) W args.toList (ZuQ h0 h3) hv;refine Calls.mono hc ?_;rintro e W' ⟨r,v,H',E',rfl,⟨rfl,rfl⟩,h1,h2,h4⟩;cases h1;exact⟨rfl,Zs9 h0 h3 h2 h4⟩
end
theorem laidOut : laidOutB Tryz.prog = true := by kernel_rfl
theorem ZtK : rdS.all (fun t => Tryz.prog.readableRec t && decide (t < Tryz.prog.types.size)) = true := by kernel_rfl
theorem Zvd {t : TypeId} (h : t ∈ rdS) : Tryz.prog.readableRec t = true ∧ t < Tryz.prog.types.size := by
  have := List.all_eq_true.1 ZtK t h
  simpa using this
theorem Zd9 {H : Type} {enc : TypeId × Value → H} {P : Program} {W : World} {b : Nat} {sp : Nat → Bool} {hd : Bool} : ∀ {ts : List TypeId} {vs : List Value} {ds : List (DataW H)} {ps : List MemPlace}, DataW.TrodAll enc P W b sp hd ts vs ds ps → ds.length = ts.length
  | [], [], [], _, _ => rfl
  | t :: ts, v :: vs, d :: ds, ps, h => by
    obtain ⟨p, q, _, h2, _⟩ := h
    simp only [List.length_cons, Zd9 h2]
  | [], _ :: _, _, _, h => h.elim
  | [], [], _ :: _, _, h => h.elim
  | _ :: _, [], _, _, h => h.elim
  | _ :: _, _ :: _, [], _, h => h.elim
theorem Ziq {H : Type} {enc : TypeId × Value → H} {W W' : World} (hb : Go.RowKit.Below W.heap.size W W') : ∀ {ts : List TypeId} {vs : List Value} {ds : List (DataW H)} {ps : List MemPlace}, (∀ t ∈ ts, t ∈ rdS) →
    DataW.TrodAll enc Tryz.prog W 0 (fun _ => true) true ts vs ds ps → (∀ x ∈ ps, x.block < W.heap.size) → DataW.TrodAll enc Tryz.prog W' 0 (fun b => decide (b < W.heap.size)) true ts vs ds ps
  | [], [], [], _, _, h, _ => h
  | t :: ts, v :: vs, d :: ds, ps, hts, h, hlt => by
    obtain ⟨p, q, h1, h2, rfl⟩ := h
    have hr := Zvd (hts t (List.mem_cons_self ..))
    exact ⟨p, q, Go.RowKit.Below.trod laidOut hr.1 hr.2 h1 hb (fun x hx => hlt x (List.mem_append_left _ hx)), Ziq hb (fun t h => hts t (List.mem_cons_of_mem _ h)) h2 (fun x hx => hlt x (List.mem_append_right _ hx)), rfl⟩
  | [], _ :: _, _, _, _, h, _ => h.elim
  | [], [], _ :: _, _, _, h, _ => h.elim
  | _ :: _, [], _, _, _, h, _ => h.elim
  | _ :: _, _ :: _, [], _, _, h, _ => h.elim
theorem Zxv : Tryz.prog.underlying 4 = some .bool := by kernel_rfl
theorem Zqb {H : Type} {enc : TypeId × Value → H} (f : Nat) (fn : Func) (s : ChangeSpec) (ts : List TypeId) (hp : fn.params.toList = ts) (hr : fn.resultTypes = #[4]) (hs : s.vars = [])
    (hfn : ∀ ds : List (DataW H), ds.length = ts.length → s.fn H ds = { results := [.lit (.bool true)], args := ds })
    (hts : ∀ t ∈ ts, t ∈ rdS) (h : ∀ cs, ZjI tt ts cs → ∀ H, Tabs H → PC Tryz.prog 1 f (wraps tt ts cs) H (.bool true))
    (W : World) (base : Nat) (args : Array Value) (ds gs : List (DataW H)) (before : List MemPlace)
    (hval : ∀ (j : Nat) t v, fn.params[j]? = some t → args[j]? = some v → Value.okWide Tryz.prog W .any base t v)
    (hW : DataW.Whole enc Tryz.prog fn.params.toList s.vars false W args.toList ds gs before)
    (hw : ∀ n ∈ DataW.weightsEach Tryz.prog ts ds, n ≤ reachBytes)
    (hsh : W.ShapedOpen Tryz.prog) (hL : Lib.TabIs Tryz.prog W "internal/strconv.uint64pow10" .u64 Lib.pow10Tab) :
    Calls Tryz.prog f args W fun e W' => ∃ v, e = .returned v ∧ s.post enc Tryz.prog fn false true false false W args v W' := by
  have hlt := hW.lt
  have hW' := hW
  obtain ⟨p, q, hA, hV, rfl, hfz, hnd⟩ := hW
  rw [hs] at hV
  obtain ⟨rfl, rfl⟩ := trodVars_none hV
  rw [hp] at hA
  simp only [List.append_nil] at hlt hW'
  have hval' : ∀ (j : Nat) t v, ts[j]? = some t → args.toList[j]? = some v → Value.okWide Tryz.prog W .any base t v := fun j t v h1 h2 =>
    hval j t v (by rw [← hp] at h1; simpa using h1) (by simpa using h2)
  have w := Zqc f ts hts h W base args ds p hA hval' hw hsh hL
  refine w.mono fun e W' ⟨he, hg⟩ => ?_
  subst he
  refine ⟨_, rfl, ds, [], p, [], p, [], hW', ?_, ?_, ?_, hg.frame _, fun h => by cases h⟩
  · rw [List.append_nil, hfn ds (Zd9 hA), hr]
    exact trodAll_mk1 (shut_bool Zxv true)
  · rw [List.append_nil, hfn ds (Zd9 hA), hp]
    exact Ziq hg hts hA hlt
  · rw [List.append_nil, hfn ds (Zd9 hA), hs]
    exact rfl
theorem ZmV {H : Type} {ts : List TypeId} {ds : List (DataW H)} (h : (DataW.weightsEach Tryz.prog (ts ++ []) (ds ++ [])).all (· ≤ reachBytes) = true) : ∀ n ∈ DataW.weightsEach Tryz.prog ts ds, n ≤ reachBytes := by
  intro n hn
  rw [List.append_nil, List.append_nil] at h
  simpa using List.all_eq_true.1 h n hn
theorem ZoF {P : Program} (h : P.funcs.toList.all (fun fn => !fn.goes) = true) {c : OpenClaim} (hs : c.start = .entering) : false = c.goesBy P := by
  have h1 : ∀ g : Nat, ((P.funcs[g]?).any Func.goes) = false := fun g => by
    cases h' : P.funcs[g]? with
    | none => rfl
    | some fn => simpa using List.all_eq_true.1 h fn (Array.mem_toList_iff.2 (Array.mem_of_getElem? h'))
  have h2 : ∀ f, P.goes f = false := fun f => by
    have h3 : P.funcs.any Func.goes = false := by
      rw [Array.any_eq_false]
      intro i hi
      simpa using List.all_eq_true.1 h _ (Array.mem_toList_iff.2 (Array.getElem_mem hi))
    unfold Program.goes
    rw [h3, Bool.and_false, Bool.or_false, List.any_eq_false]
    intro g _
    rw [h1]; simp
  unfold OpenClaim.goesBy Program.goesAt Program.goesFrom
  rw [hs, Bool.or_false]
  cases P.funcNamed c.func with
  | none => rfl
  | some f => simp [h2 f]
def ZsQ : DataW Unit → List Value
  | .lit (.int k n) => [.int k n]
  | _ => []
def ZsR : DataW Unit → List Value
  | .agg l => l.flatMap ZsQ
  | d => ZsQ d
def Zu5 : DataW Unit → List Value
  | .agg l => l.flatMap ZsR
  | d => ZsR d
def lay (d : DataW Unit) : Obj → Obj
  | .cells _ t frozen => .cells (Zu5 d).toArray t frozen
  | o => o
noncomputable def laidWorld (os : Os) : World :=
  { World.holding Tryz.prog os ⟨#[], #[], []⟩ with heap := (((((World.holding Tryz.prog os ⟨#[], #[], []⟩).heap.modify 2 (lay Rows.laid_math_bits_deBruijn32tab)).modify 3 (lay Rows.laid_math_bits_deBruijn64tab)).modify 1
      (lay Rows.laid_internal_strconv_uint64pow10)).modify 5 (lay Rows.laid_unicode_utf8_acceptRanges)).modify 4 (lay Rows.laid_unicode_utf8_first) }
theorem laid_met (os : Os) (args : Array Value) : laidMet Tryz.prog Rows.instanceSameRow.laid ((laidWorld os).forCall (fun _ _ => 0) ⟨#[], args, []⟩).memory :=
  laidMet_of_run' 8 (by kernel_rfl) (by kernel_rfl)
end Go.Proofs.YthajllbimoodjaaGreatDoor
