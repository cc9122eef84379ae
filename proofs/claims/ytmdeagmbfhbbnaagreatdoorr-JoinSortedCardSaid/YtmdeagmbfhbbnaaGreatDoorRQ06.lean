/- Walks over a term. -/
import Derived.Test.YtmdeagmbfhbbnaaGreatDoorRQ05
import Derived.Shelf.Strings.OnBuilder
import Derived.Shelf.Small.Strs
import Derived.Shelf.LaysM
import Derived.Shelf.Strconv.Itoa3
import Derived.Shelf.Strings.Search3
import Derived.Ground.Names2Prog
import Derived.Shelf.Slices.SearchI
import Derived.KernelRfl
import Derived.Test.YtmdeagmbfhbbnaaGreatDoorRProg
import Derived.Test.YtmdeagmbfhbbnaaGreatDoorRRows
import Derived.Lib.ItoaLen
set_option linter.all false
namespace Go.Proofs.YtmdeagmbfhbbnaaGreatDoorR
open Go.Abs
set_option maxRecDepth 100000
def _root_.Go.Abs.Za.YN(H:Za)(x:Nat)(S:Nat→Option Ze):Za:=fun l k=>if l=x then S k else H l k
section
variable {n x:Nat}
theorem VA(h:x≠n)(L:List (Nat×Ze))(H:Za)(S:Nat→Option Ze):full n L (H.YN x S)=(full n L H).YN x S:=by
 funext l k;simp only[full,Za.YN];by_cases h1:l=n
 ·subst h1;rw[if_pos rfl,if_neg (fun e=>h e.symm),if_pos rfl]
 ·rw[if_neg h1,if_neg h1]
variable {S:Nat→Option Ze} {H:Za}
theorem Jl(h:x<n)(hS:∀k b,S k=some b→b.Below (x+1)):ZL n H (H.YN x S):=fun l k b hl hb=>by
 simp only[Za.YN]at hb;split at hb
 ·have:=hS k b hb;exact .inr ⟨fun a ha=>(this.1 a ha).mono h,fun p hp=>Ui (this.2 p hp) h⟩
 ·exact .inl hb
def Zrv(P:Program)(x l:Nat)(p:Tm→Bool)(S:Nat→Option Ze)(H0:Za):Prop:=
 ∀m H (t:Tm),t.Good→x<m→(∀l' k,l'≤x→H l' k=H0 l' k)→VD P m l [t.enc] H fun r H1=>r= .bool (p t)∧H1=if p t then H else H.YN x S
def Zuh(t:Tm)(l n:Nat)(H:Za)(i:Nat):Zb:=
 ⟨[(14,.int .i64 i),(13,.int .i64 t.args.length),(12,.sl 4 (t.args.map Tm.enc) .any),(1,.fn (.yield l) []),(2,.ptr n 2 0)],[(2,.box t.cs)],H⟩
theorem a145{x l:Nat}{p:Tm→Bool}{S:Nat→Option Ze}{H0:Za}(hY:Zrv Tryz.prog x l p S H0)(hS:∀k b,S k=some b→b.Below (x+1))(t:Tm)(ht:t.Good)(n:Nat)(H:Za)(hx:x<n)(hH:∀l' k,l'≤x→H l' k=H0 l' k):
  Zi Tryz.prog n 164 [t.enc,.fn (.yield l) []] H fun r H1=>r= .bool (t.all p)∧H1=if t.all p then H else H.YN x S:=by
 have hlen:=ht.len;refine aF Tryz.func164 fun B=>?_
 have hf:∀(L:List (Nat×Ze)) (l' k:Nat),l'≤x→full n L H l' k=H0 l' k:=fun L l' k h=>by
  simp only[full];rw[if_neg om];exact hH l' k h
 refine nR ?_;refine nR ?_;refine Zrp sS (hY _ _ t ht (show x<n+1 by omega) (hf _)) sS ?_;rintro _ _ ⟨rfl,rfl⟩;have fail:∀(L:List (Nat×Ze)) (tm:List (Nat×AV)),t.all p=false→lkv tm 4= .bool false→PostF Tryz.prog tt n Tryz.f164.results.toList (fun r H1=>r= .bool (t.all p)∧H1=if t.all p then H else H.YN x S) .ret ⟨tm,L,H.YN x S⟩:=by
  intro L tm hall h4;refine⟨by simp[XW],[.bool false],⟨?_,trivial⟩,by simp[ZcX],by rw[hall];rfl,by rw[hall];rfl⟩;show Wk (lkv tm 4) _;rw[h4];exact .refl _
 cases hp:p t with
 |false=>
  have hall:t.all p=false:=by rw[Tm.all_eq,hp];rfl
  refine⟨[(2,.box t.cs)],H.YN x S,by rw[VA (show x≠n by omega)];rfl,Jl hx hS,?_⟩;refine aS ?_;refine nT ?_;refine nR ?_;refine nV ?_;exact fail _ _ hall sS
 |true=>
  refine⟨[(2,.box t.cs)],H,rfl,.refl _ _,?_⟩;refine aS ?_;refine nF ?_;refine nR ?_;refine kK ?_;refine Yc (Zuh t l n H) (fun i=>∀j (h:j<t.args.length),j<i→(t.args[j]).all p=true) t.args.length rfl ?_ (fun j _ h=>absurd h (Qm _)) ?_
  ·exact KK
  intro i hi hq;refine Ya rfl ?_;rcases Qg i t.args.length with h|h
  ·refine nq h ?_;refine nT ?_;refine nr ?_;simp only[go_sem,simprocAttr,Tm.Zp _ _ h,h];refine nR ?_;have hu:=ht.arg (Qa h);refine YW (caps:=[]) (avs:=[t.args[i].enc,.fn (.yield l) []]) rfl (Zf Tryz.func164 rfl rfl) (by rw[Qu];exact a145 hY hS t.args[i] hu (n+1) _ (show x<n+1 by omega) (hf _)) sS ?_;rintro _ _ ⟨rfl,rfl⟩;cases h1:(t.args[i]).all p with
   |false=>
    refine⟨[(2,.box t.cs),(6,.box t.args[i].cs)],H.YN x S,by rw[VA (show x≠n by omega)];rfl,Jl hx hS,?_⟩;refine aS ?_;refine nT ?_;refine nR ?_;refine nW ?_;refine fail _ _ ?_ sS;rw[Tm.all_eq,hp,Tm.VI,MP,←MN,QA];intro hh;have:=hh _ (Qa h);rw[h1]at this;cases this
   |true=>
    refine⟨[(2,.box t.cs),(6,.box t.args[i].cs)],H,rfl,.refl _ _,?_⟩;refine aS ?_;refine nF ?_;refine nR ?_;refine nN ?_;refine⟨fun j hj hji=>?_,?_⟩
    ·rcases Qg j i with h'|h'
     ·exact hq j hj h'
     ·have:j=i:=by omega
      subst this;exact h1
    ·refine Zh ?_ ?_ ?_ ?_<;>repeat' first|apply q0|exact xx|apply aI
     ·refine aS ?_;rw[iw];exact .refl _
  ·refine nq (QE.2 h) ?_;refine nF ?_;refine nX ?_;refine nR ?_;refine nV ?_;have hall:t.all p=true:=by
    rw[Tm.all_eq,hp,Tm.VI,MP,QA];intro u hu;obtain⟨j,hj,rfl⟩:=QJ hu;exact hq j hj om
   refine⟨by simp[XW],[.bool true],⟨?_,trivial⟩,by simp[ZcX],by rw[hall];rfl,by rw[hall];rfl⟩;exact xS
termination_by SizeOf.sizeOf t
decreasing_by exact Tm.Xm (Qa h)
theorem ZvG{l:Nat}{p:Tm→Bool}{H0:Za}(hY:Zrv Tryz.prog x l p S H0)(hS:∀k b,S k=some b→b.Below (x+1))(t:Tm)(ht:t.Good)(n:Nat)(H:Za)(hx:x<n)(hH:∀l' k,l'≤x→H l' k=H0 l' k):
  Zi Tryz.prog n 163 [.fn (.yield l) [],.iptr t.cs] H fun r H1=>H1=if t.all p then H else H.YN x S:=by
 refine aF Tryz.func163 fun B=>?_
 have hf:∀(L:List (Nat×Ze)) (l' k:Nat),l'≤x→full n L H l' k=H0 l' k:=fun L l' k h=>by
  simp only[full];rw[if_neg om];exact hH l' k h
 refine nR ?_;refine YW (caps:=[]) (avs:=[t.enc,.fn (.yield l) []]) rfl (Zf Tryz.func164 rfl rfl) (by rw[Qu];exact a145 hY hS t ht (n+1) _ (show x<n+1 by omega) (hf _)) sS ?_;rintro _ _ ⟨rfl,rfl⟩;refine⟨[],if t.all p then H else H.YN x S,?_,?_,?_⟩
 ·split
  ·rfl
  ·rw[VA (show x≠n by omega)]
 ·split
  ·exact .refl _ _
  ·exact Jl hx hS
 refine aS ?_;refine nN ?_;exact⟨by simp[XW],[],trivial,sm,rfl⟩
theorem ZtX(t:Tm):Pure Tryz.prog 104 [t.enc] (.fn (.func 163) [.iptr t.cs]):=by
 intro n H;refine aF Tryz.func104 fun B=>?_
 refine nR ?_;refine ZY 1 t.cs [(1,.iptr t.cs)] rfl ?_ ?_ trivial ?_
 ·exact⟨.int _ _,.int _ _,.str _,Tm.ZaA _ _,trivial⟩
 ·exact⟨.inr ⟨0,rfl,rfl⟩,trivial⟩
 refine nR ?_;refine nV ?_;refine Zc ?_ (.fn _ _ fun i hi=>?_) rfl
 ·exact xS
 ·have:i=0:=by simp at hi;exact hi
  subst this;have hb:=(t.blw n)
  rw[Tm.Vx]at hb;cases hb with
  |agg _ hb=>exact .iptr _ hb
theorem Zku{G:Za}(h1:∀k,G n k=S k)(h2:∀l k,l≠n→G l k=H l k):G=H.YN n S:=by
 funext l k;simp only[Za.YN];split
 ·rename_i e;subst e;exact h1 k
 ·rename_i e;exact h2 l k e
theorem ZkJ{y:Nat}{b b':Ze}(h:H n y=some b):(H.upd n y b').upd n y b=H:=by
 funext l k;simp only[Za.upd];split
 ·rename_i e;rw[e.1,e.2,h]
 ·rfl
theorem Zrc{B:Base}{N:Nat}{g:Operand}{v:Nat}{c d:Code}{k:List Itm}{Q:Exit→Zb→Prop}{tm:List (Nat×AV)}{L:List (Nat×Ze)}(y:Nat)(t:Tm)(ht:t.Good)(p:Tm→Bool)(L2:List (Nat×Ze))
  (hc:c= .rangeFunc g #[v] c.fst c.snd) (hg:evT tm g= .fn (.func 163) [.iptr t.cs]) (hy:lkb L y=none) (hv:v<N)
  (hb:∀l,Yi (fun q=>q.2.Below (n+1)) (setb L2 y (.lrec l N 0 tm #[v] c.fst c.snd .done (some d))))
  (hbody:∀l m B' (t':Tm) H',t'.Good→n<m→(∀j,H' n j=lkb (setb L y (.lrec l N 0 tm #[v] c.fst c.snd .ready none)) j)→(∀l' j,l'<n→H' l' j=H l' j)→
   AKc ⟨Tryz.prog,tt,⟨some l,B'⟩,m,N⟩ [.code c.fst] (fun e s=>e= .normal∧s.H n y=some (.lrec l N 0 tm #[v] c.fst c.snd .ready none)∧
    AKc ⟨Tryz.prog,tt,⟨some l,B'⟩,m,N⟩ [.code c.snd] (ZiZ (fun r H1=>r= .bool (p t')∧H1=if p t' then H' else H'.YN n (lkb (setb L2 y (.lrec l N 0 tm #[v] c.fst c.snd .done (some d))))) n y l N 0 tm #[v] c.fst c.snd)
     ⟨s.tmps,s.L,s.H.upd n y (.lrec l N 0 tm #[v] c.fst c.snd .busy none)⟩) ⟨(v,t'.enc)::tm,[],H'⟩)
  (hgo:∀l,t.all p=true→AKc ⟨Tryz.prog,tt,⟨none,B⟩,n,N⟩ k Q ⟨tm,setb L y (.lrec l N 0 tm #[v] c.fst c.snd .exhausted none),H⟩)
  (hstop:∀l,t.all p=false→AKc ⟨Tryz.prog,tt,⟨none,B⟩,n,N⟩ (.code d::k) Q ⟨tm,setb L2 y (.lrec l N 0 tm #[v] c.fst c.snd .exhausted (some d)),H⟩):
  AKc ⟨Tryz.prog,tt,⟨none,B⟩,n,N⟩ (.code c::k) Q ⟨tm,L,H⟩:=by
 refine ZeS (caps:=[.iptr t.cs]) y hc hg (Zf Tryz.func163 rfl rfl) hy fun l=>?_
 refine⟨_,ZvG (x:=n) (l:=l) (p:=p) (S:=lkb (setb L2 y (.lrec l N 0 tm #[v] c.fst c.snd .done (some d)))) (H0:=full n (setb L y (.lrec l N 0 tm #[v] c.fst c.snd .ready none)) H) ?_ (fun j b h=>(hb l).mem _ (lkb_mem h)) t ht (n+1) _ (Qr n) (fun _ _ _=>rfl),?_⟩
 ·intro m H' t' ht' hm hag;have hlv:∀j,H' n j=lkb (setb L y (.lrec l N 0 tm #[v] c.fst c.snd .ready none)) j:=fun j=>by
   rw[hag n j (Qe _)];simp only[full,if_true]
  refine Zha tt (x:=n) (y:=y) (by rw[hlv y,lkb_setb,if_pos rfl]) hm rfl (by simpa using hv) fun B'=>hbody l m B' t' H' ht' hm hlv (fun l' j h=>by rw[hag l' j (Md h)];simp only[full];rw[if_neg om])
 ·rintro r H1 rfl;cases hall:t.all p with
  |true=>exact⟨_,H,.ready,none,rfl,.refl _ _,by rw[lkb_setb,if_pos rfl],sm,by
    have:setb (setb L y (.lrec l N 0 tm #[v] c.fst c.snd .ready none)) y (.lrec l N 0 tm #[v] c.fst c.snd .exhausted none)=setb L y (.lrec l N 0 tm #[v] c.fst c.snd .exhausted none):=setb_setb _ _ _ _;simp only[this];exact hgo l hall⟩
  |false=>
   refine⟨setb L2 y (.lrec l N 0 tm #[v] c.fst c.snd .done (some d)),H,.done,some d,?_,.refl _ _,by rw[lkb_setb,if_pos rfl],sm,by
    simp only[setb_setb];exact hstop l hall⟩
   simp only[QT,if_false];funext l' j;simp only[Za.YN,full];by_cases e:l'=n
   ·rw[if_pos e,if_pos e]
   ·rw[if_neg e,if_neg e,if_neg e]
end
def nargs(t:Tm)(lo hi:Int):Bool:=decide (lo≤(t.args.length:Int))&&decide ((t.args.length:Int)≤hi)
theorem ZlG(t:Tm)(lo hi:Int):Pure Tryz.prog 168 [t.enc,.int .i64 lo,.int .i64 hi] (.bool (nargs t lo hi)):=by
 intro n H;refine aF Tryz.func168 fun B=>?_
 refine nR ?_;cases h:decide (lo≤(t.args.length:Int));all_goals
  refine nr ?_;refine aq h ?_;refine nV ?_;refine Zc ?_ (.bool _) rfl;simp only[go_sem,simprocAttr,nargs,h];exact .refl _
def named(t:Tm):Bool:=(t.num==0)&& !(t.name==[])
theorem ZvJ(t:Tm):Pure Tryz.prog 167 [.iptr t.cs] (.bool (decide (-2147483647≤t.num)&&decide (t.num≤2147483647)&&(t.name==[])&&nargs t 0 0)):=by
 intro n H;refine aF Tryz.func167 fun B=>?_
 refine nR ?_;cases h1:decide (-2147483647≤t.num)with
 |false=>
  refine nq h1 ?_;exact pB
 |true=>
  cases h2:decide (t.num≤2147483647)with
  |false=>
   refine nq2 h1 h2 ?_;exact pB
  |true=>
   cases h3:(t.name==[])with
   |false=>
    refine nq3 h1 h2 h3 ?_;exact pB
   |true=>
    refine nq3 h1 h2 h3 ?_;refine cP (ZlG t 0 0) ?_;exact pB
theorem a148(t:Tm)(ht:t.Good):Pure Tryz.prog 169 [.iptr [.bool (named t)],.iptr t.cs] (.bool (named t&&sym t.name&&nargs t 0 0)):=by
 intro n H;have hs:=ht.name;refine aF Tryz.func169 fun B=>?_
 refine nR ?_;cases h1:named t with
 |false=>
  refine nq h1 ?_;exact pB
 |true=>
  refine nq h1 ?_;refine cP (a45 t.name om) ?_;cases h2:sym t.name with
  |false=>
   refine aS ?_;exact pB
  |true=>
   refine aS ?_;refine cP (ZlG t 0 0) ?_;exact pB
theorem Zvq(t:Tm)(ht:t.Good):Pure Tryz.prog 170 [.iptr [.bool (named t)],.iptr t.cs] (.bool (named t&&Ze3 t.name&&nargs t 0 0)):=by
 intro n H;have hs:=ht.name;refine aF Tryz.func170 fun B=>?_
 refine nR ?_;cases h1:named t with
 |false=>
  refine nq h1 ?_;exact pB
 |true=>
  refine nq h1 ?_;refine cP (ZuO t.name om) ?_;cases h2:Ze3 t.name with
  |false=>
   refine aS ?_;exact pB
  |true=>
   refine aS ?_;refine cP (ZlG t 0 0) ?_;exact pB
theorem Zvk(t:Tm)(ht:t.Good):Pure Tryz.prog 172 [.iptr [.bool (named t)],.iptr t.cs] (.bool (named t&&sym t.name&&nargs t 1 8)):=by
 intro n H;have hs:=ht.name;refine aF Tryz.func172 fun B=>?_
 refine nR ?_;cases h1:named t with
 |false=>
  refine nq h1 ?_;exact pB
 |true=>
  refine nq h1 ?_;refine cP (a45 t.name om) ?_;cases h2:sym t.name with
  |false=>
   refine aS ?_;exact pB
  |true=>
   refine aS ?_;refine cP (ZlG t 1 8) ?_;exact pB
def sMinus:List UInt8:=[45]
theorem a152(t:Tm)(o:Bool):Pure Tryz.prog 173 [.iptr [.bool (named t)],.iptr [.bool o],.iptr t.cs] (.bool (named t&&o&&(nargs t 2 2||(t.name==sMinus)&&nargs t 1 1))):=by
 intro n H;refine aF Tryz.func173 fun B=>?_
 refine nR ?_;cases h1:named t with
 |false=>
  refine nq h1 ?_;exact pB
 |true=>
  cases h2:o with
  |false=>
   refine nq2 h1 h2 ?_;exact pB
  |true=>
   refine nq2 h1 h2 ?_;refine cP (ZlG t 2 2) ?_;cases h3:nargs t 2 2 with
   |true=>
    refine aS ?_;refine YO rfl rfl ?_;refine Zc ?_ (.bool _) rfl;try simp only[go_sem,simprocAttr,Qad]
    exact .refl _
   |false=>
    cases h4:(t.name==sMinus)with
    |false=>
     refine aq (show(t.name==[45])=false from h4) ?_;refine YO rfl rfl ?_;refine Zc ?_ (.bool _) rfl;try simp only[go_sem,simprocAttr,Gt]
     exact .refl _
    |true=>
     refine aq (show(t.name==[45])=true from h4) ?_;refine cP (ZlG t 1 1) ?_;refine YO rfl rfl ?_;refine Zc ?_ (.bool _) rfl;try simp only[go_sem,simprocAttr,Gt]
     exact .refl _
theorem ZuN(t:Tm):Pure Tryz.prog 174 [.iptr t.cs] (.bool ((t.num==0)&&(t.name==[])&&nargs t 2 2)):=by
 intro n H;refine aF Tryz.func174 fun B=>?_
 refine nR ?_;cases h1:(t.num==0)with
 |false=>
  refine nq h1 ?_;exact pB
 |true=>
  cases h2:(t.name==[])with
  |false=>
   refine nq2 h1 h2 ?_;exact pB
  |true=>
   refine nq2 h1 h2 ?_;refine cP (ZlG t 2 2) ?_;exact pB
end Go.Proofs.YtmdeagmbfhbbnaaGreatDoorR

namespace Go.Proofs
open Go.Shelf
def Tryz.lays156_ren:Go.Shelf.Ren:=⟨fun|156=>117|165=>178|166=>179|169=>180|240=>218|241=>219|276=>247|277=>248|n=>n,fun|31=>35|9=>9|3=>3|4=>4|0=>0|20=>20|72=>211|76=>214|70=>209|37=>207|75=>213|127=>243|164=>272|5=>5|80=>168|n=>n,fun|n=>n⟩
theorem Tryz.lays156:Go.Proofs.Lays.n156 Tryz.prog Tryz.lays156_ren:=by
 repeat' first|kernel_rfl|exact bO|(intro w;kernel_rfl)|constructor
theorem Tryz.Builder_Extra_156:Builder.Extra Tryz.prog Tryz.lays156_ren:={
 sizeBuilder:=by kernel_rfl
 liesBuilder:=by kernel_rfl
 t5:=Tryz.underlying5
 a5:=Tryz.isAgg5
 z5:=Tryz.sizeOf5
 v5:=Tryz.zeroValue5
 infoByte:=by kernel_rfl
 cellsByte:=by kernel_rfl
 sizeByte:=by kernel_rfl
 neB5:=by decide}
def Tryz.lays106_ren:Go.Shelf.Ren:=⟨fun|106=>114|213=>177|265=>217|n=>n,fun|9=>9|3=>3|n=>n,fun|n=>n⟩
theorem Tryz.lays106:Go.Proofs.Lays.n106 Tryz.prog Tryz.lays106_ren:=by
 repeat' first|kernel_rfl|exact bO|(intro w;kernel_rfl)|constructor
def Tryz.laysM171_ren:Go.Shelf.Ren:=⟨fun|171=>122|243=>182|246=>221|283=>250|284=>251|285=>252|286=>253|129=>151|317=>274|318=>275|319=>276|320=>277|337=>289|338=>290|n=>n,fun|3=>3|9=>9|2=>2|4=>4|171=>276|0=>0|53=>196|37=>207|5=>5|173=>278|212=>292|51=>194|20=>20|213=>293|46=>144|232=>311|233=>312|n=>n,fun|17=>1|18=>4|19=>5|n=>n⟩
theorem Tryz.laysM171:Go.Proofs.LaysM.n171 Tryz.prog Tryz.laysM171_ren:=by
 repeat' first|kernel_rfl|exact bO|(intro w;kernel_rfl)|constructor
def Tryz.lays144_ren:Go.Shelf.Ren:=⟨fun|144=>166|143=>213|219=>245|217=>270|225=>271|224=>272|267=>273|266=>287|314=>288|n=>n,fun|9=>9|4=>4|3=>3|5=>5|46=>144|146=>299|51=>194|n=>n,fun|1=>0|n=>n⟩
theorem Tryz.lays144:Go.Proofs.Lays.n144 Tryz.prog Tryz.lays144_ren:=by
 repeat' first|kernel_rfl|exact bO|(intro w;kernel_rfl)|constructor
end Go.Proofs

namespace Go.Proofs.YtmdeagmbfhbbnaaGreatDoorR
open Go.Abs
set_option maxRecDepth 100000
section
variable {E:Env}
theorem _root_.Go.Abs.Zt.below{n:Nat}{H:Za}{w w':World}(h:Zt n H E w)(hb:Go.RowKit.Below w.heap.size w w')(hd:E.qd=true→w.drawn≤w'.drawn):Zt n H E w'∧Ext n E w E w':=
 h.grow (F':=E.F) hb.os hb.tape hb.output hd hb.size (fun b hlt=>hb.block b hlt) (fun _ _ _ h=>h) (fun b o v hf=>by
  have hlt:=h.Zco hf;have:=h.F b o v hf;simp only[World.cell?,hb.block b hlt]at this⊢;exact this) (fun _ _ _=>rfl)
variable {r:AV} {args:List AV} {f:FuncId}
theorem Znt{P:Program}(h:∀E w vs,VRs E args vs→ ∃v,VR E r v∧Calls P f vs.toArray w fun e w'=>e= .returned v∧w'=w):Pure P f args r:=fun n H E w vs hr hv=>by
 obtain⟨v,h1,h2⟩:=h E w vs hv;refine h2.mono ?_;rintro e w' ⟨rfl,rfl⟩;exact⟨r,v,H,E,rfl,⟨rfl,rfl⟩,h1,hr,.refl _ _ _⟩
def Tabs(H:Za):Prop:=∃m t t',H 0 0=some (.var 0 t [.int .i64 m])∧H 0 1=some (.var 1 t' (Lib.pow10Tab.map (.int .u64)))
def Z4(P:Program)(f:FuncId)(args:List AV)(r:AV):Prop:=∀n H,0<n→Tabs H→PC P n f args H r
theorem Abs.Pure.tabs{P:Program}(h:Pure P f args r):Z4 P f args r:=fun n H _ _=>h n H
theorem Tabs.full{n:Nat}{L:List (Nat×Ze)}{H:Za}(h:Tabs H)(hn:0<n):Tabs (full n L H):=by
 obtain⟨m,t,t',h1,h2⟩:=h;refine⟨m,t,t',?_,?_⟩<;>simp only[Abs.full]<;>rw[if_neg om]<;>assumption
variable {avs:List AV} {F:Zb→Prop} {ts:List TypeId}
theorem ZhC{cx:Cx}{dr:Bool}{o:Oper}{args:List Operand}{s:Zb}{fn:Func}{c:Code}(hf:Fun cx.P f fn c)
  (h:Z4 cx.P f avs r) (hn:0<cx.n) (hT:Tabs s.H) (ha:Yo cx.T (evT s.tmps) args ts=avs) (hF:F ⟨Yl s.tmps o.dst r,s.L,s.H⟩):Vg cx dr o (.func f) args ts s F:=
 ZkL hf rfl (by rw[Qu,ha];exact h _ _ (QW _) (hT.full hn)) hF
theorem cT{cx:Cx}{dr:Bool}{o:Oper}{args:List Operand}{ts:List TypeId}{s:Zb}{F:Zb→Prop}{p:Prop}(h:Z4 cx.P f avs r)(hk:p)(h0:0<cx.n:=by first|exact hn|exact QW _)(h1:Tabs s.H:=by first|exact hT|exact hTW)(hx:isFun cx.P f=true:=by kernel_rfl)(ha:Yo cx.T (evT s.tmps) args ts=avs:=by exact rfl)(e:F ⟨Yl s.tmps o.dst r,s.L,s.H⟩=p:=by simp only[go_sem,simprocAttr];exact rfl):Vg cx dr o (.func f) args ts s F:=by
 obtain⟨fn,c,hf⟩:=Zd1 hx;exact ZhC hf h h0 h1 ha (e▸hk)
theorem a50(a b:List UInt8):Pure Tryz.prog 114 [.str a,.str b] (.int .i64 (Lib.compareBytes a b)):=Znt fun E w vs hv=>by
 obtain⟨v1,r1,rfl,h1,hv⟩:=hv.YR;obtain⟨v2,r2,rfl,h2,hv⟩:=hv.YR;rw[hv.of_nil];cases h1;cases h2;exact⟨_,.int _ _,Any.strings_Compare Tryz.lays106 ⟨a.toArray⟩ ⟨b.toArray⟩ w⟩
theorem Zea{n:Nat}{H:Za}{w:World}{l k b:Nat}{t:TypeId}{cs:List AV}(hr:Zt n H E w)(hl:l<n)(h:H l k=some (.var b t cs)):E.qd=false∧ ∃c,w.heap[b]? =some (.cells c t (0,0))∧VRs E cs c.toList:=by
 obtain⟨h1,_,h2⟩:=hr.blk l k _ hl h;exact⟨h1,h2⟩
theorem a146(s sub:List UInt8)(hs:s.length<4294967281):Z4 Tryz.prog 166 [.str s,.str sub] (.bool (Lib.contains s sub)):=fun n H hn hT E w vs hr hv=>by
 obtain⟨m,t,t',hm,_⟩:=hT;obtain⟨v1,r1,rfl,h1,hv⟩:=hv.YR;obtain⟨v2,r2,rfl,h2,hv⟩:=hv.YR;rw[hv.of_nil];cases h1;cases h2;obtain⟨_,c,hc,hcv⟩:=Zea hr hn hm;obtain⟨x,r,hx,hxv,hrn⟩:=hcv.YR;have hcell:w.cell? ⟨0,0,none⟩=some (.int .i64 m):=by
  cases hxv;simp only[World.cell?,hc];have:c= #[.int .i64 m]:=by
   rw[hrn.of_nil]at hx;exact Qaf.1 hx
  rw[this];rfl
 refine(Any.strings_Contains Tryz.lays144 ⟨s.toArray⟩ ⟨sub.toArray⟩ m w (by show s.toArray.size<_;simpa using hs) hcell).mono ?_;rintro e w' ⟨rfl,rfl⟩;exact⟨_,_,H,E,rfl,⟨rfl,rfl⟩,.bool _,hr,.refl _ _ _⟩
theorem VRs.Zsj{E:Env}:∀{l:List Int} {vs:List Value},VRs E (l.map (.int .u64)) vs→vs=l.map (Value.int .u64)
 |[],vs,h=>h.of_nil
 |x::l,vs,h=>by
  obtain⟨v,r,rfl,h1,h2⟩:=VRs.YR h;cases h1;rw[VRs.Zsj h2];rfl
theorem ZrG(i:Int)(h0:-9223372036854775808≤i)(h1:i≤9223372036854775807):Z4 Tryz.prog 122 [.int .i64 i] (.str (Lib.itoa i)):=fun n H hn hT E w vs hr hv=>by
 obtain⟨m,t,t',_,hm⟩:=hT;obtain⟨v1,r1,rfl,hv1,hv⟩:=hv.YR;rw[hv.of_nil];cases hv1;obtain⟨hq,c,hc,hcv⟩:=Zea hr hn hm;have hg:Tryz.prog.globalNamed (Rows.joinSortedRow.named.getD 3 default)=some 1:=by kernel_rfl
 have htab:Lib.TabIs Tryz.prog w (Rows.joinSortedRow.named.getD 3 default) .u64 Lib.pow10Tab:=by
  simp only[Lib.TabIs,World.var?,hg,UE,hc];exact congrArg some (Qaf.1 (VRs.Zsj hcv))
 refine(Any.strconv_Itoa Tryz.laysM171 i h0 h1 w htab).mono ?_;rintro e w' ⟨rfl,k,os,rfl⟩;obtain⟨hh,hx⟩:=hr.below (w':=Sort.grow (w.drewN k) os) ⟨rfl,rfl,rfl,by simp[Sort.grow,World.drewN],fun b hb=>by simp[Sort.grow,World.drewN,Qbj,hb]⟩ (fun hq'=>by rw[hq]at hq';cases hq');exact⟨_,_,H,E,rfl,⟨rfl,rfl⟩,.str _,hh,hx⟩
theorem ZqG{b off:Nat}:∀(xs:List (List UInt8)) (c:Nat→Nat→Value),(∀i (h:i<(xs.map AV.str).length) j (h':j<((xs.map AV.str)[i]).cells.length),VR E ((xs.map AV.str)[i]).cells[j] (c i j))→
  ∀j x,(xs.map fun s=>(⟨s.toArray⟩:ByteArray))[j]? =some x→c j 0= .string x:=fun xs c h j x hx=>by
 rw[QZ,Ul]at hx;obtain⟨s,hs,rfl⟩:=hx;obtain⟨hj,rfl⟩:=Q8.1 hs;have:=h j (by simpa using hj) 0 (by simp[AV.cells]);simp only[QO,AV.cells,Ud]at this;generalize c j 0=y at this;cases this;rfl
theorem a92(xs:List (List UInt8))(sep:List UInt8)(o:Own)(hN:xs.length≤140737488355328)(hl:(Lib.join xs sep).length≤140737488355328):Z4 Tryz.prog 117 [.sl 1 (xs.map .str) o,.str sep] (.str (Lib.join xs sep)):=fun n H hn hT E w vs hr hv=>by
 obtain⟨m,t,t',_,hm⟩:=hT;obtain⟨v1,r1,rfl,hv1,hv⟩:=hv.YR;obtain⟨v2,r2,rfl,hv2,hv⟩:=hv.YR;rw[hv.of_nil];cases hv2;obtain⟨hq,_⟩:=Zea hr hn hm;have fin:∀w',Go.RowKit.Below w.heap.size w w'→ ∃r v H' E',Ending.returned (.string ⟨(Lib.join xs sep).toArray⟩)= .returned v∧(r= .str (Lib.join xs sep)∧H'=H)∧VR E' r v∧Zt n H' E' w'∧Ext n E w E' w':=fun w' hb=>by
  obtain⟨hh,hx⟩:=hr.below hb (fun hq'=>by rw[hq]at hq';cases hq');exact⟨_,_,H,E,rfl,⟨rfl,rfl⟩,.str _,hh,hx⟩
 cases hx:xs with
 |nil=>
  subst hx;have hnone:∀a c,Calls Tryz.prog 117 #[.slice a 0 c,.string ⟨sep.toArray⟩] w fun e w'=>∃r v H' E',e= .returned v∧(r= .str (Lib.join [] sep)∧H'=H)∧VR E' r v∧Zt n H' E' w'∧Ext n E w E' w':=fun a c=>
   (Any.strings_Join_none Tryz.lays156 Tryz.Builder_Extra_156 a c ⟨sep.toArray⟩ w).mono fun e w' ⟨he,hw⟩=>by
    subst hw;rw[he];exact fin _ (Go.RowKit.Below.refl _ _)
  generalize hxs:AV.sl 1 (List.map AV.str []) o=av at hv1;cases hv1<;>cases hxs
  ·exact hnone _ _
  ·exact hnone _ _
 |cons x r=>
  rw[hx]at hv1 hN hl fin;generalize hxs:AV.sl 1 (List.map AV.str (x::r)) o=av at hv1;cases hv1<;>cases hxs;rename_i b off cap c hv' hcap hml hk hc ho;have hcell:∀i,i<(x::r).length→w.cell? ⟨b,off+i,none⟩=some (c i 0):=fun i hi=>by
   have:=hr.F _ _ _ (hc i 0 (by simpa using hi) om);simpa using this
  have hlen:(List.map AV.str (x::r)).length=((x::r).map fun s=>(⟨s.toArray⟩:ByteArray)).length:=by simp
  have hmm:((x::r).map fun s=>(⟨s.toArray⟩:ByteArray)).map (·.data.toList)=x::r:=by
   rw[Qbu];exact(U3 (g:=fun s=>s) (fun s _=>by simp)).trans (QaL _)
  have hj:=Any.strings_Join Tryz.lays156 Tryz.Builder_Extra_156 b off cap ((x::r).map fun s=>(⟨s.toArray⟩:ByteArray)) ⟨sep.toArray⟩ w (fun j y hy=>by
   have hlt:j<(x::r).length:=by
    have:=(Q8.1 hy).1;simpa using this
   rw[hcell j hlt,ZqG (b:=b) (off:=off) _ c hv' j y hy]) (hr.Zco (hc 0 0 sm om)) (by simpa using hN) (by simpa using hcap) (by rw[hmm];exact hl)
  rw[hmm]at hj;rw[hlen];refine Calls.mono hj ?_;rintro e w' ⟨rfl,hb⟩;exact fin w' hb
end
def sOps:List UInt8:=[43,45,42,47,92]
def oper(t:Tm):Bool:=Lib.contains sOps t.name&&((t.name.length:Int)==1)
def shape(t:Tm):Bool:=
 if t.kind=1 then decide (-2147483647≤t.num)&&decide (t.num≤2147483647)&&(t.name==[])&&nargs t 0 0
 else if t.kind=2 then named t&&sym t.name&&nargs t 0 0
 else if t.kind=4 then named t&&sym t.name&&nargs t 1 8
 else if t.kind=3 then named t&&Ze3 t.name&&nargs t 0 0
 else if t.kind=5 then named t&&oper t&&(nargs t 2 2||(t.name==sMinus)&&nargs t 1 1)
 else if t.kind=6 then(t.num==0)&&(t.name==[])&&nargs t 2 2
 else false
theorem a107(t:Tm)(ht:t.Good):Z4 Tryz.prog 110 [t.enc] (.bool (shape t)):=by
 intro n H hn hT;have hs:=ht.name;refine aF Tryz.func110 fun B=>?_
 refine nR ?_;refine kK ?_;refine VU ⟨[(3,.ptr n 3 0),(2,.bool false),(1,.ptr n 1 0)],[(1,.box t.cs),(3,.box [.bool (named t)])],H⟩ ?_ ?_
 ·cases h1:(t.num==0);all_goals
   refine nq h1 ?_;refine nN ?_;refine⟨rfl,?_⟩;refine Zh ?_ ?_ ?_ ?_<;>repeat' first|apply q0|exact xx|apply aI
   simp only[go_sem,simprocAttr,named,h1,bne]
 refine kK ?_;refine VU ⟨[(4,.ptr n 4 0),(3,.ptr n 3 0),(2,.bool false),(1,.ptr n 1 0)],[(1,.box t.cs),(3,.box [.bool (named t)]),(4,.box [.bool (oper t)])],H⟩ ?_ ?_
 ·refine nR ?_;refine cT (a146 [43,45,42,47,92] t.name dc) ?_;cases h1:Lib.contains [43,45,42,47,92] t.name;all_goals
   try simp only[go_sem,simprocAttr]
   refine nN ?_;refine⟨rfl,?_⟩;refine Zh ?_ ?_ ?_ ?_<;>repeat' first|apply q0|exact xx|apply aI
   simp only[go_sem,simprocAttr,oper,sOps,h1]
 refine kK ?_;refine ZY 1 t.cs [(4,.ptr n 4 0),(3,.ptr n 3 0),(2,.bool false),(1,.iptr t.cs)] rfl ?_ ?_ ?_ ?_
 ·exact⟨.int _ _,.int _ _,.str _,Tm.ZaA _ _,trivial⟩
 ·exact⟨.inl ⟨.refl _,.ptr _ _ _ (.inr ⟨rfl,dc⟩)⟩,.inl ⟨.refl _,.ptr _ _ _ (.inr ⟨rfl,dc⟩)⟩,.inl ⟨.refl _,.bool _⟩,.inr ⟨0,rfl,rfl⟩,trivial⟩
 ·exact⟨Ze.ZA ⟨.bool _,trivial⟩,Ze.ZA ⟨.bool _,trivial⟩,trivial⟩
 refine ZY 3 [.bool (named t)] [(4,.ptr n 4 0),(3,.iptr [.bool (named t)]),(2,.bool false),(1,.iptr t.cs)] rfl ?_ ?_ ?_ ?_
 ·exact⟨.bool _,trivial⟩
 ·exact⟨.inl ⟨.refl _,.ptr _ _ _ (.inr ⟨rfl,dc⟩)⟩,.inr ⟨0,rfl,rfl⟩,.inl ⟨.refl _,.bool _⟩,.inl ⟨.refl _,Below.inside (Zl t.bcs)⟩,trivial⟩
 ·exact⟨Ze.ZA ⟨.bool _,trivial⟩,trivial⟩
 refine ZY 4 [.bool (oper t)] [(4,.iptr [.bool (oper t)]),(3,.iptr [.bool (named t)]),(2,.bool false),(1,.iptr t.cs)] rfl ?_ ?_ trivial ?_
 ·exact⟨.bool _,trivial⟩
 ·exact⟨.inr ⟨0,rfl,rfl⟩,.inl ⟨.refl _,Below.inside (Zl ⟨.bool _,trivial⟩)⟩,.inl ⟨.refl _,.bool _⟩,.inl ⟨.refl _,Below.inside (Zl t.bcs)⟩,trivial⟩
 refine nr ?_;simp only[go_sem,simprocAttr,ZaH,Xz,XP,AV.kls,klAll,AV.kl,Um,Qk,forall_eq_or_imp,Qy,KL.int.injEq,Ub,Qs,Int.reduceEq,false_and,and_false,not_false_eq_true];by_cases k1:t.kind=1
 ·refine nr ?_;simp only[go_sem,simprocAttr,lookA,Xz,XP,AV.kls,klAll,AV.kl,Um,Qk,forall_eq_or_imp,Qy,KL.int.injEq,Ub,Qs,eq_true k1,true_and,and_true,false_and];refine nr ?_;simp only[go_sem,simprocAttr,bne];refine YD (avs:=[]) rfl (Zf Tryz.func167 rfl rfl) (ZvJ t _ _) rfl ?_;simp only[go_sem,simprocAttr];refine nV ?_;refine Zc ?_ (.bool _) rfl;rw[shape];simp only[k1,reduceIte,Int.reduceEq];simp only[go_sem,simprocAttr]
  first|exact .refl _|(simp;exact .refl _)
 by_cases k2:t.kind=2
 ·refine nr ?_;simp only[go_sem,simprocAttr,lookA,Xz,XP,AV.kls,klAll,AV.kl,Um,Qk,forall_eq_or_imp,Qy,KL.int.injEq,Ub,Qs,eq_false k1,eq_true k2,true_and,and_true,false_and];refine nr ?_;simp only[go_sem,simprocAttr,bne];refine YD (avs:=[]) rfl (Zf Tryz.func169 rfl rfl) (a148 t ht _ _) rfl ?_;simp only[go_sem,simprocAttr];refine nV ?_;refine Zc ?_ (.bool _) rfl;rw[shape];simp only[k1,k2,reduceIte,Int.reduceEq];simp only[go_sem,simprocAttr]
  first|exact .refl _|(simp;exact .refl _)
 by_cases k3:t.kind=3
 ·refine nr ?_;simp only[go_sem,simprocAttr,lookA,Xz,XP,AV.kls,klAll,AV.kl,Um,Qk,forall_eq_or_imp,Qy,KL.int.injEq,Ub,Qs,eq_false k1,eq_false k2,eq_true k3,true_and,and_true,false_and];refine nr ?_;simp only[go_sem,simprocAttr,bne];refine YD (avs:=[]) rfl (Zf Tryz.func170 rfl rfl) (Zvq t ht _ _) rfl ?_;simp only[go_sem,simprocAttr];refine nV ?_;refine Zc ?_ (.bool _) rfl;rw[shape];simp only[k1,k2,k3,reduceIte,Int.reduceEq];simp only[go_sem,simprocAttr]
  first|exact .refl _|(simp;exact .refl _)
 by_cases k4:t.kind=4
 ·refine nr ?_;simp only[go_sem,simprocAttr,lookA,Xz,XP,AV.kls,klAll,AV.kl,Um,Qk,forall_eq_or_imp,Qy,KL.int.injEq,Ub,Qs,eq_false k1,eq_false k2,eq_false k3,eq_true k4,true_and,and_true,false_and];refine nr ?_;simp only[go_sem,simprocAttr,bne];refine YD (avs:=[]) rfl (Zf Tryz.func172 rfl rfl) (Zvk t ht _ _) rfl ?_;simp only[go_sem,simprocAttr];refine nV ?_;refine Zc ?_ (.bool _) rfl;rw[shape];simp only[k1,k2,k3,k4,reduceIte,Int.reduceEq];simp only[go_sem,simprocAttr]
  first|exact .refl _|(simp;exact .refl _)
 by_cases k5:t.kind=5
 ·refine nr ?_;simp only[go_sem,simprocAttr,lookA,Xz,XP,AV.kls,klAll,AV.kl,Um,Qk,forall_eq_or_imp,Qy,KL.int.injEq,Ub,Qs,eq_false k1,eq_false k2,eq_false k3,eq_false k4,eq_true k5,true_and,and_true,false_and];refine nr ?_;simp only[go_sem,simprocAttr,bne];refine YD (avs:=[]) rfl (Zf Tryz.func173 rfl rfl) (a152 t (oper t) _ _) rfl ?_;simp only[go_sem,simprocAttr];refine nV ?_;refine Zc ?_ (.bool _) rfl;rw[shape];simp only[k1,k2,k3,k4,k5,reduceIte,Int.reduceEq];simp only[go_sem,simprocAttr]
  first|exact .refl _|(simp;exact .refl _)
 by_cases k6:t.kind=6
 ·refine nr ?_;simp only[go_sem,simprocAttr,lookA,Xz,XP,AV.kls,klAll,AV.kl,Um,Qk,forall_eq_or_imp,Qy,KL.int.injEq,Ub,Qs,eq_false k1,eq_false k2,eq_false k3,eq_false k4,eq_false k5,eq_true k6,true_and,and_true,false_and];refine nr ?_;simp only[go_sem,simprocAttr,bne];refine YD (avs:=[]) rfl (Zf Tryz.func174 rfl rfl) (ZuN t _ _) rfl ?_;simp only[go_sem,simprocAttr];refine nV ?_;refine Zc ?_ (.bool _) rfl;rw[shape];simp only[k1,k2,k3,k4,k5,k6,reduceIte,Int.reduceEq];simp only[go_sem,simprocAttr]
  first|exact .refl _|(simp;exact .refl _)
 refine nr ?_;simp only[go_sem,simprocAttr,lookA,Xz,XP,AV.kls,klAll,AV.kl,Um,Qk,forall_eq_or_imp,Qy,KL.int.injEq,Ub,Qs,eq_false k1,eq_false k2,eq_false k3,eq_false k4,eq_false k5,eq_false k6,XI];refine nr ?_;simp only[go_sem,simprocAttr,bne];refine nV ?_;refine Zc ?_ (.bool _) rfl;rw[shape];simp only[k1,k2,k3,k4,k5,k6,reduceIte];simp only[go_sem,simprocAttr];exact .refl _
theorem Tabs.up{G H:Za}(h:Tabs H)(hG:∀k,G 0 k=H 0 k):Tabs G:=by
 obtain⟨m,t,t',h1,h2⟩:=h;exact⟨m,t,t',(hG 0).trans h1,(hG 1).trans h2⟩
def ZlJ(f:Nat)(caps:List AV)(p:Tm→Bool):Prop:=(∃fn c,Fun Tryz.prog f fn c)∧ ∀t:Tm,t.Good→Z4 Tryz.prog f (t.enc::caps) (.bool (p t))
theorem a71(t:Tm)(ht:t.Good)(f:Nat)(p:Tm→Bool)(hp:ZlJ f [] p):Z4 Tryz.prog 60 [t.enc,.fn (.func f) []] (.bool (t.all p)):=by
 intro n H hn hT;obtain⟨⟨fn,c,hf⟩,hp⟩:=hp;refine aF Tryz.func60 fun B=>?_
 refine nR ?_;refine nR ?_;refine cP (ZtX t) ?_;refine kK ?_;refine Zrc (d:=.ret) 100 t ht p [(2,.box t.cs),(3,.box [.fn (.func f) []]),(4,.box [.bool false])] rfl rfl rfl sm (fun l=>?_) ?_ ?_ ?_
 ·have hb:∀k,Below k (.fn (.func f) []):=fun k=>.fn _ _ fun i h=>absurd h (Qm _)
  have ht:∀k,Yi (fun c=>Below k c) t.cs:=fun k=>⟨.int _ _,.int _ _,.str _,ZC (fun x hx=>by obtain⟨u,_,rfl⟩:=Qb.1 hx;exact u.blw k),trivial⟩
  refine⟨Ze.ZB (ht _),Ze.ZB ⟨hb _,trivial⟩,Ze.ZB ⟨.bool _,trivial⟩,Ze.ZaL ?_,trivial⟩;refine⟨.fn _ _ (fun i hi=>?_),t.blw _,.ptr _ _ _ (Qr n),.ptr _ _ _ (Qr n),.ptr _ _ _ (Qr n),t.blw _,hb _,trivial⟩;have:i=0:=by simp at hi;exact hi
  subst this;exact .iptr _ (fun j hj=>(ht _).mem _ (Qa hj))
 ·intro l m B' t' H' ht' hm hlv hlow;have hne:¬n=m:=by omega
  have h3:=hlv 3;have h4:=hlv 4;have h100:=hlv 100;simp only[go_sem,simprocAttr]at h3 h4 h100;refine nR ?_;refine nN ?_;refine⟨rfl,h100,?_⟩;refine aS ?_;refine kK ?_;refine nr ?_;simp only[go_sem,simprocAttr,hne,h3,full,Za.upd,(show¬m=n by omega)];refine YD (avs:=[t'.enc]) (by simp only[go_sem,simprocAttr,hne,h3,full,Za.upd]) hf (hp t' ht' _ _ (QW _) (hT.up (by intro k;simp only[full,Za.upd];rw[if_neg om,if_neg om,hlow 0 k hn]))) sS ?_;have hb4:Ze.Below m (.box [.bool false]):=Ze.ZB ⟨.bool _,trivial⟩;refine aS ?_;cases h1:p t' with
  |false=>
   refine VK rfl rfl (by simp only[go_sem,simprocAttr,h1]) ?_;refine nr ?_;simp only[go_sem,simprocAttr,hne,h4,full,Za.upd,Zdf,setH,(show¬m=n by omega)];refine⟨.inr hb4,?_⟩;refine nV ?_;refine⟨by simp[Za.upd],rfl,Zku (fun j=>?_) (fun l' j hne=>?_)⟩
   ·by_cases e1:j=100
    ·subst e1;simp[Za.upd]
    ·by_cases e2:j=4
     ·subst e2;simp[Za.upd]
     ·simp[Za.upd,e1,e2,hlv j,setb,lkb,Ne.symm e1,Ne.symm e2]
   ·simp[Za.upd,hne]
  |true=>
   refine VB rfl rfl (by simp only[go_sem,simprocAttr,h1]) ?_;refine kK ?_;refine nN ?_;exact⟨by simp[Za.upd],rfl,by simp only[if_true];exact ZkJ h100⟩
 ·intro l hall;refine kK ?_;refine nR ?_;refine nV ?_;refine ZX (.inl rfl) _ n 4 0 [.bool true] sS sF rfl sm sm ?_ (.bool _) rfl;rw[hall];exact .refl _
 ·intro l hall;refine nV ?_;refine ZX (.inl rfl) _ n 4 0 [.bool false] sS sF rfl sm sm ?_ (.bool _) rfl;rw[hall];exact .refl _
theorem Zvn(t:Tm)(ht:t.Good):Z4 Tryz.prog 109 [t.enc] (.bool (shape t)):=by
 intro n H hn hT;refine aF Tryz.func109 fun B=>?_
 refine nR ?_;refine nR ?_;refine cT (a107 t ht) ?_;exact pB
theorem pred106:ZlJ 109 [] shape:=⟨⟨_,_,Zf Tryz.func109 rfl rfl⟩,fun t ht=>Zvn t ht⟩
def plain(t:Tm):Bool:=(t.kind==1)||(t.kind==2)||(t.kind==4)
theorem a70(t:Tm):Pure Tryz.prog 59 [t.enc] (.bool (plain t)):=by
 intro n H;refine aF Tryz.func59 fun B=>?_
 refine nR ?_;cases h1:(t.kind==1)<;>cases h2:(t.kind==2)<;>cases h3:(t.kind==4);all_goals
  refine nq3 h1 h2 h3 ?_;refine YO rfl rfl ?_;refine Zc ?_ (.bool _) rfl;try simp only[go_sem,simprocAttr,plain,h1,h2,h3,Qad,Qbv,Gt,U0]
  exact .refl _
theorem pred70:ZlJ 59 [] plain:=⟨⟨_,_,Zf Tryz.func59 rfl rfl⟩,fun t _=>Abs.Pure.tabs (a70 t)⟩
def dep:Tm→Int
 | .mk _ _ _ l=>deps l 0+1
where deps:List Tm→Int→Int
 |[],m=>m
 |t::r,m=>deps r (if dep t>m then dep t else m)
theorem Zne(l:List Tm):∀(i:Nat) (m:Int) (h:i<l.length),dep.deps (l.take (i+1)) m=(if dep l[i]>dep.deps (l.take i) m then dep l[i]else dep.deps (l.take i) m):=by
 induction l with
 |nil=>intro i m h;exact absurd h (Qm _)
 |cons t r ih=>
  intro i m h;cases i with
  |zero=>rfl
  |succ i=>simp only[Qam,dep.deps,UW];exact ih i _ (by simpa using h)
theorem Zk1(t:Tm):dep t=dep.deps t.args 0+1:=by cases t;rfl
theorem dep_sz:∀t:Tm,1≤dep t∧dep t≤t.sz
 | .mk k n s l=>by
  have hl:∀(r:List Tm),(∀u∈r,u∈l)→ ∀m:Int,0≤m→0≤dep.deps r m∧dep.deps r m≤max m (Tm.sz.szs r):=by
   intro r;induction r with
   |nil=>intro _ m hm;simp only[dep.deps,Tm.sz.szs];omega
   |cons t r ih=>
    intro hr m hm;have ht:=dep_sz t;have:=ih (fun u hu=>hr u (Qx _ hu)) (if dep t>m then dep t else m) (by split<;>omega);simp only[dep.deps,Tm.sz.szs];by_cases hc:dep t>m
    ·rw[if_pos hc]at this⊢;omega
    ·rw[if_neg hc]at this⊢;omega
  have:=hl l (fun u h=>h) 0 (GI _);simp only[dep,Tm.sz];omega
termination_by t=>SizeOf.sizeOf t
decreasing_by
 have:=QU (hr t sm);simp only[Tm.mk.sizeOf_spec];omega
theorem Zsb{t:Tm}(ht:t.Good):dep t≤3000000000000:=by have:=(dep_sz t).2;have:=ht.sz;omega
def ZsV(n:Nat)(t:Tm)(H:Za)(i:Nat):Zb:=
 ⟨[(9,.int .i64 i),(8,.int .i64 t.args.length),(7,.sl 4 (t.args.map Tm.enc) .any),(3,.int .i64 (dep.deps (t.args.take i) 0)),(1,.ptr n 1 0)],[(1,.box t.cs)],H⟩
theorem a105(t:Tm)(ht:t.Good):Pure Tryz.prog 108 [t.enc] (.int .i64 (dep t)):=by
 intro n H;have hd:=Zk1 t;have hg:=dep_sz t;have hb:=Zsb ht;have hl:=ht.len;refine aF Tryz.func108 fun B=>?_
 refine nR ?_;refine nR ?_;refine nR ?_;refine kK ?_;refine Zr (ZsV n t H) t.args.length rfl ?_ ?_
 ·exact KK
 intro i hi;refine Ya rfl ?_;rcases Qg i t.args.length with h|h
 ·refine nq h ?_;refine nT ?_;refine nr ?_;simp only[go_sem,simprocAttr,Tm.Zp _ _ h,h];refine nR ?_;refine cP (a105 t.args[i] (ht.arg (Qa h))) ?_;refine nR ?_;refine nN ?_;refine Zh ?_ ?_ ?_ ?_<;>repeat' first|apply q0|exact xx|apply aI
  ·refine aS ?_;rw[iw];exact Wk.refl _
  ·refine aS ?_;rw[Zne _ _ _ h];exact Wk.refl _
 ·refine nq (QE.2 h) ?_;refine nF ?_;refine nX ?_;refine nR ?_;refine nV ?_;have hi:i=t.args.length:=by omega
  subst hi;refine Zc ?_ (.int _ _) rfl;rw[hd];simp only[go_sem,simprocAttr,QM];rw[iw];exact Wk.refl _
termination_by SizeOf.sizeOf t
decreasing_by exact Tm.Xm (Qa h)
def Xy(t:Tm):Bool:=decide (dep t≤12)&&t.all shape
theorem a72(t:Tm)(ht:t.Good):Z4 Tryz.prog 61 [t.enc] (.bool (Xy t)):=by
 intro n H hn hT;refine aF Tryz.func61 fun B=>?_
 refine nR ?_;refine nR ?_;refine cP (a105 t ht) ?_;cases h1:decide (dep t≤12)with
 |false=>
  refine aS ?_;refine YO rfl rfl ?_;refine Zc ?_ (.bool _) rfl;try simp only[go_sem,simprocAttr,Xy,h1]
  exact .refl _
 |true=>
  refine aS ?_;refine cT (a71 t ht _ shape pred106) ?_;refine YO rfl rfl ?_;refine Zc ?_ (.bool _) rfl;try simp only[go_sem,simprocAttr,Xy,h1]
  exact .refl _
def Zu(t:Tm):Bool:=t.all plain&&Xy t
theorem a37(t:Tm)(ht:t.Good):Z4 Tryz.prog 15 [t.enc] (.bool (Zu t)):=by
 intro n H hn hT;refine aF Tryz.func15 fun B=>?_
 refine nR ?_;refine nR ?_;refine nR ?_;refine cT (a71 t ht _ plain pred70) ?_;cases h1:t.all plain with
 |false=>
  refine aS ?_;refine YO rfl rfl ?_;refine Zc ?_ (.bool _) rfl;try simp only[go_sem,simprocAttr,Zu,h1]
  exact .refl _
 |true=>
  refine aS ?_;refine cT (a72 t ht) ?_;refine YO rfl rfl ?_;refine Zc ?_ (.bool _) rfl;try simp only[go_sem,simprocAttr,Zu,h1]
  exact .refl _
def txt:Tm→List UInt8
 | .mk k n s l=>if k=1 then Lib.itoa n else if k=4 then((s++[40])++Lib.join (txts l) [44])++[41]else s
where txts:List Tm→List (List UInt8)
 |[]=>[]
 |t::r=>txt t::txts r
theorem txts_eq:∀l:List Tm,txt.txts l=l.map txt
 |[]=>rfl
 |t::r=>by rw[txt.txts,txts_eq r];rfl
theorem Zbp(t:Tm):txt t=if t.kind=1 then Lib.itoa t.num else if t.kind=4 then((t.name++[40])++Lib.join (t.args.map txt) [44])++[41]else t.name:=by
 cases t;rw[txt,txts_eq];rfl
def okv(t:Tm):Bool:=plain t&&shape t
theorem Zcf(p q:Tm→Bool):∀t:Tm,t.all (fun u=>p u&&q u)=(t.all p&&t.all q)
 | .mk k n s l=>by
  have hl:∀r:List Tm,(∀u∈r,u∈l)→Tm.all.alls (fun u=>p u&&q u) r=(Tm.all.alls p r&&Tm.all.alls q r):=by
   intro r;induction r with
   |nil=>intro _;rfl
   |cons t r ih=>
    intro hr;have ht:=Zcf p q t;simp only[Tm.all.alls,ht,ih (fun u hu=>hr u (Qx _ hu))];cases t.all p<;>cases t.all q<;>simp
  simp only[Tm.all,hl l (fun u h=>h)];cases p (.mk k n s l)<;>cases q (.mk k n s l)<;>simp
termination_by t=>SizeOf.sizeOf t
decreasing_by
 have:=QU (hr t sm);simp only[Tm.mk.sizeOf_spec];omega
section
variable {t:Tm} {p:Tm→Bool}
theorem Y1(h:t.all p=true):p t=true:=by
 rw[Tm.all_eq,Qi]at h;exact h.1
theorem Xn{u:Tm}(h:t.all p=true)(hu:u∈t.args):u.all p=true:=by
 rw[Tm.all_eq,Qi,Tm.VI,QA]at h;exact h.2 u hu
theorem ZdP{s:List UInt8}(h:sym s=true):s.length≤32:=by
 simp only[sym,wd,Qi,decide_eq_true_eq]at h;exact h.1.2.2
theorem Vp(h:okv t=true):(t.kind=1∧ -2147483647≤t.num∧t.num≤2147483647∧t.name=[]∧t.args=[])∨
  (t.kind=2∧t.num=0∧sym t.name=true∧t.args=[])∨(t.kind=4∧t.num=0∧sym t.name=true∧1≤t.args.length∧t.args.length≤8):=by
 simp only[okv,plain,Qi,Gn,beq_iff_eq]at h;obtain⟨(h1|h1)|h1,h2⟩:=h
 ·refine .inl ⟨h1,?_⟩;simp[shape,h1,nargs]at h2;exact⟨h2.1.1.1,h2.1.1.2,h2.1.2,h2.2⟩
 ·refine .inr (.inl ⟨h1,?_⟩);simp[shape,h1,nargs,named]at h2;exact⟨h2.1.1.1,h2.1.2,h2.2⟩
 ·refine .inr (.inr ⟨h1,?_⟩);simp[shape,h1,nargs,named]at h2;refine⟨h2.1.1.1,h2.1.2,?_,?_⟩<;>omega
theorem txt_len:∀t:Tm,t.all okv=true→(txt t).length≤42*t.sz
 | .mk k n s l=>fun h=>by
  have hl:∀r:List Tm,(∀u∈r,u∈l)→Lib.lens (r.map txt)≤42*Tm.sz.szs r:=by
   intro r;induction r with
   |nil=>intro _;simp[Lib.lens]
   |cons t r ih=>
    intro hr;have:=txt_len t (Xn (t:=.mk k n s l) h (hr t sm));have:=ih (fun u hu=>hr u (Qx _ hu));simp only[Qs,Lib.lens,Tm.sz.szs,QaA]at*;omega
  rw[Zbp];rcases Vp (Y1 h)with⟨h1,h2,h3,h4,h5⟩|⟨h1,h2,h3,h4⟩|⟨h1,h2,h3,h4,h5⟩
  ·rw[if_pos h1];have:=Lib.itoa_length_le (Tm.mk k n s l).num om om;have:=(Tm.mk k n s l).Zc1;omega
  ·rw[if_neg om,if_neg om];have:=ZdP h3;have:=(Tm.mk k n s l).Zc1;omega
  ·rw[if_neg om,if_pos h1];have h6:=ZdP h3;have h7:=hl l (fun u h=>h);have h8:(Tm.mk k n s l).args=l:=rfl;have h9:(Tm.mk k n s l).name=s:=rfl;rw[h8]at h4 h5⊢;rw[h9]at h6⊢;simp only[Qh,Qo,QB,Tm.sz];cases hc:l with
   |nil=>rw[hc]at h4;simp at h4
   |cons x r=>
    rw[hc]at h7 h5;rw[Qs,Lib.join_length];simp only[Qs,Qo,QB,Qv]at*;omega
termination_by t=>SizeOf.sizeOf t
decreasing_by
 have:=QU (hr t sm);simp only[Tm.mk.sizeOf_spec];omega
def Zuw(t:Tm)(n:Nat)(H:Za)(i:Nat):Zb:=
 ⟨[(21,.int .i64 i),(20,.int .i64 t.args.length),(19,.sl 4 (t.args.map Tm.enc) .any),(3,.sl 1 (((t.args.take i).map txt).map .str) (.buf n 200)),(1,.ptr n 1 0)],[(1,.box t.cs),(200,.buf 9 1 i)],H⟩
theorem a94(t:Tm)(ht:t.Good)(hv:t.all okv=true):Z4 Tryz.prog 119 [t.enc] (.str (txt t)):=by
 intro n H hn hT;have hs:=ht.name;have hlen:=ht.len;refine aF Tryz.func119 fun B=>?_
 refine nR ?_;refine nR ?_;refine kK ?_;rcases Vp (Y1 hv)with⟨h1,h2,h3,h4,h5⟩|⟨h1,h2,h3,h4⟩|⟨h1,h2,h3,h4,h5⟩
 ·have e1:(t.kind==1)=true:=by simp[h1]
  refine nq e1 ?_;refine nT ?_;refine nR ?_;refine cT (ZrG t.num om om) ?_;refine nV ?_;refine Zc ?_ (.str _) rfl;rw[Zbp,if_pos h1];exact .refl _
 ·have e1:(t.kind==1)=false:=by simp[h1]
  have e4:(t.kind==4)=false:=by simp[h1]
  have e6:(t.kind==6)=false:=by simp[h1]
  have e5:(t.kind==5)=false:=by simp[h1]
  refine nq e1 ?_;refine nF ?_;refine nq e4 ?_;refine nF ?_;refine nq e6 ?_;refine nF ?_;refine nq e5 ?_;refine nF ?_;refine kK ?_;refine nR ?_;refine nV ?_;refine Zc ?_ (.str _) rfl;rw[Zbp,if_neg om,if_neg om];exact .refl _
 ·have e1:(t.kind==1)=false:=by simp[h1]
  have e4:(t.kind==4)=true:=by simp[h1]
  refine nq e1 ?_;refine nF ?_;refine nq e4 ?_;refine nT ?_;refine nR ?_;refine nR ?_;refine kK ?_;refine XB 3 200 9 1 rfl rfl ?_;refine Zr (Zuw t n H) t.args.length rfl ?_ ?_
  ·exact KK
  intro i hi;refine Ya rfl ?_;rcases Qg i t.args.length with h|h
  ·refine nq h ?_;refine nT ?_;refine nr ?_;simp only[go_sem,simprocAttr,Tm.Zp _ _ h,h];refine nR ?_;have hmin:(t.args.take i).length=i:=Uo om;refine ZhC (Zf Tryz.func119 rfl rfl) (a94 t.args[i] (ht.arg (Qa h)) (Xn hv (Qa h))) hn hT (by simp only[go_sem,simprocAttr,hmin]) ?_;refine aq hmin ?_;refine⟨by first|exact⟨rfl,dc⟩|exact rfl,⟨Zn om,om⟩,?_⟩;refine nR ?_;refine nN ?_;refine Zh ?_ ?_ ?_ ?_<;>repeat' first|apply q0|exact xx|apply aI
   ·refine aS ?_;rw[iw];exact .refl _
   ·simp only[go_sem,simprocAttr,Qn h,QG];exact .refl _
  ·refine nq (QE.2 h) ?_;refine nF ?_;refine nX ?_;have hi':i=t.args.length:=by omega
   subst hi';have hl:=txt_len t hv;rw[Zbp,if_neg om,if_pos h1]at hl;simp only[Qh,Qo,QB]at hl;have hsz:=ht.sz;refine kK ?_;refine nD drawO ?_;simp only[go_sem,simprocAttr,QM];refine⟨om,?_⟩;refine cT (a92 (t.args.map txt) [44] (.buf n 200) (by simp;omega) om) ?_;refine⟨by simp only[Qh,Qo,QB];omega,by simp only[Qh,Qo,QB];omega,?_⟩;refine nV ?_;refine Zc ?_ (.str _) rfl;rw[Zbp,if_neg om,if_pos h1];exact .refl _
termination_by SizeOf.sizeOf t
decreasing_by exact Tm.Xm (Qa h)
end
theorem Jq{t:Tm}(h:Zu t=true):t.all okv=true:=by
 simp only[Zu,Xy,Qi]at h;have:=Zcf plain shape t;rw[h.1,h.2.2]at this;exact this
theorem a58(t:Tm)(ht:t.Good)(hv:Zu t=true):Z4 Tryz.prog 68 [t.enc] (.str (txt t)):=by
 intro n H hn hT;have h1:Xy t=true:=by simp only[Zu,Qi]at hv;exact hv.2
 refine aF Tryz.func68 fun B=>?_
 refine nR ?_;refine nR ?_;refine ZhC (Zf Tryz.func61 rfl rfl) (a72 t ht) hn hT (by simp only[go_sem,simprocAttr,h1]) ?_;refine aq h1 ?_;refine nF ?_;refine nR ?_;refine cT (a94 t ht (Jq hv)) ?_;refine YO rfl rfl ?_;refine Zc ?_ (.str _) rfl;try simp only[go_sem,simprocAttr]
 exact .refl _
theorem a44(t:Tm)(ht:t.Good):Z4 Tryz.prog 116 [t.enc] (.bool (!Zu t)):=by
 intro n H hn hT;refine aF Tryz.func116 fun B=>?_
 refine nR ?_;refine nR ?_;refine cT (a37 t ht) ?_;exact pB
def ZcS{α:Type}(p:α→Bool)(l:List α):Int:=if l.any p then((l.findIdx p:Nat):Int)else -1
section
variable {α:Type}
theorem Zfp(p:α→Bool)(l:List α):decide (0≤ZcS p l)=l.any p:=by
 unfold ZcS;split
 ·rename_i h;rw[h];simp
 ·rename_i h;simp only[MN]at h;rw[h];rfl
theorem ZaO{p:α→Bool}{l:List α}{i:Nat}(h:i<l.length)(hp:p l[i]=true)(hq:∀j (h:j<l.length),j<i→p l[j]=false):ZcS p l=i:=by
 have h1:l.any p=true:=GR.2 ⟨_,Qa h,hp⟩;unfold ZcS;rw[if_pos h1];congr 1
 rw[List.findIdx_eq h];exact⟨hp,fun j hj=>by rw[hq j om hj]⟩
theorem Vo{p:α→Bool}{l:List α}(hq:∀j (h:j<l.length),p l[j]=false):ZcS p l= -1:=by
 unfold ZcS;rw[if_neg];rw[GR];rintro⟨x,hx,hp⟩;obtain⟨j,hj,rfl⟩:=QJ hx;rw[hq j hj]at hp;cases hp
structure ZeX {α:Type} (f:Nat) (caps:List AV) (enc:α→AV) (l:List α) (p:α→Bool):Prop where
 fn:∃fn c,Fun Tryz.prog f fn c
 on:∀x∈l,Z4 Tryz.prog f (enc x::caps) (.bool (p x))
 below:∀n,Yi (fun c=>Below n c) caps
def Zux(l:List Tm)(f:Nat)(caps:List AV)(H:Za)(i:Nat):Zb:=
 ⟨[(8,.int .i64 i),(7,.int .i64 l.length),(1,.fn (.func f) caps),(0,.sl 4 (l.map Tm.enc) .any)],[],H⟩
theorem a80(l:List Tm)(hl:l.length≤1000000)(f:Nat)(caps:List AV)(p:Tm→Bool)(hp:ZeX f caps Tm.enc l p):Z4 Tryz.prog 128 [.sl 4 (l.map Tm.enc) .any,.fn (.func f) caps] (.int .i64 (ZcS p l)):=by
 intro n H hn hT;obtain⟨⟨fn,c,hf⟩,hp,hbl⟩:=hp;have hfi:∀q,Inside n q (.fn (.func f) caps):=fun q=>(Below.fn _ _ fun i hi=>(hbl n).mem _ (Qa hi)).inside
 refine aF Tryz.func128 fun B=>?_
 refine nR ?_;refine nR ?_;refine kK ?_;refine Yc (Zux l f caps H) (fun i=>∀j (h:j<l.length),j<i→p l[j]=false) l.length rfl ?_ (fun j _ h=>absurd h (Qm _)) ?_
 ·refine Zh ?_ ?_ ?_ ?_<;>repeat' first|apply q0|exact xx|apply aI
  exact hfi _
 intro i hi hq;refine Ya rfl ?_;rcases Qg i l.length with h|h
 ·refine nq h ?_;refine nT ?_;refine nR ?_;refine nr ?_;simp only[go_sem,simprocAttr,Tm.Zp _ _ h,h];refine YD (avs:=[l[i].enc]) rfl hf (hp l[i] (Qa h) _ _ (QW _) (hT.full hn)) rfl ?_;cases h1:p l[i]with
  |true=>
   refine aS ?_;refine nT ?_;refine nR ?_;refine nW ?_;refine Zc ?_ (.int _ _) rfl;rw[ZaO h h1 hq];exact .refl _
  |false=>
   refine aS ?_;refine nF ?_;refine nR ?_;refine nN ?_;refine⟨fun j hj hji=>?_,?_⟩
   ·rcases Qg j i with h'|h'
    ·exact hq j hj h'
    ·have:j=i:=by omega
     subst this;exact h1
   ·refine Zh ?_ ?_ ?_ ?_<;>repeat' first|apply q0|exact xx|apply aI
    ·refine aS ?_;rw[iw];exact .refl _
    ·exact hfi _
 ·refine nq (QE.2 h) ?_;refine nF ?_;refine nX ?_;refine nR ?_;refine nV ?_;refine Zc ?_ (.int _ _) rfl;rw[Vo (fun j hj=>hq j hj om)];exact .refl _
theorem a46(l:List Tm)(hl:l.length≤1000000)(f:Nat)(caps:List AV)(p:Tm→Bool)(hp:ZeX f caps Tm.enc l p):Z4 Tryz.prog 81 [.sl 4 (l.map Tm.enc) .any,.fn (.func f) caps] (.bool (l.any p)):=by
 intro n H hn hT;refine aF Tryz.func81 fun B=>?_
 refine nR ?_;refine nR ?_;refine cT (a80 l hl f caps p hp) ?_;refine nV ?_;refine Zc ?_ (.bool _) rfl;simp only[go_sem,simprocAttr,Zfp];exact .refl _
def Yv(a:Am):Bool:=sym a.pred&&decide ((a.args.length:Int)≤8)&&a.args.all Zu
theorem a14(a:Am)(ha:a.Good):Z4 Tryz.prog 64 [a.enc] (.bool (Yv a)):=by
 intro n H hn hT;have hs:=ha.pred;refine aF Tryz.func64 fun B=>?_
 refine nR ?_;refine nR ?_;refine nR ?_;refine cP (a45 a.pred om) ?_;cases h1:sym a.pred with
 |false=>
  refine aS ?_;refine YO rfl rfl ?_;refine Zc ?_ (.bool _) rfl;try simp only[go_sem,simprocAttr,Yv,h1]
  exact .refl _
 |true=>
  cases h2:decide ((a.args.length:Int)≤8)with
  |false=>
   refine aq h2 ?_;refine YO rfl rfl ?_;refine Zc ?_ (.bool _) rfl;try simp only[go_sem,simprocAttr,Yv,h1,h2]
   exact .refl _
  |true=>
   refine aq h2 ?_;refine cT (a46 a.args ha.len _ [] (fun t=>!Zu t) ⟨⟨_,_,Zf Tryz.func116 rfl rfl⟩,fun t ht=>a44 t (ha.arg ht),fun _=>trivial⟩) ?_;refine nV ?_;refine Zc ?_ (.bool _) rfl;simp only[go_sem,simprocAttr,Yv,h1,h2,List.not_any_eq_all_not,Bool.not_not];exact .refl _
end
structure Zfb {α β:Type} (f:Nat) (caps:List AV) (ea:α→AV) (eb:β→AV) (l:List α) (g:α→β):Prop where
 fn:∃fn c,Fun Tryz.prog f fn c
 on:∀x∈l,Z4 Tryz.prog f (ea x::caps) (eb (g x))
 below:∀n,Yi (fun c=>Below n c) caps
theorem getD_map{α:Type}(f:α→AV)(l:List α)(i:Nat)(h:i<l.length)(d:AV):(l.map f).getD i d=f l[i]:=by
 rw[Qp,QZ,Qd h];rfl
abbrev Str:=List UInt8
abbrev eStr(s:Str):AV:=.str s
abbrev eInt(i:Int):AV:=.int .i64 i
theorem Zf7{n k:Nat}(l:List Int):Below n (.sl k (l.map eInt) .any):=ZC fun x hx=>by obtain⟨u,_,rfl⟩:=Qb.1 hx;exact .int _ _
theorem Zaw{n k:Nat}{p:Nat→Prop}(l:List Int):Inside n p (.sl k (l.map eInt) .any):=(Zf7 l).inside
def ZuS(l:List (Tm))(f:Nat)(caps:List AV)(g:Tm→Str)(n:Nat)(H:Za)(i:Nat):Zb:=
 ⟨[(10,.int .i64 i),(9,.int .i64 l.length),(8,.sl 4 (l.map Tm.enc) .any),(5,.sl 1 (((l.take i).map g).map eStr) (.buf n 200)),(1,.fn (.func f) caps)],[(200,.buf 9 1 i)],H⟩
theorem a93(l:List (Tm))(hl:l.length≤1000000)(f:Nat)(caps:List AV)(g:Tm→Str)(hp:Zfb f caps Tm.enc eStr l g):Z4 Tryz.prog 118 [.sl 4 (l.map Tm.enc) .any,.fn (.func f) caps] (.sl 1 ((l.map g).map eStr) .any):=by
 intro n H hn hT;obtain⟨⟨fn,c,hf⟩,hp,hbl⟩:=hp;have hfi:∀q,Inside n q (.fn (.func f) caps):=fun q=>(Below.fn _ _ fun i hi=>(hbl n).mem _ (Qa hi)).inside
 refine aF Tryz.func118 fun B=>?_
 refine nR ?_;refine nR ?_;refine nR ?_;refine kK ?_;refine XB 5 200 9 1 rfl rfl ?_;refine Zr (ZuS l f caps g n H) l.length rfl ?_ ?_
 ·exact KK
 intro i hi;refine Ya rfl ?_;rcases Qg i l.length with h|h
 ·have hmin:(l.take i).length=i:=Uo om;refine nq h ?_;refine nT ?_;refine nr ?_;simp only[go_sem,simprocAttr,getD_map Tm.enc _ _ h,h];refine nR ?_;refine YD (avs:=[Tm.enc l[i]]) rfl hf (hp l[i] (Qa h) _ _ (QW _) (hT.full hn)) rfl ?_;refine aq hmin ?_;refine⟨by first|exact⟨rfl,dc⟩|exact rfl,⟨Zn om,om⟩,?_⟩;refine nR ?_;refine nN ?_;refine Zh ?_ ?_ ?_ ?_<;>repeat' first|apply q0|exact xx|apply aI
  ·refine aS ?_;rw[iw];exact .refl _
  ·simp only[go_sem,simprocAttr,Qn h,QG];exact .refl _
  all_goals first|exact hfi _|exact Zaw _
 ·refine nq (QE.2 h) ?_;refine nF ?_;refine nX ?_;have hi':i=l.length:=by omega
  subst hi';refine nt0 ?_;refine nV ?_;refine Zc ?_ (Zld _) rfl;refine aS ?_;exact .any _ _ _
def Zvt(l:List (Tm))(f:Nat)(caps:List AV)(g:Tm→Tm)(n:Nat)(H:Za)(i:Nat):Zb:=
 ⟨[(10,.int .i64 i),(9,.int .i64 l.length),(8,.sl 4 (l.map Tm.enc) .any),(5,.sl 4 (((l.take i).map g).map Tm.enc) (.buf n 200)),(1,.fn (.func f) caps)],[(200,.buf 40 4 i)],H⟩
theorem a95(l:List (Tm))(hl:l.length≤1000000)(f:Nat)(caps:List AV)(g:Tm→Tm)(hp:Zfb f caps Tm.enc Tm.enc l g):Z4 Tryz.prog 120 [.sl 4 (l.map Tm.enc) .any,.fn (.func f) caps] (.sl 4 ((l.map g).map Tm.enc) .any):=by
 intro n H hn hT;obtain⟨⟨fn,c,hf⟩,hp,hbl⟩:=hp;have hfi:∀q,Inside n q (.fn (.func f) caps):=fun q=>(Below.fn _ _ fun i hi=>(hbl n).mem _ (Qa hi)).inside
 refine aF Tryz.func120 fun B=>?_
 refine nR ?_;refine nR ?_;refine nR ?_;refine kK ?_;refine XB 5 200 40 4 rfl rfl ?_;refine Zr (Zvt l f caps g n H) l.length rfl ?_ ?_
 ·exact KK
 intro i hi;refine Ya rfl ?_;rcases Qg i l.length with h|h
 ·have hmin:(l.take i).length=i:=Uo om;refine nq h ?_;refine nT ?_;refine nr ?_;simp only[go_sem,simprocAttr,getD_map Tm.enc _ _ h,h];refine nR ?_;refine YD (avs:=[Tm.enc l[i]]) rfl hf (hp l[i] (Qa h) _ _ (QW _) (hT.full hn)) rfl ?_;refine aq hmin ?_;refine⟨by first|exact⟨rfl,dc⟩|exact rfl,⟨Zn om,om⟩,?_⟩;refine nR ?_;refine nN ?_;refine Zh ?_ ?_ ?_ ?_<;>repeat' first|apply q0|exact xx|apply aI
  ·refine aS ?_;rw[iw];exact .refl _
  ·simp only[go_sem,simprocAttr,Qn h,QG];exact .refl _
  all_goals first|exact hfi _|exact Zaw _
 ·refine nq (QE.2 h) ?_;refine nF ?_;refine nX ?_;have hi':i=l.length:=by omega
  subst hi';refine nt0 ?_;refine nV ?_;refine Zc ?_ (ZE _) rfl;refine aS ?_;exact .any _ _ _
def JZ(a:Am):List UInt8:=((a.pred++[40])++Lib.join (a.args.map txt) [44])++[41]
theorem Za5{a:Am}(h:Yv a=true):sym a.pred=true∧a.args.length≤8∧a.args.all Zu=true:=by
 simp only[Yv,Qi,decide_eq_true_eq]at h;exact⟨h.1.1,om,h.2⟩
theorem txts_len:∀l:List Tm,(∀t∈l,t.all okv=true)→Lib.lens (l.map txt)≤42*Tm.sz.szs l
 |[],_=>by simp[Lib.lens]
 |t::r,h=>by
  have h1:=txt_len t (h t sm);have h2:=txts_len r (fun u hu=>h u (by simp[hu]));simp only[Lib.lens,Qs,QaA,Tm.sz.szs]at*;omega
theorem Zpw(l:List Tm)(h:∀t∈l,t.all okv=true):(Lib.join (l.map txt) [44]).length≤42*Tm.sz.szs l+l.length:=by
 have h1:=txts_len l h;cases l with
 |nil=>simp[Lib.join]
 |cons t r=>
  rw[Qs,Lib.join_length];simp only[Lib.lens,Qs,QaA,Qo,QB,Qv]at*;omega
theorem Zs6(l:List Tm)(hl:∀t∈l,t.Good)(hv:l.all Zu=true):Zfb 68 [] Tm.enc eStr l txt:=
 ⟨⟨_,_,Zf Tryz.func68 rfl rfl⟩,fun t ht=>a58 t (hl t ht) (QA.1 hv t ht),fun _=>trivial⟩
theorem a57(a:Am)(ha:a.Good)(hv:Yv a=true):Z4 Tryz.prog 67 [a.enc] (.str (JZ a)):=by
 intro n H hn hT;obtain⟨h1,h2,h3⟩:=Za5 hv;have h4:=ZdP h1;have h5:=Zpw a.args (fun t ht=>Jq (QA.1 h3 t ht));have h6:=Tm.sz_len a.args;have h7:Tm.sz.szs a.args≤1000000:=by have:=ha.sz;simp only[Am.sz]at this;omega
 refine aF Tryz.func67 fun B=>?_
 refine nR ?_;refine Y5 tok mixed drawO rfl rfl rfl ?_;simp only[go_sem,simprocAttr];refine⟨om,?_⟩;refine cT (a93 a.args om _ [] txt (Zs6 a.args (fun t ht=>ha.arg ht) h3)) ?_;have:=a92 (a.args.map txt) [44] .any (by simp;omega) om;refine cT (this) ?_;refine⟨by simp only[Qh,Qo,QB];omega,by simp only[Qh,Qo,QB];omega,?_⟩;refine nV ?_;refine Zc ?_ (.str _) rfl;simp only[go_sem,simprocAttr,JZ];exact .refl _
theorem Zvr(t:Tm)(ht:t.Good)(hm:Zfb 121 [] Tm.enc Tm.enc t.args id):Z4 Tryz.prog 121 [t.enc] t.enc:=by
 intro n H hn hT;have hl:=ht.len;have ha:=a95 t.args hl _ [] id hm;rw[Qbn]at ha;refine aF Tryz.func121 fun B=>?_
 refine nR ?_;refine nR ?_;refine cT (ha) ?_;refine nR ?_;refine nV ?_;refine ZX (.inl rfl) _ n 2 0 t.cs sS sF rfl (Qe _) sS ?_ (Tm.blw _ t) rfl;exact xS
theorem ZuZ(t:Am)(ht:t.Good)(hm:Zfb 121 [] Tm.enc Tm.enc t.args id):Z4 Tryz.prog 69 [t.enc] t.enc:=by
 intro n H hn hT;have hl:=ht.len;have ha:=a95 t.args hl _ [] id hm;rw[Qbn]at ha;refine aF Tryz.func69 fun B=>?_
 refine nR ?_;refine nR ?_;refine cT (ha) ?_;refine nR ?_;refine nV ?_;refine ZX (.inl rfl) _ n 2 0 t.cs sS sF rfl (Qe _) sS ?_ (Am.blw _ t) rfl;exact xS
theorem a96(t:Tm)(ht:t.Good):Z4 Tryz.prog 121 [t.enc] t.enc:=
 Zvr t ht ⟨⟨_,_,Zf Tryz.func121 rfl rfl⟩,fun u hu=>a96 u (ht.arg hu),fun _=>trivial⟩
termination_by SizeOf.sizeOf t
decreasing_by exact Tm.Xm hu
theorem a59(t:Am)(ht:t.Good):Z4 Tryz.prog 69 [t.enc] t.enc:=
 ZuZ t ht ⟨⟨_,_,Zf Tryz.func121 rfl rfl⟩,fun u hu=>a96 u (ht.arg hu),fun _=>trivial⟩

theorem Zsm{s:List UInt8}(h:sym s=true):(s==[])=false:=by
 cases s with
 |nil=>simp[sym,wd]at h
 |cons b r=>rfl
theorem a87(a:Int):Pure Tryz.prog 175 [.int .i64 a] (.bool false):=by
 intro n H;refine aF Tryz.func175 fun B=>?_
 refine nR ?_;refine nr ?_;simp only[go_sem,simprocAttr,bne];exact pB
theorem a51(a b:Int):Pure Tryz.prog 111 [.int .i64 a,.int .i64 b] (.int .i64 (YA a b)):=by
 intro n H;refine aF Tryz.func111 fun B=>?_
 refine nR ?_;refine nR ?_;refine cP (a87 a) ?_;refine nR ?_;refine cP (a87 b) ?_;refine nR ?_;refine nF ?_;refine nR ?_;refine nF ?_;cases h1:decide (a<b)with
 |true=>
  refine nq h1 ?_;refine nT ?_;refine nR ?_;refine YO rfl rfl ?_;refine Zc ?_ (.int _ _) rfl;try simp only[go_sem,simprocAttr,YA,of_decide_eq_true h1]
  exact .refl _
 |false=>
  refine nq h1 ?_;refine nF ?_;cases h2:decide (b<a)with
  |true=>
   refine nq h2 ?_;refine nT ?_;refine nR ?_;refine YO rfl rfl ?_;refine Zc ?_ (.int _ _) rfl;try simp only[go_sem,simprocAttr,YA,of_decide_eq_false h1,of_decide_eq_true h2]
   exact .refl _
  |false=>
   refine nq h2 ?_;refine nF ?_;refine nR ?_;refine YO rfl rfl ?_;refine Zc ?_ (.int _ _) rfl;try simp only[go_sem,simprocAttr,YA,of_decide_eq_false h1,of_decide_eq_false h2]
   exact .refl _
theorem ZnM(a b:List UInt8):(if Op.bytesLess a b=true then(-1:Int)else if(!(Op.bytesLess a b||a==b))=true then 1 else 0)=Lib.compareBytes a b:=by
 rw[less_cmp];by_cases h:a=b
 ·subst h;simp[cmpBytes_self]
 ·rcases cmpBytes_val a b with h1|h1|h1
  ·simp[h1]
  ·exact absurd (cmpBytes_zero h1) h
  ·simp[h1,h]
def orL:List Int→Int
 |[]=>0
 |a::r=>thn a (orL r)
section
variable {l:List Int}
theorem Zsy{i:Nat}(h:i<l.length)(hn:l[i]≠0)(hq:∀j (h:j<l.length),j<i→l[j]=0):orL l=l[i]:=by
 induction l generalizing i with
 |nil=>exact absurd h (Qm _)
 |cons a r ih=>
  cases i with
  |zero=>simp only[Ud]at hn⊢;rw[orL,ZaV hn]
  |succ i=>
   have h0:=hq 0 sm om;simp only[Ud]at h0;subst h0;simp only[UW]at hn⊢;rw[orL,YS];exact ih (by simpa using h) hn (fun j hj hji=>by have:=hq (j+1) (by simpa using hj) om;simpa using this)
theorem Zpm(hq:∀j (h:j<l.length),l[j]=0):orL l=0:=by
 induction l with
 |nil=>rfl
 |cons a r ih=>
  have h0:=hq 0 sm;simp only[Ud]at h0;rw[orL,h0,YS];exact ih (fun j hj=>by have:=hq (j+1) (by simpa using hj);simpa using this)
theorem WV{n k:Nat}{p:Nat→Prop}{xs:List AV}(hx:∀x∈xs,Below n x):Inside n p (.sl k xs .full):=
 .sl k xs _ (fun i hi c hc=>(((hx _ (Qa hi)).cells _ (Qa hc))).inside) (fun l j e=>by cases e)
theorem ZbK{n:Nat}(k:IntKind)(l:List Int):∀x∈l.map (AV.int k),Below n x:=fun x hx=>by obtain⟨u,_,rfl⟩:=Qb.1 hx;exact .int _ _
theorem Znh(l:List Int)(i:Nat)(h:i<l.length)(d:AV):(l.map eInt).getD i d= .int .i64 l[i]:=getD_map eInt l i h d
def ZvC(l:List Int)(H:Za)(i:Nat):Zb:=
 ⟨[(8,.int .i64 i),(7,.int .i64 l.length),(6,.sl 1 (l.map eInt) .full),(3,.int .i64 0)],[],H⟩
theorem a49(l:List Int)(hl:l.length≤1000000):Pure Tryz.prog 113 [.sl 1 (l.map eInt) .full] (.int .i64 (orL l)):=by
 intro n H;refine aF Tryz.func113 fun B=>?_
 refine nR ?_;refine nR ?_;refine nR ?_;refine kK ?_;refine Yc (ZvC l H) (fun i=>∀j (h:j<l.length),j<i→l[j]=0) l.length rfl ?_ (fun j _ h=>absurd h (Qm _)) ?_
 ·refine Zh ?_ ?_ ?_ ?_<;>repeat' first|apply q0|exact xx|apply aI
  exact WV (ZbK .i64 l)
 intro i hi hq;refine Ya rfl ?_;rcases Qg i l.length with h|h
 ·refine nq h ?_;refine nT ?_;refine nr ?_;simp only[go_sem,simprocAttr,Znh _ _ h,h];refine nR ?_;cases h5:(l[i]==0)with
  |false=>
   simp only[go_sem,simprocAttr,bne,h5];refine nT ?_;refine nR ?_;refine nW ?_;refine Zc ?_ (.int _ _) rfl;rw[Zsy h (by simpa using h5) hq];exact .refl _
  |true=>
   simp only[go_sem,simprocAttr,bne,h5];refine nF ?_;refine nR ?_;refine nN ?_;refine⟨fun j hj hji=>?_,?_⟩
   ·rcases Qg j i with h'|h'
    ·exact hq j hj h'
    ·have:j=i:=by omega
     subst this;simpa using h5
   ·refine Zh ?_ ?_ ?_ ?_<;>repeat' first|apply q0|exact xx|apply aI
    ·refine aS ?_;rw[iw];exact .refl _
    ·exact WV (ZbK .i64 l)
 ·refine nq (QE.2 h) ?_;refine nF ?_;refine nX ?_;refine nR ?_;refine nV ?_;refine Zc ?_ (.int _ _) rfl;rw[Zpm (fun j hj=>hq j hj om)];exact .refl _
def Zi9(l:List Int)(k:Int):Int:=ZcS (fun x=>k==x) l
def Zug(l:List Int)(k:Int)(H:Za)(i:Nat):Zb:=
 ⟨[(8,.int .i64 i),(7,.int .i64 l.length),(0,.sl 1 (l.map (AV.int .u8)) .full),(1,.int .u8 k)],[],H⟩
theorem a119(l:List Int)(k:Int)(hl:l.length≤1000000):Pure Tryz.prog 176 [.sl 1 (l.map (AV.int .u8)) .full,.int .u8 k] (.int .i64 (Zi9 l k)):=by
 intro n H;refine aF Tryz.func176 fun B=>?_
 refine nR ?_;refine nR ?_;refine kK ?_;refine Yc (Zug l k H) (fun i=>∀j (h:j<l.length),j<i→(k==l[j])=false) l.length rfl ?_ (fun j _ h=>absurd h (Qm _)) ?_
 ·refine Zh ?_ ?_ ?_ ?_<;>repeat' first|apply q0|exact xx|apply aI
  exact WV (ZbK .u8 l)
 intro i hi hq;refine Ya rfl ?_;rcases Qg i l.length with h|h
 ·refine nq h ?_;refine nT ?_;refine nR ?_;refine nq2 (getD_map (AV.int .u8) l i h) h ?_;cases h5:(k==l[i])with
  |true=>
   refine VK rfl rfl (by simp only[go_sem,simprocAttr,h5]) ?_;refine nR ?_;refine nW ?_;refine Zc ?_ (.int _ _) rfl;rw[Zi9,ZaO h h5 hq];exact .refl _
  |false=>
   refine VB rfl rfl (by simp only[go_sem,simprocAttr,h5]) ?_;refine nR ?_;refine nN ?_;refine⟨fun j hj hji=>?_,?_⟩
   ·rcases Qg j i with h'|h'
    ·exact hq j hj h'
    ·have:j=i:=by omega
     subst this;exact h5
   ·refine Zh ?_ ?_ ?_ ?_<;>repeat' first|apply q0|exact xx|apply aI
    ·refine aS ?_;rw[iw];exact .refl _
    ·exact WV (ZbK .u8 l)
 ·refine nq (QE.2 h) ?_;refine nF ?_;refine nX ?_;refine nR ?_;refine nV ?_;refine Zc ?_ (.int _ _) rfl;rw[Zi9,Vo (fun j hj=>hq j hj om)];exact .refl _
theorem ZpI(k:Int):Zi9 [1,2,4,3,5,6] k=if k=1 then 0 else if k=2 then 1 else if k=4 then 2 else if k=3 then 3 else if k=5 then 4 else if k=6 then 5 else -1:=by
 by_cases h1:k=1
 ·subst h1;rfl
 by_cases h2:k=2
 ·subst h2;rfl
 by_cases h4:k=4
 ·subst h4;rfl
 by_cases h3:k=3
 ·subst h3;rfl
 by_cases h5:k=5
 ·subst h5;rfl
 by_cases h6:k=6
 ·subst h6;rfl
 unfold Zi9 ZcS;simp[h1,h2,h3,h4,h5,h6]
theorem ZpP(k:Int):rank k=if 0≤Zi9 [1,2,4,3,5,6] k then Zi9 [1,2,4,3,5,6] k else 6+k:=by
 rw[ZpI];unfold rank;repeat' split
 all_goals first|rfl|omega
theorem a88(k:Int)(hk:0≤k∧k≤255):Pure Tryz.prog 112 [.int .u8 k] (.int .i64 (rank k)):=by
 intro n H;have hr:=ZpP k;have ha:=a119 [1,2,4,3,5,6] k dc;simp only[Qs,Uy]at ha;generalize Zi9 [1,2,4,3,5,6] k=i at ha hr;refine aF Tryz.func112 fun B=>?_
 refine nR ?_;refine nR ?_;refine⟨dc,?_⟩;refine nR ?_;refine cP (ha) ?_;cases h1:decide (0≤i)with
 |true=>
  refine nq h1 ?_;refine nT ?_;refine nR ?_;refine nV ?_;refine Zc ?_ (.int _ _) rfl;rw[hr,if_pos (of_decide_eq_true h1)];exact .refl _
 |false=>
  refine nq h1 ?_;refine nF ?_;refine nR ?_;refine nV ?_;refine Zc ?_ (.int _ _) rfl;refine aS ?_;rw[hr,if_neg (of_decide_eq_false h1),IntWalk.i64_in k om,iw];exact .refl _
structure ZtO (f:Nat) (p q:List Tm):Prop where
 fn:∃fn c,Fun Tryz.prog f fn c
 on:∀x∈p,∀y∈q,Pure Tryz.prog f [x.enc,y.enc] (.int .i64 (cmpT x y))
def Zu2(p q:List Tm)(f:Nat)(H:Za)(i:Nat):Zb:=
 ⟨[(13,.int .i64 i),(12,.int .i64 p.length),(11,.sl 4 (p.map Tm.enc) .any),(0,.sl 4 (p.map Tm.enc) .any),(1,.sl 4 (q.map Tm.enc) .any),(2,.fn (.func f) [])],[],H⟩
theorem Zek(p q:List Tm)(i:Nat)(h:i<p.length)(h':i<q.length):cmpT.cmps (p.drop i) (q.drop i)=thn (cmpT p[i] q[i]) (cmpT.cmps (p.drop (i+1)) (q.drop (i+1))):=by
 rw[Qw h,Qw h'];rfl
theorem a52(p q:List Tm)(hp:p.length≤1000000)(hq:q.length≤1000000)(f:Nat)(hf:ZtO f p q):Pure Tryz.prog 115 [.sl 4 (p.map Tm.enc) .any,.sl 4 (q.map Tm.enc) .any,.fn (.func f) []] (.int .i64 (cmpT.cmps p q)):=by
 intro n H;obtain⟨⟨fn,c,hf⟩,hon⟩:=hf;have hfi:∀r,Inside n r (.fn (.func f) []):=fun r=>Inside.fn _ _ (fun i h=>absurd h (Qm _))
 refine aF Tryz.func115 fun B=>?_
 refine nR ?_;refine nR ?_;refine kK ?_;refine Yc (Zu2 p q f H) (fun i=>cmpT.cmps p q=cmpT.cmps (p.drop i) (q.drop i)) p.length rfl ?_ rfl ?_
 ·exact KK
 intro i hi hc;refine Ya rfl ?_;rcases Qg i p.length with h|h
 ·refine nq h ?_;refine nT ?_;refine nr ?_;simp only[go_sem,simprocAttr,Tm.Zp _ _ h,h];rcases Qg i q.length with h'|h'
  ·refine nq2 h' (Qbt.2 h') ?_;refine nF ?_;refine nr ?_;simp only[go_sem,simprocAttr,Tm.Zp _ _ h',h'];refine nR ?_;refine YD (avs:=[p[i].enc,q[i].enc]) rfl hf (hon _ (Qa h) _ (Qa h') _ _) rfl ?_;refine aS ?_;cases h5:(cmpT p[i] q[i]==0)with
   |false=>
    refine nr ?_;simp only[go_sem,simprocAttr,bne,h5];refine nT ?_;refine nR ?_;refine nW ?_;refine Zc ?_ (.int _ _) rfl;rw[hc,Zek p q i h h',ZaV (by simpa using h5)];exact .refl _
   |true=>
    refine nr ?_;simp only[go_sem,simprocAttr,bne,h5];refine nF ?_;refine nR ?_;refine nN ?_;refine⟨?_,?_⟩
    ·rw[hc,Zek p q i h h',(by simpa using h5:cmpT p[i] q[i]=0),YS]
    ·refine Zh ?_ ?_ ?_ ?_<;>repeat' first|apply q0|exact xx|apply aI
     refine aS ?_;rw[iw];exact .refl _
  ·refine nq h' ?_;refine nT ?_;refine nR ?_;refine nW ?_;refine Zc ?_ (.int _ _) rfl;rw[hc,Uk h',Qw h];exact .refl _
 ·refine nq (QE.2 h) ?_;refine nF ?_;refine nX ?_;have hi':i=p.length:=by omega
  subst hi';rw[GX]at hc;cases h1:decide (p.length<q.length)with
  |true=>
   refine nq h1 ?_;refine nT ?_;refine nR ?_;refine nV ?_;refine Zc ?_ (.int _ _) rfl;rw[hc,Qw (by have:=of_decide_eq_true h1;omega)];exact .refl _
  |false=>
   refine nq h1 ?_;refine nF ?_;refine nR ?_;refine nV ?_;refine Zc ?_ (.int _ _) rfl;rw[hc,Uk (by have:=of_decide_eq_false h1;omega)];exact .refl _
end
theorem Zuz(a b:Tm)(ha:a.Good)(hb:b.Good)(hc:ZtO 62 a.args b.args):Pure Tryz.prog 62 [a.enc,b.enc] (.int .i64 (cmpT a b)):=by
 intro n H;have hla:=ha.len;have hlb:=hb.len;have hx:=Zfn a b;refine aF Tryz.func62 fun B=>?_
 refine nR ?_;refine Y5 tok mixed drawO rfl rfl rfl ?_;refine aS ?_;refine cP (a88 a.kind ha.kind) ?_;refine cP (a88 b.kind hb.kind) ?_;refine cP (a51 (rank a.kind) (rank b.kind)) ?_;cases h1:(YA (rank a.kind) (rank b.kind)==0)with
 |false=>
  have h1':YA (rank a.kind) (rank b.kind)≠0:=by simpa using h1
  refine nr ?_;simp only[go_sem,simprocAttr,bne,h1];refine nT ?_;refine nR ?_;refine nV ?_;refine Zc ?_ (.int _ _) rfl;rw[hx,ZaV h1'];exact .refl _
 |true=>
 have h1':YA (rank a.kind) (rank b.kind)=0:=by simpa using h1
 rw[h1',YS]at hx;refine nr ?_;simp only[go_sem,simprocAttr,bne,h1];refine nF ?_;refine nR ?_;refine cP (a51 a.num b.num) ?_;cases h2:(YA a.num b.num==0)with
 |false=>
  have h2':YA a.num b.num≠0:=by simpa using h2
  cases h3:(a.kind==1)with
  |true=>
   have h3':a.kind=1:=by simpa using h3
   refine nr ?_;simp only[go_sem,simprocAttr,bne,h2,h3];refine nT ?_;refine nR ?_;refine nV ?_;refine Zc ?_ (.int _ _) rfl;rw[hx,if_pos h3',ZaV h2'];exact .refl _
  |false=>
   have h3':¬a.kind=1:=by simpa using h3
   refine nr ?_;simp only[go_sem,simprocAttr,bne,h2,h3];refine nF ?_;rw[if_neg h3',YS]at hx;refine Y5 tok mixed drawO rfl rfl rfl ?_;simp only[go_sem,simprocAttr];refine cP (a51 a.args.length b.args.length) ?_;refine cP (a50 a.name b.name) ?_;refine cP (a52 a.args b.args hla hlb _ hc) ?_;refine cP (a51 a.num b.num) ?_;refine⟨dc,?_⟩;have ho:=a49 [YA a.args.length b.args.length,Lib.compareBytes a.name b.name,cmpT.cmps a.args b.args,YA a.num b.num] sm;simp only[Qs,Uy,eInt,orL,Jo]at ho;refine cP (ho) ?_;refine nV ?_;refine Zc ?_ (.int _ _) rfl;rw[hx];exact .refl _
 |true=>
  have h2':YA a.num b.num=0:=by simpa using h2
  refine nr ?_;simp only[go_sem,simprocAttr,bne,h2];refine nF ?_;rw[h2',(by split<;>rfl:(if a.kind=1 then(0:Int)else 0)=0),YS]at hx;refine Y5 tok mixed drawO rfl rfl rfl ?_;simp only[go_sem,simprocAttr];refine cP (a51 a.args.length b.args.length) ?_;refine cP (a50 a.name b.name) ?_;refine cP (a52 a.args b.args hla hlb _ hc) ?_;refine cP (a51 a.num b.num) ?_;refine⟨dc,?_⟩;have ho:=a49 [YA a.args.length b.args.length,Lib.compareBytes a.name b.name,cmpT.cmps a.args b.args,YA a.num b.num] sm;simp only[Qs,Uy,eInt,orL,Jo]at ho;refine cP (ho) ?_;refine nV ?_;refine Zc ?_ (.int _ _) rfl;rw[hx,h2'];exact .refl _
theorem a53(a b:Tm)(ha:a.Good)(hb:b.Good):Pure Tryz.prog 62 [a.enc,b.enc] (.int .i64 (cmpT a b)):=
 Zuz a b ha hb ⟨⟨_,_,Zf Tryz.func62 rfl rfl⟩,fun x hx y hy=>a53 x y (ha.arg hx) (hb.arg hy)⟩
termination_by SizeOf.sizeOf a
decreasing_by exact Tm.Xm hx
def k1(a b:Tm):List Int:=[YA (rank a.kind+1) (rank b.kind+1),if a.kind=1 then YA a.num b.num else 0,YA a.args.length b.args.length,Lib.compareBytes a.name b.name]
theorem nat_ne{m n:Nat}(h:((m:Int)==n)=false):m≠n:=by
 have:(m:Int)≠n:=by simpa using h
 omega
theorem nat_eq{m n:Nat}(h:((m:Int)==n)=true):m=n:=by
 have:(m:Int)=n:=by simpa using h
 omega
def eqT:Tm→Tm→Bool
 | .mk k n s l,.mk k' n' s' l'=>(k==k')&&(n==n')&&(s==s')&&eqs l l'
where eqs:List Tm→List Tm→Bool
 |[],[]=>true
 |a::x,b::y=>eqT a b&&eqs x y
 |_,_=>false
theorem ZoX(a b:Tm):eqT a b=((a.kind==b.kind)&&(a.num==b.num)&&(a.name==b.name)&&eqT.eqs a.args b.args):=by
 cases a;cases b;rw[eqT];rfl
theorem eqT_iff:∀a b:Tm,eqT a b=true↔a=b
 | .mk k n s l,b=>by
  have hl:∀(p q:List Tm),(∀u∈p,u∈l)→(eqT.eqs p q=true↔p=q):=by
   intro p;induction p with
   |nil=>intro q _;cases q<;>simp[eqT.eqs]
   |cons t p ih=>
    intro q hp;cases q with
    |nil=>simp[eqT.eqs]
    |cons u q=>
     have ht:=eqT_iff t u;simp only[eqT.eqs,Qi,Ub];rw[ht,ih q (fun v hv=>hp v (Qx _ hv))]
  rw[ZoX];cases b with
  |mk k' n' s' l'=>
   have:=hl l l' (fun u h=>h);show((k==k')&&(n==n')&&(s==s')&&eqT.eqs l l')=true↔_;simp only[Qi,beq_iff_eq,this,Tm.mk.injEq,and_assoc]
termination_by a=>SizeOf.sizeOf a
decreasing_by
 have:=QU (hp t sm);simp only[Tm.mk.sizeOf_spec];omega
def eqA(a b:Am):Bool:=(a.pred==b.pred)&&eqT.eqs a.args b.args
theorem eqs_iff:∀(p q:List Tm),eqT.eqs p q=true↔p=q
 |[],[]=>by simp[eqT.eqs]
 |[],_::_=>by simp[eqT.eqs]
 |_::_,[]=>by simp[eqT.eqs]
 |a::p,b::q=>by rw[eqT.eqs,Qi,eqT_iff,eqs_iff p q,Ub]
theorem Zfi(a b:Am):eqA a b=true↔a=b:=by
 cases a;cases b;simp only[eqA,Qi,beq_iff_eq,eqs_iff,Am.mk.injEq]
end Go.Proofs.YtmdeagmbfhbbnaaGreatDoorR

namespace Go.Abs
structure Sg where
 p:List UInt8
 n:Int
deriving DecidableEq
namespace Sg
def cs(s:Sg):List AV:=[.str s.p,.int .i64 s.n]
def enc(s:Sg):AV:=.agg [.str s.p,.int .i64 s.n]
theorem Xl(s:Sg):s.enc.cells=[.str s.p,.int .i64 s.n]:=rfl
theorem fold(s:Sg):AV.agg [.str s.p,.int .i64 s.n]=s.enc:=rfl
theorem bcs{n:Nat}(s:Sg):Yi (fun c=>Below n c) s.cs:=⟨.str _,.int _ _,trivial⟩
theorem blw(n:Nat)(s:Sg):Below n s.enc:=Xb s.bcs.mem
theorem Zp(l:List Sg)(i:Nat)(h:i<l.length)(d:AV):(l.map enc).getD i d=(l[i]).enc:=by
 rw[Qp,QZ,Qd h];rfl
theorem ZaA{n:Nat}{p:Nat→Prop}(l:List Sg)(k:Nat):Inside n p (.sl k (l.map enc) .any):=Below.inside (ZC fun x hx=>by obtain⟨u,_,rfl⟩:=Qb.1 hx;exact blw n u)
theorem ZW{n k j:Nat}{p:Nat→Prop}{l:List Sg}(h:p j):Inside n p (.sl k (l.map enc) (.buf n j)):=Abs.ZW (fun x hx=>by obtain⟨u,_,rfl⟩:=Qb.1 hx;exact u.blw n) h
end Sg
def Am.sg(a:Am):Sg:=⟨a.pred,a.args.length⟩
end Go.Abs
namespace Go.Proofs.YtmdeagmbfhbbnaaGreatDoorR
open Go.Abs
set_option maxRecDepth 100000
attribute [go_sem] Sg.enc Sg.cs
theorem a56(a:Am):Pure Tryz.prog 66 [a.enc] a.sg.enc:=by
 intro n H;refine aF Tryz.func66 fun B=>?_
 refine nR ?_;refine nR ?_;refine nV ?_;refine ZX (.inl rfl) _ n 2 0 a.sg.cs sS (by simp only[go_sem,simprocAttr,full,Am.sg]) rfl (Qe _) sS ?_ (Sg.blw _ _) rfl;simp only[go_sem,simprocAttr,Am.sg];exact .refl _
theorem Zvz(p:List UInt8)(n:Int):ZV tt 100 110 [KL.str p,KL.int .i64 n]=true:=rfl
attribute [go_sem] Zvz
def _root_.Go.Abs.Sg.small(s:Sg):Prop:=0≤s.n∧s.n≤1000000
end Go.Proofs.YtmdeagmbfhbbnaaGreatDoorR

namespace Go.Proofs.YtmdeagmbfhbbnaaGreatDoorR
open Go.Abs
set_option maxRecDepth 100000
def JO(l:List Am):Prop:=∀a∈l,a.Good
def Zqt(l:List Am)(a:Am):List Am×Bool×Int:=
 if Yv a=false then(l,false,2)else if l.any (eqA · a)=true then(l,false,0)else if l.length=2000 then(l,false,5)else(l++[a],true,0)
def Zsh(l:List Am)(s:Sg):List Am:=l.filter (fun a=>a.sg==s)
def colEq(a:Am)(c:Int)(v:Tm):Bool:=match a.args[c.toNat]? with
 |some t=>eqT t v
 |none=>false
def Zj8(s:Sg)(c:Int)(v:Tm)(a:Am):Bool:=(a.sg==s)&&decide (0≤c)&&decide (c<s.n)&&colEq a c v
def Zl9(l:List Am)(s:Sg)(c:Int)(v:Tm):List Am:=l.filter (Zj8 s c v)
end Go.Proofs.YtmdeagmbfhbbnaaGreatDoorR

namespace Go.Abs
open Go.Proofs.YtmdeagmbfhbbnaaGreatDoorR
def eUnsafe:Int:=120
def newV(n:Nat):List UInt8:=35::Lib.itoa (n:Int)
def plainT:Tm→Tm
 | .mk k n s l=>.mk k n (if k=3∧s.head? =some 35 then [88]else s) (plains l)
where plains:List Tm→List Tm
 |[]=>[]
 |t::r=>plainT t::plains r
def Zah(t:Tm):Bool:=Xy (plainT t)
def Y7(x:Lt):Bool:=
 if x.kind=1 then sym x.at_.pred&&decide (x.at_.args.length≤8)&&x.at_.args.all Zah
 else if x.kind=2 then !x.neg&&decide (1≤x.op)&&decide (x.op≤6)&&Zah x.L&&Zah x.R else false
def Zbh(S:List (List UInt8)):Nat→Nat→Nat
 |0,n=>n
 |f+1,n=>if newV n∈S then Zbh S f (n+1)else n
def XD(S:List (List UInt8))(n:Nat):Nat:=Zbh S (S.length+1) (n+1)
def flT(S:List (List UInt8)):Tm→Nat→Tm×Nat×List (Nat×Tm)
 | .mk k n s l,c=>if k=5∨k=6 then let m:=XD S c;(.mk 3 0 (newV m) [],m,[(m,.mk k n s l)])
  else let r:=flTs l c;(.mk k n s r.1,r.2.1,r.2.2)
where flTs:List Tm→Nat→List Tm×Nat×List (Nat×Tm)
 |[],c=>([],c,[])
 |t::r,c=>let p:=flT S t c;let q:=flTs r p.2.1;(p.1::q.1,q.2.1,p.2.2++q.2.2)
def Vl(p:Nat×Tm):Lt:=⟨2,false,⟨[],[]⟩,1,.mk 3 0 (newV p.1) [],p.2⟩
def flX(S:List (List UInt8))(x:Lt)(c:Nat):List Lt×Nat:=
 if x.kind=1 then let r:=flT.flTs S x.at_.args c;({x with at_:=⟨x.at_.pred,r.1⟩}::r.2.2.map Vl,r.2.1)else([x],c)
def flL(S:List (List UInt8)):List Lt→Nat→List Lt
 |[],_=>[]
 |x::r,c=>let p:=flX S x c;p.1++flL S r p.2
def Yy(x:Lt):List Tm:=x.L::x.R::x.at_.args
def XQ(l:List Lt)(used:List (List UInt8)):List Lt:=flL (used++l.flatMap fun x=>(Yy x).flatMap Z8) l 0
inductive Stp where
 |test (x:Lt)
 |bind (n:List UInt8) (t:Tm)
 |atom (a:Am)
def Va(S l:List (List UInt8)):Bool:=l.all (· ∈S)
def Y0(S:List (List UInt8))(x:Lt):Option Stp:=
 if x.kind=2 then
  if Va S (Z8 x.L)&&Va S (Z8 x.R)then some (.test x)
  else if x.op=1∧Va S (Z8 x.R)=true∧x.L.kind=3 then some (if x.L.name=[]then .test x else .bind x.L.name x.R)
  else if x.op=1∧Va S (Z8 x.L)=true∧x.R.kind=3 then some (if x.R.name=[]then .test x else .bind x.R.name x.L)else none
 else none
def JU(x:Lt):Option Stp:=if x.kind=1∧x.neg=false then some (.atom x.at_)else none
def ZaD(f:Lt→Option Stp):List Lt→Option (Stp×Lt×List Lt)
 |[]=>none
 |x::r=>match f x with
  |some s=>some (s,x,r)
  |none=>(ZaD f r).map fun p=>(p.1,p.2.1,x::p.2.2)
def Vf(S:List (List UInt8))(l:List Lt):Option (Stp×Lt×List Lt):=(ZaD (Y0 S) l).or (ZaD JU l)
def planF:Nat→List (List UInt8)→List Lt→List Stp×List (List UInt8)×List Lt
 |0,S,l=>([],S,l)
 |f+1,S,l=>match Vf S l with
  |none=>([],S,l)
  |some (s,x,r)=>let p:=planF f (S++ZJ x) r;(s::p.1,p.2)
def XV(S:List (List UInt8))(x:Lt):Bool:=!(x.kind==2)&&Va S (ZJ x)
def VP(S:List (List UInt8))(l:List Lt):Option (List Stp):=
 let p:=planF l.length S l
 if p.2.2.all (XV p.2.1)then some p.1 else none
def YQ(t:Tm)(b:Bnd):List Tm×Int:=
 if Xy (ZN b t)then match expandS (ZN b t)with
  |some l=>(l,0)
  |none=>([],5)
 else([],3)
def V9(e f:Int):Int:=if e=3∨f=0 then e else f
def Jd(x:Lt)(b:Bnd):List Bnd×Int:=
 let l:=YQ x.L b;let r:=YQ x.R b
 if l.2≠0∨r.2≠0 then([],V9 l.2 r.2)else(if l.1.any (fun v=>r.1.any (XL x.op v))then [b]else [],0)
def Ju(b:Bnd):List Tm→Int→Option (Int×Tm)
 |[],_=>none
 |t::r,i=>if Zu (ZN b t)then some (i,ZN b t)else Ju b r (i+1)
def Vj(A:List Am)(a:Am)(b:Bnd):List Am:=match Ju b a.args 0 with
 |some (i,v)=>Zl9 A a.sg i v
 |none=>Zsh A a.sg
def stepS(A:List Am):Stp→Bnd→List Bnd×Int
 | .test x,b=>Jd x b
 | .bind n t,b=>((YQ t b).1.map fun v=>Wp n v b,(YQ t b).2)
 | .atom a,b=>((Vj A a b).filterMap fun x=>matT.matL a.args x.args b,0)
def ZgP{α:Type}(l:List α):List α:=if 20000<l.length then l.take 20001 else l
def Wl(p:List Bnd×Int)(q:List Bnd×Int):List Bnd×Int:=(ZgP (p.1++q.1),if q.2=3∨p.2=0 then q.2 else p.2)
def Xe(f:Bnd→List Bnd×Int)(now:List Bnd):List Bnd×Int:=
 let r:=now.foldl (fun p b=>Wl p (f b)) ([],0)
 (r.1,if r.2=0∧20000<r.1.length then 5 else r.2)
def WZ(A:List Am):List Stp→List Bnd→List Bnd×Int
 |[],now=>(now,0)
 |s::r,now=>let p:=Xe (stepS A s) now;if p.2=0 then WZ A r p.1 else([],p.2)
def validB:Bnd→Bool
 |[]=>true
 |[p]=>Zu p.2
 |p::q::r=>Zu p.2&&decide (Lib.compareBytes p.1 q.1<0)&&validB (q::r)
def YJ(b c:Bnd):Int:=thn (cmpT.cmps (b.map Prod.snd) (c.map Prod.snd)) (YA b.length c.length)
def Xf(A:List Am)(l:List Lt)(b:Bnd):List Bnd×Int:=
 if l.all Y7&&validB b then
  let keep:=l.flatMap ZJ++b.map Prod.fst
  match VP (b.map Prod.fst) (XQ l keep)with
  |none=>([],eUnsafe)
  |some p=>let r:=WZ A p [b]
   if r.2=0 then(XM YJ (r.1.map fun c=>c.filter fun q=>q.1∈keep),0)else([],r.2)
 else([],2)
end Go.Abs

namespace Go.Proofs.YtmdeagmbfhbbnaaGreatDoorR
open Go.Abs
set_option maxRecDepth 100000
theorem Am.cs2(a:Am):a.cs.length=2:=rfl
theorem Z5{p:AV→Prop}:∀{l:List AV},(∀x∈l,p x)→Yi p l
 |[],_=>trivial
 |x::l,h=>⟨h x sm,Z5 fun y hy=>h y (by simp[hy])⟩
theorem Sg.cs2(a:Sg):a.cs.length=2:=rfl
theorem Zkp{x y z:List Int}(h:lexI x y<0)(h':lexI y z<0):lexI x z<0:=by
 have h1:=lexI_trans x y z om om;rcases Int.lt_or_eq_of_le h1 with h2|h2
 ·exact h2
 ·have h3:=lexI_anti x z;have h4:=lexI_trans z x y om om;have h5:=lexI_anti z y;omega
end Go.Proofs.YtmdeagmbfhbbnaaGreatDoorR

namespace Go.Abs
open Go.Proofs.YtmdeagmbfhbbnaaGreatDoorR
structure Zg1 {α:Type} (G:α→Prop) (c:α→α→Int):Prop where
 ex:∃f:α→List Int,∀x y,G x→G y→c x y=lexI (f x) (f y)
 zero:∀x y,G x→G y→c x y=0→x=y
namespace Zg1
variable {α:Type} {G:α→Prop} {c:α→α→Int} (h:Zg1 G c)
include h
theorem self{x:α}(hx:G x):c x x=0:=by
 obtain⟨f,hf⟩:=h.ex;rw[hf x x hx hx,lexI_self]
theorem anti{x y:α}(hx:G x)(hy:G y):c y x= -c x y:=by
 obtain⟨f,hf⟩:=h.ex;rw[hf x y hx hy,hf y x hy hx,lexI_anti]
theorem trans{x y z:α}(hx:G x)(hy:G y)(hz:G z)(h1:c x y<0)(h2:c y z<0):c x z<0:=by
 obtain⟨f,hf⟩:=h.ex;rw[hf _ _ hx hy]at h1;rw[hf _ _ hy hz]at h2;rw[hf _ _ hx hz];exact Zkp h1 h2
theorem Ziw{x:α}(hx:G x):∀{r:List α},(∀y∈r,G y)→ ∀z,z∈ZeA c x r↔z=x∨z∈r
 |[],_,z=>by simp[ZeA]
 |y::r,hr,z=>by
  have ih:=Ziw hx (r:=r) (fun y hy=>hr y (by simp[hy])) z;unfold ZeA;split
  ·rename_i e;have:=h.zero x y hx (hr y sm) e;subst this;simp
  ·split
   ·simp
   ·simp only[Qk,ih];constructor
    ·rintro(a|a|a)
     ·exact .inr (.inl a)
     ·exact .inl a
     ·exact .inr (.inr a)
    ·rintro(a|a|a)
     ·exact .inr (.inl a)
     ·exact .inl a
     ·exact .inr (.inr a)
theorem Zmu{x:α}(hx:G x):∀{r:List α},(∀y∈r,G y)→r.Pairwise (fun a b=>c a b<0)→(ZeA c x r).Pairwise (fun a b=>c a b<0)
 |[],_,_=>by simp[ZeA]
 |y::r,hr,hp=>by
  have hy:=hr y sm;have hr':∀z∈r,G z:=fun z hz=>hr z (by simp[hz])
  rw[UA]at hp;unfold ZeA;split
  ·exact UA.2 hp
  ·rename_i e;split
   ·rename_i e';refine UA.2 ⟨fun z hz=>?_,UA.2 hp⟩;rcases Qk.1 hz with rfl|hz
    ·exact e'
    ·exact h.trans hx hy (hr' z hz) e' (hp.1 z hz)
   ·rename_i e';refine UA.2 ⟨fun z hz=>?_,Zmu hx hr' hp.2⟩;rcases(h.Ziw hx hr' z).1 hz with rfl|hz
    ·have:=h.anti hx hy;omega
    ·exact hp.1 z hz
theorem set_mem:∀{l:List α},(∀y∈l,G y)→ ∀z,z∈XM c l↔z∈l
 |[],_,z=>by simp[XM]
 |x::l,hl,z=>by
  have hl':∀y∈l,G y:=fun y hy=>hl y (by simp[hy])
  have ih:=set_mem hl';show z∈ZeA c x (XM c l)↔_;rw[h.Ziw (hl x sm) (fun y hy=>hl' y ((ih y).1 hy)),ih z,Qk]
theorem set_asc:∀{l:List α},(∀y∈l,G y)→(XM c l).Pairwise (fun a b=>c a b<0)
 |[],_=>List.Pairwise.nil
 |x::l,hl=>by
  have hl':∀y∈l,G y:=fun y hy=>hl y (by simp[hy])
  exact h.Zmu (hl x sm) (fun y hy=>hl' y ((h.set_mem hl' y).1 hy)) (set_asc hl')
theorem unique:∀{p q:List α},(∀y∈p,G y)→p.Pairwise (fun a b=>c a b<0)→q.Pairwise (fun a b=>c a b<0)→(∀x,x∈p↔x∈q)→p=q
 |[],[],_,_,_,_=>rfl
 |[],y::q,_,_,_,e=>absurd ((e y).2 sm) sm
 |x::p,[],_,_,_,e=>absurd ((e x).1 sm) sm
 |x::p,y::q,hG,hp,hq,e=>by
  rw[UA]at hp hq;have hx:=hG x sm;have hy:G y:=hG y ((e y).2 sm);have exy:x=y:=by
   rcases Qk.1 ((e x).1 sm)with h1|h1
   ·exact h1
   ·rcases Qk.1 ((e y).2 sm)with h2|h2
    ·exact h2.symm
    ·have h3:=hq.1 x h1;have h4:=hp.1 y h2;have:=h.anti hx hy;omega
  subst exy;have hG':∀z∈p,G z:=fun z hz=>hG z (by simp[hz])
  congr 1
  refine unique hG' hp.2 hq.2 fun z=>⟨fun hz=>?_,fun hz=>?_⟩
  ·rcases Qk.1 ((e z).1 (by simp[hz]))with rfl|h1
   ·have:=hp.1 _ hz;rw[h.self hx]at this;omega
   ·exact h1
  ·rcases Qk.1 ((e z).2 (by simp[hz]))with rfl|h1
   ·have:=hq.1 _ hz;rw[h.self hx]at this;omega
   ·exact h1
end Zg1
theorem ZfE(s t:List UInt8):Lib.compareBytes s t=lexI (Zfc s) (Zfc t):=by
 have:=lex_serS s t [] [];simp only[Qu]at this;rw[this,show lexI ([]:List Int) []=0 from rfl,Jo]
theorem serN:Zg1 (fun _:List UInt8=>True) Lib.compareBytes:=⟨⟨Zfc,fun x y _ _=>ZfE x y⟩,fun _ _ _ _ h=>cmpBytes_zero h⟩
theorem serI:Zg1 (fun _:Int=>True) YA:=⟨⟨fun x=>[x],fun x y _ _=>by simp[lexI,Jo]⟩,fun _ _ _ _ h=>ZaG h⟩
theorem nms_eq:∀l:List Tm,nmT.nms l=l.flatMap nmT
 |[]=>rfl
 |t::r=>by rw[nmT.nms,nms_eq r];rfl
theorem Jg(b:Bnd):∀l:List Tm,ZN.apps b l=l.map (ZN b)
 |[]=>rfl
 |t::r=>by rw[ZN.apps,Jg b r];rfl
theorem Zb3(t:Tm)(n:List UInt8):n∈Z8 t↔n∈nmT t:=serN.set_mem (fun _ _=>trivial) n
/-! Ordered bindings. -/
def V7(b:Bnd):Prop:=b.Pairwise fun p q=>Lib.compareBytes p.1 q.1<0
def Zq(b:Bnd):List (List UInt8):=b.map Prod.fst
theorem WJ{n:List UInt8}:∀{b:Bnd},Zz n b=none↔n∉Zq b
 |[]=>by simp[Zz,Zq]
 |p::r=>by
  have:=WJ (n:=n) (b:=r);simp only[Zz,Zq,Qs,Qk,not_or]at*;split
  ·rename_i e;simp[e]
  ·rename_i e;rw[this];exact⟨fun h=>⟨fun e'=>e e'.symm,h⟩,fun h=>h.2⟩
section
variable {b:Bnd} {n:List UInt8}
theorem Yh:(∃v,Zz n b=some v)↔n∈Zq b:=by
 have:=WJ (n:=n) (b:=b);cases h:Zz n b with
 |none=>simp[this.1 h]
 |some v=>simp only[h,reduceCtorEq,false_iff,Classical.not_not]at this;simp[this]
theorem ZaF{n:List UInt8}{v:Tm}:∀{b:Bnd},Zz n b=some v→(n,v)∈b
 |[],h=>by cases h
 |p::r,h=>by
  simp only[Zz]at h;split at h
  ·rename_i e;cases h;simp[←e]
  ·exact Qx _ (ZaF h)
theorem Zaq{n:List UInt8}{v:Tm}:∀{b:Bnd},V7 b→(n,v)∈b→Zz n b=some v
 |p::r,hb,h=>by
  rw[V7,UA]at hb;simp only[Zz];rcases Qk.1 h with rfl|h
  ·simp
  ·have h1:=hb.1 _ h;split
   ·rename_i e;rw[←e,cmpBytes_self]at h1;omega
   ·exact Zaq hb.2 h
theorem Vu(n m:List UInt8)(v:Tm):∀b:Bnd,Zz m (Wp n v b)=if n=m then some v else Zz m b
 |[]=>by simp[Wp,Zz]
 |p::r=>by
  simp only[Wp];split
  ·rename_i h;have:=Vu n m v r;simp only[Zz,this];by_cases e:n=m
   ·subst e;rw[if_pos rfl,if_neg (fun e=>by rw[e,cmpBytes_self]at h;omega)];simp
   ·simp[e]
  ·simp only[Zz]
theorem Zb0{n:List UInt8}{v:Tm}:∀{b:Bnd} {q},q∈Wp n v b↔q=(n,v)∨q∈b
 |[],q=>by simp[Wp]
 |p::r,q=>by
  simp only[Wp];split
  ·simp only[Qk,Zb0 (b:=r)];constructor
   ·rintro(a|a|a)
    ·exact .inr (.inl a)
    ·exact .inl a
    ·exact .inr (.inr a)
   ·rintro(a|a|a)
    ·exact .inr (.inl a)
    ·exact .inl a
    ·exact .inr (.inr a)
  ·simp
theorem Zd0{m:List UInt8}{v:Tm}:m∈Zq (Wp n v b)↔m=n∨m∈Zq b:=by
 simp only[Zq,Qb,Zb0];constructor
 ·rintro⟨q,rfl|hq,rfl⟩
  ·exact .inl rfl
  ·exact .inr ⟨q,hq,rfl⟩
 ·rintro(rfl|⟨q,hq,rfl⟩)
  ·exact⟨(m,v),.inl rfl,rfl⟩
  ·exact⟨q,.inr hq,rfl⟩
theorem Zf2{n:List UInt8}{v:Tm}:∀{b:Bnd},V7 b→n∉Zq b→V7 (Wp n v b)
 |[],_,_=>by simp[Wp,V7]
 |p::r,hb,hn=>by
  have hb':=hb;rw[V7,UA]at hb;simp only[Zq,Qs,Qk,not_or]at hn;simp only[Wp];split
  ·rename_i h;refine UA.2 ⟨fun q hq=>?_,Zf2 hb.2 hn.2⟩;rcases Zb0.1 hq with rfl|hq
   ·exact h
   ·exact hb.1 q hq
  ·rename_i h;have h1:Lib.compareBytes n p.1<0:=by
    have:=serN.anti (x:=p.1) (y:=n) trivial trivial;have h2:Lib.compareBytes p.1 n≠0:=fun e=>hn.1 (cmpBytes_zero e).symm
    omega
   refine UA.2 ⟨fun q hq=>?_,hb'⟩;rcases Qk.1 hq with rfl|hq
   ·exact h1
   ·exact serN.trans (y:=p.1) trivial trivial trivial h1 (hb.1 q hq)
theorem Zjo{p:List UInt8×Tm→Bool}(h:V7 b):V7 (b.filter p):=List.Pairwise.filter p h
theorem Zdb(h:V7 b):(Zq b).Pairwise fun x y=>Lib.compareBytes x y<0:=Qa2.2 h
theorem Zio{c:Bnd}(hb:V7 b)(hc:V7 c)(h:∀n,n∈Zq b↔n∈Zq c):Zq b=Zq c:=
 serN.unique (fun _ _=>trivial) (Zdb hb) (Zdb hc) h
theorem bnd_ext:∀{b c:Bnd},V7 b→V7 c→(∀n,Zz n b=Zz n c)→b=c:=fun{b c} hb hc h=>by
 have hd:Zq b=Zq c:=Zio hb hc fun n=>by rw[←Yh,←Yh,h n]
 refine QaZ fun i=>?_
 have h1:(Zq b)[i]? =(Zq c)[i]?:=by rw[hd]
 simp only[Zq,QZ]at h1;cases hi:b[i]? with
 |none=>rw[hi]at h1;cases hj:c[i]? with
  |none=>rfl
  |some q=>rw[hj]at h1;cases h1
 |some p=>rw[hi]at h1;cases hj:c[i]? with
  |none=>rw[hj]at h1;cases h1
  |some q=>
   rw[hj]at h1;simp only[Us,Qq]at h1;have a1:=Zaq hb (n:=p.1) (v:=p.2) (GK hi);have a2:=Zaq hc (n:=q.1) (v:=q.2) (GK hj);rw[h,h1,a2]at a1;exact congrArg some (Qa9 h1 (UO a1).symm)
theorem Zdu{p:List UInt8→Bool}(n:List UInt8):∀b:Bnd,Zz n (b.filter fun q=>p q.1)=if p n=true then Zz n b else none
 |[]=>by simp[Zz]
 |q::r=>by
  have ih:=Zdu (p:=p) n r;simp only[List.filter_cons];split
  ·rename_i h;simp only[Zz,ih];by_cases e:q.1=n
   ·subst e;simp[h]
   ·simp[e]
  ·rename_i h;simp only[Zz,ih];by_cases e:q.1=n
   ·subst e;simp[h]
   ·simp[e]
def YI(b c:Bnd):Prop:=∀n v,Zz n b=some v→Zz n c=some v
theorem YI.refl(b:Bnd):YI b b:=fun _ _ h=>h
theorem YI.trans{c d:Bnd}(h:YI b c)(h':YI c d):YI b d:=fun n v e=>h' n v (h n v e)
theorem YI.ext(hn:n∉Zq b)(v:Tm):YI b (Wp n v b):=fun m w h=>by
 rw[Vu,if_neg]
 ·exact h
 ·rintro rfl;rw[WJ.2 hn]at h;cases h
end
end Go.Abs

namespace Go.Proofs.YtmdeagmbfhbbnaaGreatDoorR
open Go.Abs
inductive Fa2 {α β:Type} (R:α→β→Prop):List α→List β→Prop
 |nil:Fa2 R [] []
 |cons {a b p q}:R a b→Fa2 R p q→Fa2 R (a::p) (b::q)
theorem Fa2.len{α β:Type}{R:α→β→Prop}:∀{p:List α} {q:List β},Fa2 R p q→p.length=q.length
 |_,_,.nil=>rfl
 |_,_,.cons _ h=>congrArg (· +1) h.len
theorem Fa2.mono{α β:Type}{R R':α→β→Prop}:∀{p:List α} {q:List β},Fa2 R p q→(∀a∈p,∀b,R a b→R' a b)→Fa2 R' p q
 |_,_,.nil,_=>.nil
 |_,_,.cons h t,f=>.cons (f _ sm _ h) (t.mono fun a ha=>f a (by simp[ha]))
theorem Fa2.left{α β:Type}{R:α→β→Prop}{a:α}:∀{p:List α} {q:List β},Fa2 R p q→a∈p→ ∃b∈q,R a b
 |_,_,.cons h t,m=>by
  rcases Qk.1 m with rfl|m
  ·exact⟨_,sm,h⟩
  ·obtain⟨b,hb,h⟩:=t.left m;exact⟨b,by simp[hb],h⟩
theorem Fa2.right{α β:Type}{R:α→β→Prop}{b:β}:∀{p:List α} {q:List β},Fa2 R p q→b∈q→ ∃a∈p,R a b
 |_,_,.cons h t,m=>by
  rcases Qk.1 m with rfl|m
  ·exact⟨_,sm,h⟩
  ·obtain⟨a,ha,h⟩:=t.right m;exact⟨a,by simp[ha],h⟩
theorem Zjv{α:Type}:∀{ps:List (List α)} {r:List α},r∈Ye ps↔Fa2 (fun x p=>x∈p) r ps
 |[],r=>by
  simp only[Ye,Ql];constructor
  ·rintro rfl;exact .nil
  ·intro h;cases h;rfl
 |p::ps,r=>by
  simp only[Ye,Qz,Qb,Zjv (ps:=ps)];constructor
  ·rintro⟨x,hx,q,hq,rfl⟩;exact .cons hx hq
  ·intro h;cases h with|cons hx hq=>exact⟨_,hx,_,hq,rfl⟩
theorem expandSs_fa:∀{l:List Tm} {ps:List (List Tm)},expandS.expandSs l=some ps→Fa2 (fun t p=>expandS t=some p) l ps
 |[],ps,h=>by simp only[expandS.expandSs,Qq]at h;subst h;exact .nil
 |t::r,ps,h=>by
  simp only[expandS.expandSs,MO]at h;obtain⟨p,hp,q,hq,h⟩:=h;cases h;exact .cons hp (expandSs_fa hq)
theorem fa_expandSs:∀{l:List Tm} {ps:List (List Tm)},Fa2 (fun t p=>expandS t=some p) l ps→expandS.expandSs l=some ps
 |_,_,.nil=>rfl
 |_,_,.cons h t=>by simp only[expandS.expandSs,h,fa_expandSs t];rfl
theorem deps_le:∀(l:List Tm) (m d:Int),m≤d→(∀u∈l,dep u≤d)→dep.deps l m≤d
 |[],_,_,h,_=>h
 |t::r,m,d,h,hl=>by
  simp only[dep.deps];refine deps_le r _ d ?_ fun u hu=>hl u (by simp[hu])
  split
  ·exact hl t sm
  ·exact h
theorem le_deps:∀(l:List Tm) (m:Int),m≤dep.deps l m∧ ∀u∈l,dep u≤dep.deps l m
 |[],m=>⟨GI _,fun u hu=>by cases hu⟩
 |t::r,m=>by
  simp only[dep.deps];have:=le_deps r (if dep t>m then dep t else m);refine⟨by have:=this.1;split at this<;>rename_i h<;>simp only[h,if_true,if_false]<;>omega,fun u hu=>?_⟩;rcases Qk.1 hu with rfl|hu
  ·have:=this.1;split at this<;>rename_i h<;>simp only[h,if_true,if_false]<;>omega
  ·exact this.2 u hu
section
variable {t u:Tm}
theorem Zh6(h:u∈t.args):dep u+1≤dep t:=by
 rw[Zk1 t];have:=(le_deps t.args 0).2 u h;omega
theorem Zsa{d:Int}(h0:0≤d)(h:∀u∈t.args,dep u≤d):dep t≤d+1:=by
 rw[Zk1 t];have:=deps_le t.args 0 d h0 h;omega
theorem Zmx(t:Tm):1≤dep t:=(dep_sz t).1
def okG(t:Tm):Bool:=shape t&& !(t.kind==3)
theorem Zhf(h:okG t=true):(okv t=true∧(t.kind=1∨t.kind=2)∧t.args=[])∨(okv t=true∧t.kind=4∧t.num=0∧sym t.name=true∧1≤t.args.length∧t.args.length≤8)∨
  (t.kind=5∧1≤t.args.length∧t.args.length≤2)∨(t.kind=6∧t.args.length=2):=by
 unfold okG at h;rw[Qi]at h;obtain⟨h,h3⟩:=h;by_cases k1:t.kind=1
 ·refine .inl ⟨by simp[okv,plain,k1,h],.inl k1,?_⟩;simp[shape,k1,nargs]at h;exact h.2
 by_cases k2:t.kind=2
 ·refine .inl ⟨by simp[okv,plain,k2,h],.inr k2,?_⟩;simp[shape,k2,nargs]at h;exact h.2
 by_cases k4:t.kind=4
 ·have hv:okv t=true:=by simp[okv,plain,k4,h]
  rcases Vp hv with h1|h1|h1
  ·omega
  ·omega
  ·exact .inr (.inl ⟨hv,h1⟩)
 by_cases k3:t.kind=3
 ·simp[k3]at h3
 by_cases k5:t.kind=5
 ·refine .inr (.inr (.inl ⟨k5,?_⟩));simp[shape,k5,nargs,named]at h;omega
 by_cases k6:t.kind=6
 ·refine .inr (.inr (.inr ⟨k6,?_⟩));simp[shape,k6,nargs]at h;omega
 ·simp[shape,k1,k2,k3,k4,k5,k6]at h
variable {n:Int}
theorem ZiJ(h:Xa n=true):(Yg n).all okv=true:=by
 simp only[Xa,Qi,decide_eq_true_eq]at h;simp[Yg,Tm.all,Tm.all.alls,okv,plain,shape,nargs,Tm.kind,Tm.num,Tm.name,Tm.args,h]
theorem ZhW(n:Int):dep (Yg n)=1:=rfl
theorem ZhH{op:List UInt8}{a:List Int}(h:X6 op a=some n):Xa n=true:=by
 unfold X6 at h;split at h
 ·rename_i ha;split at h
  ·rename_i x;split at h
   ·cases h;simp only[Qbs,List.all_nil,Qbr,Xa,Qi,decide_eq_true_eq]at ha⊢;omega
   ·cases h
  ·simp only[VZ,MO]at h;obtain⟨m,_,h⟩:=h;split at h
   ·rename_i hm;cases h;exact hm
   ·cases h
  ·cases h
 ·cases h
theorem min_mem:∀(l:List Int) (x:Int),l.foldl min x∈x::l
 |[],x=>by simp
 |y::l,x=>by
  have:=min_mem l (min x y);simp only[Uu];rcases Qk.1 this with h|h
  ·rw[h];rcases Int.le_total x y with h'|h'
   ·rw[Int.min_eq_left h'];simp
   ·rw[Int.min_eq_right h'];simp
  ·simp[h]
theorem max_mem:∀(l:List Int) (x:Int),l.foldl max x∈x::l
 |[],x=>by simp
 |y::l,x=>by
  have:=max_mem l (max x y);simp only[Uu];rcases Qk.1 this with h|h
  ·rw[h];rcases Int.le_total x y with h'|h'
   ·rw[Int.max_eq_right h'];simp
   ·rw[Int.max_eq_left h'];simp
  ·simp[h]
variable {l:List Int}
theorem Zpp(h:l≠[]):minS l∈l:=by
 cases l with
 |nil=>exact absurd rfl h
 |cons x r=>exact min_mem r x
theorem Zoo(h:l≠[]):maxS l∈l:=by
 cases l with
 |nil=>exact absurd rfl h
 |cons x r=>exact max_mem r x
theorem Zhd{l:List Tm}(h:∀v∈l,v.all okv=true):∀n∈Ym l,Xa n=true:=fun n hn=>by
 simp only[Ym,Qb,MH,beq_iff_eq]at hn;obtain⟨v,⟨hv,hk⟩,rfl⟩:=hn;have:=Y1 (h v hv);rcases Vp this with h1|h1|h1
 ·simp[Xa,h1]
 ·omega
 ·omega
variable {s:List UInt8}
theorem ZeW{k:Int}{a l:List Tm}(he:expandS (.mk k n s a)=some l)(h:a≠[]):∃ps,expandS.expandSs a=some ps∧(if k=6 then WI (Ym (ps.getD 0 [])) (Ym (ps.getD 1 []))else if k=5 then Zbm s ps else Zer s ps)=some l:=by
 cases a with
 |nil=>exact absurd rfl h
 |cons u r=>
  simp only[expandS,MO]at he;exact he
theorem Za7{k:Int}:expandS (.mk k n s [])=some [.mk k n s []]:=by rw[expandS]
theorem expand_val:∀(t:Tm),t.all okG=true→ ∀l,expandS t=some l→ ∀v∈l,v.all okv=true∧dep v≤dep t
 | .mk k n s a,hG,l,he,v,hv=>by
  have ih:∀u∈a,∀p,expandS u=some p→ ∀v∈p,v.all okv=true∧dep v≤dep u:=fun u hu p hp v hv=>expand_val u (Xn hG hu) p hp v hv
  have h0:=Zhf (Y1 hG);simp only[Tm.kind,Tm.args,Tm.num,Tm.name]at h0;by_cases ha:a=[]
  ·subst ha;rw[Za7]at he;cases he;simp only[Ql]at hv;subst hv;refine⟨?_,GI _⟩;rcases h0 with h|h|h|h
   ·simp only[Tm.all,Tm.all.alls,h.1,Qbr]
   ·exact absurd h.2.2.2.2.1 sm
   ·exact absurd h.2.1 sm
   ·exact absurd h.2 sm
  obtain⟨ps,hps,he⟩:=ZeW he ha;have hf:=expandSs_fa hps;have hp:∀p∈ps,∀v∈p,v.all okv=true:=fun p hp v hv=>by
   obtain⟨u,hu,hup⟩:=hf.right hp;exact(ih u hu p hup v hv).1
  have hi:∀i,∀m∈Ym (ps.getD i []),Xa m=true:=fun i m hm=>by
   refine Zhd (l:=ps.getD i []) (fun v hv=>?_) m hm;rw[Qp]at hv;cases e:ps[i]? with
   |none=>rw[e]at hv;cases hv
   |some p=>rw[e]at hv;exact hp p (GK e) v hv
  have hd:=Zmx (.mk k n s a);by_cases k6:k=6
  ·rw[if_pos k6]at he;unfold WI at he;split at he
   ·cases he;cases hv
   ·rename_i hne;rw[not_or]at hne;split at he
    ·cases he
    ·rename_i hc;cases he;obtain⟨i,hi',rfl⟩:=Qb.1 hv;have h1:=hi 0 _ (Zpp hne.1);have h2:=hi 1 _ (Zoo hne.2);simp only[Xa,Qi,decide_eq_true_eq]at h1 h2;rw[Gg]at hi';refine⟨ZiJ ?_,?_⟩
     ·simp only[Xa,Qi,decide_eq_true_eq];omega
     ·rw[ZhW];exact hd
  ·rw[if_neg k6]at he;by_cases k5:k=5
   ·rw[if_pos k5]at he;unfold Zbm Zn4 at he;split at he
    ·cases he
    ·cases he;obtain⟨m,hm,rfl⟩:=Qb.1 hv;rw[serI.set_mem (fun _ _=>trivial)]at hm;obtain⟨r,hr,hm⟩:=QaR.1 hm;exact⟨ZiJ (ZhH hm),by rw[ZhW];exact hd⟩
   ·rw[if_neg k5]at he;unfold Zer at he;split at he
    ·cases he;cases hv
    ·simp only[MO,Qq]at he;obtain⟨_,_,he⟩:=he;subst he;obtain⟨r,hr,rfl⟩:=Qb.1 hv;have hr:=Zjv.1 hr;rcases h0 with h|h|h|h
     ·exact absurd h.2.2 ha
     ·have hlen:r.length=a.length:=by rw[hr.len,hf.len]
      refine⟨?_,?_⟩
      ·rw[Tm.all_eq,Qi,Tm.VI,QA];refine⟨?_,fun w hw=>?_⟩
       ·have h1:=h.2.2.2.1;simp[okv,plain,shape,Tm.kind,Tm.num,Tm.name,Tm.args,named,nargs,h1,hlen];have:=Zsm h1;simp only[beq_eq_false_iff_ne]at this;exact⟨this,om,om⟩
       ·obtain⟨p,hpm,hw⟩:=hr.left hw;exact hp p hpm w hw
      ·have h1:dep (.mk 4 0 s r)≤(dep (.mk k n s a) - 1)+1:=Zsa om fun w hw=>by
        obtain⟨p,hpm,hw⟩:=hr.left (show w∈r from hw);obtain⟨u,hu,hup⟩:=hf.right hpm;have:=(ih u hu p hup w hw).2;have:=Zh6 (t:=.mk k n s a) (u:=u) hu;omega
       omega
     ·exact absurd h.1 k5
     ·exact absurd h.1 k6
termination_by t=>SizeOf.sizeOf t
decreasing_by
 have:=QU hu;simp only[Tm.mk.sizeOf_spec];omega
theorem value_of(h:t.all okv=true)(hd:dep t≤12):Zu t=true:=by
 have e:t.all okv=(t.all plain&&t.all shape):=Zcf plain shape t;rw[e,Qi]at h;simp[Zu,Xy,h,hd]
theorem Zhy(h:Zu t=true):dep t≤12:=by
 simp only[Zu,Xy,Qi,decide_eq_true_eq]at h;exact h.2.1
theorem Zhq(h:Zu t=true)(hu:u∈t.args):Zu u=true:=value_of (Xn (Jq h) hu) (by have:=Zhy h;have:=Zh6 hu;omega)
theorem expand_self:∀(t:Tm),t.all okv=true→expandS t=some [t]
 | .mk k n s a,h=>by
  have ih:∀u∈a,expandS u=some [u]:=fun u hu=>expand_self u (Xn h hu)
  cases a with
  |nil=>exact Za7
  |cons u r=>
   have h0:=Vp (Y1 h);simp only[Tm.kind,Tm.args,Tm.num,Tm.name]at h0;rcases h0 with h0|h0|h0
   ·exact absurd h0.2.2.2.2 sm
   ·exact absurd h0.2.2.2 sm
   ·have hps:expandS.expandSs (u::r)=some ((u::r).map fun x=>[x]):=by
     refine fa_expandSs ?_;have:∀q:List Tm,(∀x∈q,x∈u::r)→Fa2 (fun t p=>expandS t=some p) q (q.map fun x=>[x]):=by
      intro q;induction q with
      |nil=>intro _;exact .nil
      |cons x q ihq=>intro hq;exact .cons (ih x (hq x sm)) (ihq fun y hy=>hq y (by simp[hy]))
     exact this _ fun x hx=>hx
    have hrow:∀q:List Tm,Ye (q.map fun x=>[x])=[q]:=by
     intro q;induction q with
     |nil=>rfl
     |cons x q ihq=>simp[Ye,ihq]
    have hcnt:∀q:List Tm,Znn (q.map fun x=>[x])=some 1:=by
     intro q;unfold Znn;induction q with
     |nil=>rfl
     |cons x q ihq=>simp only[Qs,Me];exact ihq
    have hany:((u::r).map fun x=>[x]).any (·.isEmpty)=false:=by
     rw[Qa1];intro p hp;obtain⟨x,_,rfl⟩:=Qb.1 hp;simp
    have k6:¬k=6:=by omega
    have k5:¬k=5:=by omega
    have e1:k=4:=h0.1;have e2:n=0:=h0.2.1;simp only[expandS,hps,UE,if_neg k6,if_neg k5];unfold Zer;rw[if_neg (by rw[hany];simp),hcnt,hrow,e1,e2];rfl
termination_by t=>SizeOf.sizeOf t
decreasing_by
 have:=QU hu;simp only[Tm.mk.sizeOf_spec];omega
theorem okv_nm:∀(t:Tm),t.all okv=true→t.Nm
 | .mk k n s a,h=>by
  have h0:=Vp (Y1 h);simp only[Tm.kind,Tm.args,Tm.num,Tm.name]at h0;have ih:∀u∈a,u.Nm:=fun u hu=>okv_nm u (Xn h hu)
  rcases h0 with h0|h0|h0
  ·refine .mk _ _ _ _ ?_ om om (by rw[h0.2.2.2.2];simp) ih;rw[h0.2.2.2.1];simp
  ·refine .mk _ _ _ _ ?_ om om (by rw[h0.2.2.2];simp) ih;have:=ZdP h0.2.2.1;omega
  ·refine .mk _ _ _ _ ?_ om om om ih;have:=ZdP h0.2.2.1;omega
termination_by t=>SizeOf.sizeOf t
decreasing_by
 have:=QU hu;simp only[Tm.mk.sizeOf_spec];omega
theorem JG(h:Zu t=true):t.Nm:=okv_nm t (Jq h)
theorem JW(ht:Zu t=true)(hu:Zu u=true):cmpT t u=0↔t=u:=by
 constructor
 ·exact cmpT_zero (JG ht) (JG hu)
 ·rintro rfl;rw[ZjC (JG ht) (JG ht),lexI_self]
end
structure ZP (b:Bnd):Prop where
 asc:V7 b
 val:∀q∈b,Zu q.2=true
section
variable {v:Tm} {b:Bnd}
theorem ZP.look(h:ZP b){n:List UInt8}(e:Zz n b=some v):Zu v=true:=h.val _ (ZaF e)
theorem ZP.ext(h:ZP b){n:List UInt8}(hn:n∉Zq b)(hv:Zu v=true):ZP (Wp n v b):=
 ⟨Zf2 h.asc hn,fun q hq=>by rcases Zb0.1 hq with rfl|hq;all_goals first|exact hv|exact h.val q hq⟩
theorem ZP.filter{b:Bnd}(h:ZP b)(p:List UInt8×Tm→Bool):ZP (b.filter p):=⟨Zjo h.asc,fun q hq=>h.val q (MH.1 hq).1⟩
def Jb(S:List (List UInt8))(b:Bnd):Bnd:=b.filter fun q=>decide (q.1∈S)
theorem Zaz(S:List (List UInt8))(b:Bnd)(n:List UInt8):Zz n (Jb S b)=if n∈S then Zz n b else none:=by
 have:=Zdu (p:=fun m=>decide (m∈S)) n b;simp only[decide_eq_true_eq]at this;exact this
theorem ZdB{S:List (List UInt8)}{n:List UInt8}:n∈Zq (Jb S b)↔n∈S∧n∈Zq b:=by
 rw[←Yh,Zaz,←Yh];split<;>rename_i h<;>simp[h]
theorem Zkr(S:List (List UInt8))(b:Bnd):YI (Jb S b) b:=fun n v h=>by
 rw[Zaz]at h;split at h
 ·exact h
 ·cases h
variable {c:Bnd}
theorem Ve(h:YI b c){n:List UInt8}(hn:n∈Zq b):Zz n b=Zz n c:=by
 obtain⟨v,hv⟩:=Yh.2 hn;rw[hv,h n v hv]
theorem Zfr(h:YI b c){n:List UInt8}(hn:n∈Zq b):n∈Zq c:=by
 obtain⟨v,hv⟩:=Yh.2 hn;exact Yh.1 ⟨v,h n v hv⟩
theorem J8(b:Bnd)(k n:Int)(s:List UInt8)(l:List Tm):ZN b (.mk k n s l)=match (if k=3 then Zz s b else none)with
  |some v=>v
  |none=>.mk k n s (l.map (ZN b)):=by rw[ZN,Jg];rfl
variable {l:List Tm} {s:List UInt8} {n:Int}
theorem WA(h:Zz s b=some v):ZN b (.mk 3 n s l)=v:=by rw[J8,if_pos rfl,h]
variable {k:Int}
theorem Jv(h:¬k=3):ZN b (.mk k n s l)= .mk k n s (l.map (ZN b)):=by rw[J8,if_neg h]
variable {m:List UInt8}
theorem Zln{u:Tm}(hu:u∈l)(hm:m∈nmT u):m∈nmT (.mk k n s l):=by
 rw[nmT,nms_eq];exact QK _ (Qz.2 ⟨u,hu,hm⟩)
theorem Zia:s∈nmT (.mk 3 n s l):=by rw[nmT];simp
theorem Zst(h:m∈nmT (.mk k n s l)):(k=3∧m=s)∨ ∃u∈l,m∈nmT u:=by
 rw[nmT,nms_eq]at h;rcases Qj.1 h with h|h
 ·split at h
  ·rename_i e;exact .inl ⟨e,by simpa using h⟩
  ·cases h
 ·obtain⟨u,hu,h⟩:=Qz.1 h;exact .inr ⟨u,hu,h⟩
theorem Zb9{b c:Bnd}:∀t:Tm,(∀n∈nmT t,Zz n b=Zz n c)→ZN b t=ZN c t
 | .mk k n s l,h=>by
  have hl:l.map (ZN b)=l.map (ZN c):=U3 fun u hu=>Zb9 u fun m hm=>h m (Zln hu hm)
  rw[J8,J8,hl];by_cases hk:k=3
  ·subst hk;rw[if_pos rfl,if_pos rfl,h s Zia]
  ·rw[if_neg hk,if_neg hk]
termination_by t=>SizeOf.sizeOf t
decreasing_by
 have:=QU hu;simp only[Tm.mk.sizeOf_spec];omega
variable {t:Tm}
theorem Zft(h:YI b c)(ht:∀n∈nmT t,n∈Zq b):ZN b t=ZN c t:=Zb9 t fun n hn=>Ve h (ht n hn)
theorem Zgq(l:List Tm)(h:∀n∈nmT.nms l,Zz n b=Zz n c):ZN.apps b l=ZN.apps c l:=by
 rw[Jg,Jg];rw[nms_eq]at h;exact U3 fun u hu=>Zb9 u fun n hn=>h n (Qz.2 ⟨u,hu,hn⟩)
def okV(t:Tm):Bool:=!(t.kind==3)||(t.args.isEmpty&& !t.name.isEmpty)
theorem Zdo(h:Tm.all okV (.mk 3 n s l)=true):l=[]:=by
 have:=Y1 h;simp[okV,Tm.kind,Tm.args]at this;exact this.1
theorem ZkP(h:t.all okV=true)(hk:t.kind=3):t.name≠[]:=by
 have:=Y1 h;simp[okV,hk]at this;exact this.2
theorem ZcY{b:Bnd}(hb:ZP b):∀t:Tm,(∀n∈nmT t,n∈Zq b)→(ZN b t).all (fun u=>!(u.kind==3))=true
 | .mk k n s l,h=>by
  by_cases hk:k=3
  ·subst hk;obtain⟨v,hv⟩:=Yh.2 (h s Zia);rw[WA hv];have h1:=hb.look hv;simp only[Zu,Qi]at h1;have:∀u:Tm,u.all plain=true→u.all (fun u=>!(u.kind==3))=true:=by
    intro u;induction u using Tm.rec (motive_2:=fun l=>Tm.all.alls plain l=true→Tm.all.alls (fun u=>!(u.kind==3)) l=true)with
    |mk k n s l ih=>
     intro h;simp only[Tm.all,Qi]at h⊢;refine⟨?_,ih h.2⟩;have:=h.1;simp only[plain,Tm.kind,Gn,beq_iff_eq]at this;simp only[Tm.kind,G9,beq_eq_false_iff_ne];omega
    |nil=>rfl
    |cons t r h1 h2=>
     rename_i h;simp only[Tm.all.alls,Qi]at h⊢;exact⟨h1 h.1,h2 h.2⟩
   exact this v h1.1
  ·rw[Jv hk,Tm.all_eq,Qi,Tm.VI,QA];refine⟨by simp[Tm.kind,hk],fun u hu=>?_⟩;obtain⟨w,hw,rfl⟩:=Qb.1 (show u∈l.map (ZN b) from hu);exact ZcY hb w fun m hm=>h m (Zln hw hm)
termination_by t=>SizeOf.sizeOf t
decreasing_by
 have:=QU hw;simp only[Tm.mk.sizeOf_spec];omega
theorem ZhD{b:Bnd}:∀t:Tm,t.all okV=true→(ZN b t).all plain=true→ ∀n∈nmT t,n∈Zq b
 | .mk k n s l,hV,hp,m,hm=>by
  rcases Zst hm with⟨hk,rfl⟩|⟨u,hu,hm⟩
  ·subst hk;cases e:Zz m b with
   |some v=>exact Yh.1 ⟨v,e⟩
   |none=>
    rw[J8,if_pos rfl,e]at hp;have:=Y1 hp;simp[plain,Tm.kind]at this
  ·by_cases hk:k=3
   ·subst hk;rw[Zdo hV]at hu;cases hu
   ·rw[Jv hk]at hp;exact ZhD u (Xn hV hu) (Xn hp (Qb.2 ⟨u,hu,rfl⟩)) m hm
termination_by t=>SizeOf.sizeOf t
decreasing_by
 have:=QU hu;simp only[Tm.mk.sizeOf_spec];omega
/-! Expansions under a binding. -/
theorem XR(t:Tm)(h:∀n∈nmT t,Zz n b=Zz n c):YQ t b=YQ t c:=by unfold YQ;rw[Zb9 t h]
theorem Zba(hb:ZP b)(ht:∀n∈nmT t,n∈Zq b)(hv:v∈(YQ t b).1):Zu v=true:=by
 unfold YQ at hv;split at hv
 ·rename_i hval;split at hv
  ·rename_i l hl;have hg:=ZcY hb t ht;simp only[Xy,Qi,decide_eq_true_eq]at hval;have hok:(ZN b t).all okG=true:=by
    have:=Zcf shape (fun u=>!(u.kind==3)) (ZN b t);rw[hval.2,hg]at this;exact this
   have:=expand_val _ hok l hl v hv;exact value_of this.1 om
  ·cases hv
 ·cases hv
theorem Zj1(h:Zu v=true):Xy v=true:=by simp only[Zu,Qi]at h;exact h.2
theorem ZiD(hb:ZP b)(hk:t.kind=3)(hv:Zz t.name b=some v):YQ t b=([v],0):=by
 cases t with
 |mk k n s l=>
  simp only[Tm.kind,Tm.name]at hk hv;subst hk;have h1:=hb.look hv;unfold YQ;rw[WA hv,Zj1 h1,if_pos rfl,expand_self v (Jq h1)]
/-! Matches. -/
theorem mat_sound:∀(t v:Tm) (b c:Bnd),t.all okV=true→Zu v=true→ZP b→matT t v b=some c→
  ZP c∧YI b c∧(∀n,n∈Zq c↔n∈Zq b∨n∈nmT t)∧ZN c t=v
 | .mk k n s l,v,b,c,hV,hv,hb,h=>by
  by_cases hk:k=3
  ·subst hk;have hl:=Zdo hV;subst hl;have hnm:∀m,m∈nmT (.mk 3 n s [])↔m=s:=fun m=>by simp[nmT,nmT.nms]
   rw[matT,if_pos rfl]at h;cases e:Zz s b with
   |none=>
    rw[e]at h;cases h;have hn:=WJ.1 e;refine⟨hb.ext hn hv,YI.ext hn v,fun m=>?_,WA (by rw[Vu,if_pos rfl])⟩;rw[Zd0,hnm,or_comm]
   |some w=>
    rw[e]at h;simp only at h;split at h
    ·rename_i h0;cases h;have:=(JW (hb.look e) hv).1 h0;subst this;refine⟨hb,YI.refl b,fun m=>?_,WA e⟩;rw[hnm];constructor
     ·exact .inl
     ·rintro(h|rfl)
      ·exact h
      ·exact Yh.1 ⟨_,e⟩
    ·cases h
  ·have hlist:∀(r q:List Tm) (b c:Bnd),(∀u∈r,u∈l)→(∀u∈q,Zu u=true)→r.length=q.length→ZP b→matT.matL r q b=some c→
     ZP c∧YI b c∧(∀n,n∈Zq c↔n∈Zq b∨n∈nmT.nms r)∧r.map (ZN c)=q:=by
    intro r;induction r with
    |nil=>
     intro q b c _ _ hlen hb h;rw[matT.matL]at h;cases h;cases q with
     |nil=>exact⟨hb,YI.refl _,fun m=>by simp[nmT.nms],rfl⟩
     |cons _ _=>simp at hlen
    |cons u r ihr=>
     intro q b c hr hq hlen hb h;cases q with
     |nil=>simp at hlen
     |cons w q=>
      rw[matT.matL]at h;have hu:u∈l:=hr u sm;cases e:matT u w b with
      |none=>rw[e]at h;cases h
      |some d=>
       rw[e]at h;obtain⟨g1,x1,d1,a1⟩:=mat_sound u w b d (Xn hV hu) (hq w sm) hb e;obtain⟨g2,x2,d2,a2⟩:=ihr q d c (fun y hy=>hr y (by simp[hy])) (fun y hy=>hq y (by simp[hy])) (by simpa using hlen) g1 h;refine⟨g2,x1.trans x2,fun m=>?_,?_⟩
       ·rw[d2,d1,nmT.nms,Qj,or_assoc]
       ·rw[Qs,a2,←Zft x2 (fun m hm=>(d1 m).2 (.inr hm)),a1]
   rw[matT,if_neg hk]at h;split at h
   ·rename_i hc;have hargs:∀u∈v.args,Zu u=true:=fun u hu=>Zhq hv hu
    obtain⟨g,x,d,a⟩:=hlist l v.args b c (fun u h=>h) hargs hc.2.2.2 hb h;refine⟨g,x,fun m=>?_,?_⟩
    ·rw[d,nmT,if_neg hk,QY]
    ·rw[Jv hk,a,hc.1,hc.2.1,hc.2.2.1];cases v;rfl
   ·cases h
termination_by t=>SizeOf.sizeOf t
decreasing_by
 have:=QU hu;simp only[Tm.mk.sizeOf_spec];omega
theorem Zdd{σ:Bnd}(hσ:ZP σ):∀(t:Tm) (b:Bnd),t.all okV=true→YI b σ→(∀n∈nmT t,n∈Zq σ)→Zu (ZN σ t)=true→
  ∃c,matT t (ZN σ t) b=some c∧YI c σ
 | .mk k n s l,b,hV,hx,hn,hv=>by
  by_cases hk:k=3
  ·subst hk;obtain⟨u,hu⟩:=Yh.2 (hn s Zia);rw[WA hu,matT,if_pos rfl];cases e:Zz s b with
   |none=>
    refine⟨_,rfl,fun m w hw=>?_⟩;rw[Vu]at hw;split at hw
    ·rename_i e';cases hw;rw[←e',hu]
    ·exact hx m w hw
   |some w=>
    have:=hx s w e;rw[hu]at this;cases this;exact⟨b,by simp[(JW (hσ.look hu) (hσ.look hu)).2 rfl],hx⟩
  ·have hlist:∀(r:List Tm) (b:Bnd),(∀u∈r,u∈l)→YI b σ→ ∃c,matT.matL r (r.map (ZN σ)) b=some c∧YI c σ:=by
    intro r;induction r with
    |nil=>intro b _ hx;exact⟨b,rfl,hx⟩
    |cons u r ihr=>
     intro b hr hx;have hu:u∈l:=hr u sm;rw[Jv hk]at hv;have hvu:Zu (ZN σ u)=true:=Zhq hv (Qb.2 ⟨u,hu,rfl⟩);obtain⟨c,hc,hx1⟩:=Zdd hσ u b (Xn hV hu) hx (fun m hm=>hn m (Zln hu hm)) hvu;obtain⟨d,hd,hx2⟩:=ihr c (fun y hy=>hr y (by simp[hy])) hx1;exact⟨d,by rw[Qs,matT.matL,hc];exact hd,hx2⟩
   obtain⟨c,hc,hx1⟩:=hlist l b (fun u h=>h) hx;refine⟨c,?_,hx1⟩;rw[Jv hk,matT,if_neg hk];simp only[Tm.kind,Tm.num,Tm.name,Tm.args,Qv,and_self,if_true];exact hc
termination_by t=>SizeOf.sizeOf t
decreasing_by
 have:=QU hu;simp only[Tm.mk.sizeOf_spec];omega
theorem ZfI{q:List Tm}(hV:∀u∈l,u.all okV=true)(hq:∀u∈q,Zu u=true)(hlen:l.length=q.length)(hb:ZP b)(h:matT.matL l q b=some c):
  ZP c∧YI b c∧(∀n,n∈Zq c↔n∈Zq b∨n∈nmT.nms l)∧ZN.apps c l=q:=by
 induction l generalizing q b with
 |nil=>
  rw[matT.matL]at h;cases h;cases q with
  |nil=>exact⟨hb,YI.refl _,fun m=>by simp[nmT.nms],rfl⟩
  |cons _ _=>simp at hlen
 |cons u r ihr=>
  cases q with
  |nil=>simp at hlen
  |cons w q=>
   rw[matT.matL]at h;cases e:matT u w b with
   |none=>rw[e]at h;cases h
   |some d=>
    rw[e]at h;obtain⟨g1,x1,d1,a1⟩:=mat_sound u w b d (hV u sm) (hq w sm) hb e;obtain⟨g2,x2,d2,a2⟩:=ihr (fun y hy=>hV y (by simp[hy])) (fun y hy=>hq y (by simp[hy])) (by simpa using hlen) g1 h;refine⟨g2,x1.trans x2,fun m=>?_,?_⟩
    ·rw[d2,d1,nmT.nms,Qj,or_assoc]
    ·rw[ZN.apps,a2,←Zft x2 (fun m hm=>(d1 m).2 (.inr hm)),a1]
theorem Zg3{σ:Bnd}(hσ:ZP σ)(hV:∀u∈l,u.all okV=true)(hx:YI b σ)(hn:∀n∈nmT.nms l,n∈Zq σ)(hv:∀u∈l,Zu (ZN σ u)=true):
  ∃c,matT.matL l (ZN.apps σ l) b=some c∧YI c σ:=by
 induction l generalizing b with
 |nil=>exact⟨b,rfl,hx⟩
 |cons u r ihr=>
  rw[nms_eq]at hn;obtain⟨c,hc,hx1⟩:=Zdd hσ u b (hV u sm) hx (fun m hm=>hn m (Qz.2 ⟨u,sm,hm⟩)) (hv u sm);obtain⟨d,hd,hx2⟩:=ihr (fun y hy=>hV y (by simp[hy])) hx1 (fun m hm=>hn m (by rw[nms_eq]at hm;obtain⟨y,hy,hm⟩:=Qz.1 hm;exact Qz.2 ⟨y,by simp[hy],hm⟩)) (fun y hy=>hv y (by simp[hy]));exact⟨d,by rw[ZN.apps,matT.matL,hc];exact hd,hx2⟩
end
def Zby(A:List Am)(σ:Bnd):Stp→Prop
 | .test x=>∃v∈(YQ x.L σ).1,∃w∈(YQ x.R σ).1,XL x.op v w=true
 | .bind n t=>∃v∈(YQ t σ).1,Zz n σ=some v
 | .atom a=>∃x∈A,x.sg=a.sg∧ZN.apps σ a.args=x.args
def varS:Stp→List (List UInt8)
 | .test x=>nmT x.L++nmT x.R
 | .bind n t=>n::nmT t
 | .atom a=>nmT.nms a.args
def Ready(S:List (List UInt8)):Stp→Prop
 | .test x=>∀n∈nmT x.L++nmT x.R,n∈S
 | .bind n t=>n∉S∧ ∀m∈nmT t,m∈S
 | .atom a=>∀u∈a.args,u.all okV=true
theorem Zgc{A:List Am}{b c:Bnd}:∀s:Stp,(∀n∈varS s,Zz n b=Zz n c)→(Zby A b s↔Zby A c s)
 | .test x,h=>by
  simp only[varS,Qj]at h;simp only[Zby,XR x.L fun n hn=>h n (.inl hn),XR x.R fun n hn=>h n (.inr hn)]
 | .bind n t,h=>by
  simp only[varS,Qk]at h;simp only[Zby,XR t fun n hn=>h n (.inr hn),h n (.inl rfl)]
 | .atom a,h=>by
  simp only[Zby,Zgq a.args h]
section
variable {b:Bnd}
theorem Zgv{c:Bnd}(hb:ZP b)(hc:ZP c)(hx:YI b c)(hd:∀n,n∈Zq c→n∈Zq b):b=c:=by
 refine bnd_ext hb.asc hc.asc fun n=>?_
 cases e:Zz n b with
 |some v=>exact(hx n v e).symm
 |none=>
  have:=WJ.1 e;exact(WJ.2 fun h=>this (hd n h)).symm
theorem ZeO{b:Bnd}:∀{l:List Tm} {i j:Int} {v:Tm},Ju b l i=some (j,v)→ ∃k:Nat,j=i+k∧ ∃h:k<l.length,v=ZN b l[k]∧Zu v=true
 |t::r,i,j,v,h=>by
  simp only[Ju]at h;split at h
  ·rename_i hv;cases h;exact⟨0,om,sm,rfl,hv⟩
  ·obtain⟨k,hj,hk,hv⟩:=ZeO h;exact⟨k+1,om,by simp only[Qo];omega,by simpa using hv⟩
variable {x a:Am} {A:List Am}
theorem Zoq(h:x∈Vj A a b):x∈A∧x.sg=a.sg:=by
 unfold Vj at h;split at h
 ·have:=MH.1 h;simp only[Zj8,Qi,beq_iff_eq]at this;exact⟨this.1,this.2.1.1.1⟩
 ·have:=MH.1 h;simp only[beq_iff_eq]at this;exact this
theorem Zoy{σ:Bnd}(hV:∀u∈a.args,u.all okV=true)(hx:YI b σ)(hA:x∈A)(hs:x.sg=a.sg)(he:ZN.apps σ a.args=x.args):x∈Vj A a b:=by
 unfold Vj;cases e:Ju b a.args 0 with
 |none=>exact MH.2 ⟨hA,by simp[hs]⟩
 |some p=>
  obtain⟨j,v⟩:=p;obtain⟨k,hj,hk,hv,hval⟩:=ZeO e;refine MH.2 ⟨hA,?_⟩;have h1:(ZN b a.args[k]).all plain=true:=by
   rw[hv]at hval;simp only[Zu,Qi]at hval;exact hval.1
  have h2:ZN b a.args[k]=ZN σ a.args[k]:=Zft hx (ZhD _ (hV _ (Qa hk)) h1);have h3:x.args[k]? =some v:=by
   rw[←he,Jg,QZ,Qd hk,hv,h2];rfl
  have hn:a.sg.n=(a.args.length:Int):=rfl;have e1:j.toNat=k:=by omega
  simp only[Zj8,Qi,beq_iff_eq,decide_eq_true_eq,colEq,e1,h3];exact⟨⟨⟨hs,om⟩,om⟩,(eqT_iff v v).2 rfl⟩
theorem ZpO{e f:Int}(h:e≠0∨f≠0):V9 e f≠0:=by unfold V9;split<;>omega
theorem ZoA(h:x.sg=a.sg):x.args.length=a.args.length:=by
 have:x.sg.n=a.sg.n:=by rw[h]
 simp only[Am.sg]at this;omega
theorem Zgj(hA:∀a∈A,Yv a=true)(hb:ZP b):∀{s:Stp},Ready (Zq b) s→(stepS A s b).2=0→
  ∀c,c∈(stepS A s b).1↔ZP c∧YI b c∧(∀n,n∈Zq c↔n∈Zq b∨n∈varS s)∧Zby A c s
 | .test x,hr,he,c=>by
  have h0:¬((YQ x.L b).2≠0∨(YQ x.R b).2≠0):=fun h=>by
   simp only[stepS,Jd,if_pos h]at he;exact ZpO h he
  simp only[stepS,Jd,if_neg h0];have hc:∀c,ZP c→YI b c→(∀n,n∈Zq c↔n∈Zq b∨n∈varS (.test x))→b=c:=fun c hc hx hd=>
   Zgv hb hc hx fun n hn=>by
    rcases(hd n).1 hn with h|h
    ·exact h
    ·exact hr n h
  have hany:((YQ x.L b).1.any fun v=>(YQ x.R b).1.any (XL x.op v))=true↔Zby A b (.test x):=by
   simp only[GR,Zby]
  constructor
  ·intro h;split at h
   ·rename_i ha;simp only[Ql]at h;subst h;exact⟨hb,YI.refl _,fun n=>⟨.inl,fun h=>by rcases h with h|h;all_goals first|exact h|exact hr n h⟩,hany.1 ha⟩
   ·cases h
  ·rintro⟨g,hx,hd,hs⟩;have:=hc c g hx hd;subst this;rw[if_pos (hany.2 hs)];simp
 | .bind n t,hr,he,c=>by
  obtain⟨hn,ht⟩:=hr;simp only[stepS,Qb,Zby];constructor
  ·rintro⟨v,hv,rfl⟩;have hx:=YI.ext hn v;refine⟨hb.ext hn (Zba hb ht hv),hx,fun m=>?_,v,?_,by rw[Vu,if_pos rfl]⟩
   ·rw[Zd0];simp only[varS,Qk];constructor
    ·rintro(h|h)
     ·exact .inr (.inl h)
     ·exact .inl h
    ·rintro(h|h|h)
     ·exact .inr h
     ·exact .inl h
     ·exact .inr (ht m h)
   ·rw[←XR t fun m hm=>Ve hx (ht m hm)];exact hv
  ·rintro⟨g,hx,hd,v,hv,hl⟩;rw[←XR t fun m hm=>Ve hx (ht m hm)]at hv;refine⟨v,hv,?_⟩;refine Zgv (hb.ext hn (Zba hb ht hv)) g (fun m w hm=>?_) fun m hm=>?_
   ·rw[Vu]at hm;split at hm
    ·rename_i e;cases hm;rw[←e,hl]
    ·exact hx m w hm
   ·rw[Zd0];rcases(hd m).1 hm with h|h
    ·exact .inr h
    ·rcases Qk.1 h with h|h
     ·exact .inl h
     ·exact .inr (ht m h)
 | .atom a,hr,he,c=>by
  simp only[stepS,QaR,Zby];have hval:∀{x:Am},x∈A→ ∀u∈x.args,Zu u=true:=fun hx u hu=>by
   have:=hA _ hx;simp only[Yv,Qi,QA]at this;exact this.2 u hu
  constructor
  ·rintro⟨x,hx,hm⟩;have h1:=Zoq hx;obtain⟨g,hx',hd,ha⟩:=ZfI hr (hval h1.1) (ZoA h1.2).symm hb hm;exact⟨g,hx',hd,x,h1.1,h1.2,ha⟩
  ·rintro⟨g,hx,hd,x,hxA,hs,ha⟩;refine⟨x,Zoy hr hx hxA hs ha,?_⟩;obtain⟨d,hm,hxd⟩:=Zg3 g hr hx (fun n hn=>(hd n).2 (.inr hn)) (fun u hu=>by
    refine hval hxA _ ?_;rw[←ha,Jg];exact Qb.2 ⟨u,hu,rfl⟩)
   rw[ha]at hm;obtain⟨g2,_,hd2,_⟩:=ZfI hr (hval hxA) (ZoA hs).symm hb hm;have:d=c:=Zgv g2 g hxd fun n hn=>(hd2 n).2 ((hd n).1 hn)
   subst this;exact hm
/-! All bindings of a step. -/
theorem ZqH{α:Type}(l:List α):(ZgP l).length≤20000→ZgP l=l:=by
 unfold ZgP;split
 ·intro h;rw[QI]at h;omega
 ·intro _;rfl
theorem Zkw(f:Bnd→List Bnd×Int):∀(now:List Bnd) (p:List Bnd×Int),let r:=now.foldl (fun p b=>Wl p (f b)) p
  (r.2=0→p.2=0∧ ∀b∈now,(f b).2=0)∧(r.1.length≤20000→p.1.length≤20000∧r.1=p.1++now.flatMap fun b=>(f b).1)
 |[],p=>⟨fun h=>⟨h,fun b hb=>by cases hb⟩,fun h=>⟨h,sm⟩⟩
 |b::now,p=>by
  obtain⟨h1,h3⟩:=Zkw f now (Wl p (f b));simp only[Uu];refine⟨fun h=>?_,fun h=>?_⟩
  ·obtain⟨a,c⟩:=h1 h;simp only[Wl]at a;split at a
   ·rename_i e;refine⟨om,fun d hd=>?_⟩;rcases Qk.1 hd with rfl|hd
    ·exact a
    ·exact c d hd
   ·rename_i e;omega
  ·obtain⟨a,c⟩:=h3 h;have e:(Wl p (f b)).1=p.1++(f b).1:=ZqH _ a;rw[e,Qh]at a;exact⟨om,by rw[c,e];simp⟩
theorem Zm3{f:Bnd→List Bnd×Int}{now:List Bnd}(h:(Xe f now).2=0):(∀b∈now,(f b).2=0)∧(Xe f now).1=now.flatMap fun b=>(f b).1:=by
 obtain⟨h1,h3⟩:=Zkw f now ([],0);simp only[Xe]at h⊢;split at h
 ·omega
 ·rename_i hc;rw[not_and]at hc;exact⟨(h1 h).2,by simpa using(h3 (by have:=hc h;omega)).2⟩
def Rdy:List (List UInt8)→List Stp→Prop
 |_,[]=>True
 |S,s::r=>Ready S s∧Rdy (S++varS s) r
theorem Zab{S T:List (List UInt8)}(h:∀n,n∈S↔n∈T):∀{s:Stp},Ready S s→Ready T s
 | .test _,hr=>fun n hn=>(h n).1 (hr n hn)
 | .bind _ _,hr=>⟨fun hn=>hr.1 ((h _).2 hn),fun m hm=>(h m).1 (hr.2 m hm)⟩
 | .atom _,hr=>hr
theorem Zm4{A:List Am}(hA:∀a∈A,Yv a=true):∀(p:List Stp) (S:List (List UInt8)) (now out:List Bnd),(∀b∈now,ZP b∧ ∀n,n∈Zq b↔n∈S)→Rdy S p→WZ A p now=(out,0)→
  ∀c,c∈out↔ ∃b∈now,ZP c∧YI b c∧(∀n,n∈Zq c↔n∈S∨n∈p.flatMap varS)∧ ∀s∈p,Zby A c s
 |[],S,now,out,hnow,_,hr,c=>by
  simp only[WZ,Qa3,and_true]at hr;subst hr;constructor
  ·intro hc;exact⟨c,hc,(hnow c hc).1,YI.refl c,fun n=>by simp[(hnow c hc).2 n],fun s hs=>by cases hs⟩
  ·rintro⟨b,hb,g,hx,hd,_⟩;have:b=c:=Zgv (hnow b hb).1 g hx fun n hn=>by
    have:=(hd n).1 hn;simp only[List.flatMap_nil,Qy,or_false]at this;exact((hnow b hb).2 n).2 this
   exact this▸hb
 |s::p,S,now,out,hnow,hrdy,hr,c=>by
  simp only[WZ]at hr;split at hr
  ·rename_i h0;obtain⟨hz,heq⟩:=Zm3 h0;have hrb:∀b∈now,Ready (Zq b) s:=fun b hb=>Zab (fun n=>((hnow b hb).2 n).symm) hrdy.1
   have hmem:∀c,c∈(Xe (stepS A s) now).1↔ ∃b∈now,ZP c∧YI b c∧(∀n,n∈Zq c↔n∈Zq b∨n∈varS s)∧Zby A c s:=fun c=>by
    rw[heq,Qz];constructor
    ·rintro⟨b,hb,h⟩;exact⟨b,hb,(Zgj hA (hnow b hb).1 (hrb b hb) (hz b hb) c).1 h⟩
    ·rintro⟨b,hb,h⟩;exact⟨b,hb,(Zgj hA (hnow b hb).1 (hrb b hb) (hz b hb) c).2 h⟩
   have hnow':∀b∈(Xe (stepS A s) now).1,ZP b∧ ∀n,n∈Zq b↔n∈S++varS s:=fun b hb=>by
    obtain⟨b0,hb0,g,_,hd,_⟩:=(hmem b).1 hb;exact⟨g,fun n=>by rw[hd,(hnow b0 hb0).2,Qj]⟩
   rw[Zm4 hA p _ _ out hnow' hrdy.2 hr c];constructor
   ·rintro⟨b',hb',g,hx,hd,hs⟩;obtain⟨b,hb,g',hx',hd',hs'⟩:=(hmem b').1 hb';refine⟨b,hb,g,hx'.trans hx,fun n=>?_,fun t ht=>?_⟩
    ·rw[hd,Qj,QS,Qj,or_assoc]
    ·rcases Qk.1 ht with rfl|ht
     ·exact(Zgc t fun n hn=>Ve hx ((hd' n).2 (.inr hn))).1 hs'
     ·exact hs t ht
   ·rintro⟨b,hb,g,hx,hd,hs⟩;have hres:∀n,n∈Zq (Jb (S++varS s) c)↔n∈S++varS s:=fun n=>by
     rw[ZdB];refine⟨fun h=>h.1,fun h=>⟨h,(hd n).2 ?_⟩⟩;rcases Qj.1 h with h|h
     ·exact .inl h
     ·exact .inr (by rw[QS];exact QC _ h)
    have hx2:=Zkr (S++varS s) c;refine⟨Jb (S++varS s) c,(hmem _).2 ⟨b,hb,g.filter _,fun n v hn=>?_,fun n=>?_,?_⟩,g,hx2,fun n=>?_,fun t ht=>hs t (by simp[ht])⟩
    ·have h1:n∈S:=((hnow b hb).2 n).1 (Yh.1 ⟨v,hn⟩);rw[Zaz,if_pos (QC _ h1)];exact hx n v hn
    ·rw[hres,(hnow b hb).2,Qj]
    ·exact(Zgc s fun n hn=>Ve hx2 ((hres n).2 (QK _ hn))).2 (hs s sm)
    ·rw[hd,Qj,QS,Qj,or_assoc]
  ·rename_i h0;simp only[Qa3]at hr;exact absurd hr.2 h0
end
end Go.Proofs.YtmdeagmbfhbbnaaGreatDoorR
