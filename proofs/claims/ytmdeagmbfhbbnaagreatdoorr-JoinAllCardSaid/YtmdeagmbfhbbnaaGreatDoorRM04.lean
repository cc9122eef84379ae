/- A call's arguments, az a row reads them, az abstract values. No program. -/
import Derived.Test.YtmdeagmbfhbbnaaGreatDoorRM03
import Derived.Carry
import Derived.ChangeArms
import Derived.Deep.DeepHandedRow
import Derived.Lib.LaidTab
import Derived.Lib.Bytealg
import Derived.Test.YtmdeagmbfhbbnaaGreatDoorRM02
import Derived.Test.YtmdeagmbfhbbnaaGreatDoorRProg
import Derived.KernelRfl
import Derived.IntWalk
import Derived.Shelf.Strings.OnBuilder
import Derived.Shelf.Small.Strs
import Derived.Shelf.LaysM
import Derived.Shelf.Strconv.Itoa3
import Derived.Shelf.Strings.Search3
import Derived.Ground.Names2Prog
import Derived.Shelf.Slices.SearchI
import Derived.Test.YtmdeagmbfhbbnaaGreatDoorRRows
import Derived.Lib.ItoaLen
set_option linter.all false
set_option maxRecDepth 100000
open Go.Proofs.Tryz
namespace Go.Abs
open Go.RowKit Go.WideShapes Go.ChangeShapes
def XY(r:Zu)(cs:List AV):AV:=if r.isAgg then .agg cs else cs.getD 0 .dead
def Zg3(T:TT):Nat→TypeId→Option TD
 |0,_=>none
 |f+1,t=>match T t with
  |some r=>match r.td with
   | .struct (x::_)=>Zg3 T f x.2
   | .struct []=>none
   | .array _ _=>none
   |d=>some d
  |none=>none
def goodLead:Option TD→Bool
 |some (.int .i64)=>false
 |some (.int .u64)=>false
 |some _=>true
 |none=>false
def Zby(T:TT):Nat→List (Nat×TypeId)→Option Nat
 |o,[]=>some o
 |o,x::r=>if x.1=o then(match T x.2 with|some rf=>Zby T (o+rf.size) r|none=>none)else none
def Zmt(T:TT)(S:List TypeId):Bool:=S.all fun t=>match T t with
 |some r=>match r.td with
  | .int _=>true
  | .bool=>true
  | .str=>true
  | .slice e=>S.contains e&&goodLead (Zg3 T 10 e)&&(match T e with|some re=>decide (0<re.size)|none=>false)
  | .struct fs=>fs.all (fun f=>S.contains f.2)&&(Zby T 0 fs==some r.size)
  |_=>false
 |none=>false
inductive XE (T:TT):TypeId→List AV→Prop
 |int {t:TypeId} {r:Zu} {k:IntKind} {n:Int} (h:T t=some r) (hd:r.td= .int k) (hw:(Lit.int k n).wf=true):XE T t [.int k n]
 |bool {t:TypeId} {r:Zu} {b:Bool} (h:T t=some r) (hd:r.td= .bool):XE T t [.bool b]
 |str {t:TypeId} {r:Zu} {s:List UInt8} (h:T t=some r) (hd:r.td= .str) (hl:s.length≤reachBytes):XE T t [.str s]
 |slice {t e:TypeId} {r re:Zu} (xs:List (List AV)) (h:T t=some r) (hd:r.td= .slice e) (he:T e=some re) (hx:∀x∈xs,XE T e x) (hl:xs.length*re.bytes≤reachBytes):XE T t [.sl re.size (xs.map (XY re)) .any]
 |struct {t:TypeId} {r:Zu} {fs:List (Nat×TypeId)} (h:T t=some r) (hd:r.td= .struct fs) (ps:List (List AV)) (hl:ps.length=fs.length) (hf:∀i (h:i<ps.length) (h':i<fs.length),XE T fs[i].2 ps[i]):XE T t ps.flatten
section
variable {az:List AV} {t:TypeId} {T:TT}
def XE.lead(h:XE T t az):∀f,goodLead (Zg3 T f t)=true→ ∃a r,az=a::r∧(∀n,a≠ .int .i64 n)∧(∀n,a≠ .int .u64 n)∧a≠ .dead:=by
 induction h with
 | @int t r k n h hd hw=>
  intro f hg;cases f with
  |zero=>simp[Zg3,goodLead]at hg
  |succ f=>
   simp only[Zg3,h,hd]at hg;refine⟨_,_,rfl,fun m e=>?_,fun m e=>?_,fun e=>by cases e⟩<;>(cases e;simp[goodLead]at hg)
 |bool h hd=>exact fun f hg=>⟨_,_,rfl,fun _ e=>(by cases e),fun _ e=>(by cases e),fun e=>(by cases e)⟩
 |str h hd hl=>exact fun f hg=>⟨_,_,rfl,fun _ e=>(by cases e),fun _ e=>(by cases e),fun e=>(by cases e)⟩
 |slice xs h hd he hx hl=>exact fun f hg=>⟨_,_,rfl,fun _ e=>(by cases e),fun _ e=>(by cases e),fun e=>(by cases e)⟩
 | @struct t r fs h hd ps hl hf ih=>
  intro f hg;cases f with
  |zero=>simp[Zg3,goodLead]at hg
  |succ f=>
   simp only[Zg3,h,hd]at hg;cases fs with
   |nil=>simp[goodLead]at hg
   |cons x fs=>
    simp only at hg;obtain⟨a,q,e1,e2,e3⟩:=ih 0 (by rw[hl];simp) sm f hg;cases ps with
    |nil=>simp at hl
    |cons p ps=>
     simp only[Uh]at e1;exact⟨a,q++ps.flatten,by rw[List.flatten_cons,e1];rfl,e2,e3⟩
variable {cs:List AV}
def ZjT{r:Zu}(hone:r.isAgg=false→ ∃a,cs=[a]∧a.cells=[a]):(XY r cs).cells=cs:=by
 cases hr:r.isAgg with
 |true=>simp only[XY,hr,if_true];rfl
 |false=>
  obtain⟨a,rfl,h⟩:=hone hr;simp only[XY,hr];exact h
def XE.one{r:Zu}(h:XE T t az)(hr:T t=some r)(ha:r.isAgg=false):∃a,az=[a]∧a.cells=[a]:=by
 cases h with
 |int h hd hw=>exact⟨_,rfl,rfl⟩
 |bool h hd=>exact⟨_,rfl,rfl⟩
 |str h hd hl=>exact⟨_,rfl,rfl⟩
 |slice xs h hd he hx hl=>exact⟨_,rfl,rfl⟩
 |struct h hd ps hl hf=>
  rw[hr]at h;cases h;simp[Zu.isAgg,hd]at ha
def Zh0{w:World}{a:Addr}{n:Nat}{cs:List Value}(h:w.cells? 0 a n=some cs):cs.length=n∧ ∀i (hi:i<cs.length),w.cell? (a.add i)=some cs[i]:=by
 unfold World.cells? at h;rw[if_pos (Uw _)]at h;have hl:cs.length=n:=by have:=mapM_some_length h;simpa using this
 refine⟨hl,fun i hi=>?_⟩;have hri:(List.range n)[i]? =some i:=by rw[List.getElem?_range om]
 have:=mapM_some_get h i i hri;rw[this,Qb hi]
section
variable {P:Program} {T:TT} {H:Type} {enc:TypeId×Value→H} {W:World} {E:Env} {X:Nat→Prop}
def ZgC{T:TT}:∀{fs:List (Nat×TypeId)} {o m:Nat},Zby T o fs=some m→o≤m
 |[],o,m,h=>by simp[Zby]at h;omega
 |x::fs,o,m,h=>by
  simp only[Zby]at h;split at h
  ·split at h
   ·have:=ZgC h;omega
   ·cases h
  ·cases h
def Zsf(hT:TOK P T)(S:List TypeId)(hS:Zmt T S=true)(hF:∀b o v,¬X b→W.cell? ⟨b,o,none⟩=some v→E.F b o=some v)
  (hX:∀b o v,X b→W.cell? ⟨b,o,none⟩=some v→(∃n,v= .int .i64 n)∨ ∃n,v= .int .u64 n):
  ∀(fuel:Nat) (t:TypeId) (cs:List Value) (x:DataW H×List MemPlace),t∈S→DataW.trod enc P W 0 (fun _=>true) true fuel t cs=some x→(∀n∈x.1.weights P t,n≤reachBytes)→
   ∃az,XE T t az∧VRs E az cs:=by
 intro fuel;induction fuel with
 |zero=>intro t cs x _ h;simp[DataW.trod]at h
 |succ fuel ih=>
  intro t cs x ht h hw;have hSt:=(Qy.1 hS) t ht;cases hr:T t with
  |none=>rw[hr]at hSt;cases hSt
  |some r=>
  rw[hr]at hSt;obtain⟨d,i,z,hf⟩:=Zd (hT t r hr);cases hd:r.td with
  |int k=>
   have hd':d= .int k:=by have:=hf.fits;rw[hd]at this;cases d<;>simp[TD.fits]at this;subst this;rfl
   subst hd';obtain⟨n,rfl,rfl,hwf⟩:=DataW.trod_int hf.und h;exact⟨_,.int hr hd hwf,VRs.cons (.int _ _) (VRs.nil E)⟩
  |bool=>
   have hd':d= .bool:=by have:=hf.fits;rw[hd]at this;cases d<;>simp[TD.fits]at this;rfl
   subst hd';obtain⟨b,rfl,rfl⟩:=DataW.trod_bool hf.und h;exact⟨_,.bool hr hd,VRs.cons (.bool _) (VRs.nil E)⟩
  |str=>
   have hd':d= .string:=by have:=hf.fits;rw[hd]at this;cases d<;>simp[TD.fits]at this;rfl
   subst hd';obtain⟨s,rfl,rfl,hs⟩:=DataW.trod_string hf.und h;refine⟨[.str s.data.toList],.str hr hd (hw _ (by simp[DataW.weights])),VRs.cons ?_ (VRs.nil E)⟩;have:s=⟨s.data.toList.toArray⟩:=sm
   conv=>rhs;rw[this]
   exact .str _
  |slice e=>
   simp only[hd,Qd]at hSt;obtain⟨⟨he,hlead⟩,hsz⟩:=hSt;have heS:e∈S:=by simpa using he
   cases hre:T e with
   |none=>rw[hre]at hsz;cases hsz
   |some re=>
   rw[hre]at hsz;have hpos:0<re.size:=by simpa using hsz
   obtain⟨d',i',z',hf'⟩:=Zd (hT e re hre);have hd':d= .slice e:=ZJ (hd▸hf.fits);subst hd';have hce:P.cellsOf e=re.size:=by simp[Program.cellsOf,hf'.info,hf'.size]
   have hbe:P.bytesOf e=re.bytes:=by simp[Program.bytesOf,hf'.info,hf'.bytes]
   rcases DataW.trod_slice hf.und h with⟨rfl,rfl⟩|⟨a,len,cap,elems,rest,m,hm,rfl,rfl,_,hlc,hcm,hel,hat,hrest,_⟩
   ·exact⟨_,.slice [] hr hd hre sm sm,VRs.cons (.slnil _ _ none trivial (fun _=>rfl)) (VRs.nil E)⟩
   ·have hm':m=fuel:=om;subst hm';have hwt:∀n∈DataW.weightsAll P e (elems.map (·.1)),n≤reachBytes:=fun n hn=>hw n (by simp only[DataW.weights,hf.und];simp[hn])
    have hwl:len*re.bytes≤reachBytes:=by
     have:=hw ((elems.length+rest.length)*P.bytesOf e) (by simp[DataW.weights,hf.und]);rw[hbe,hel]at this;exact Ue (QF _ (Gx _ _)) this
    have hwe:∀(l:List (DataW H)),(∀n∈DataW.weightsAll P e l,n≤reachBytes)→ ∀d∈l,∀n∈d.weights P e,n≤reachBytes:=by
     intro l;induction l with
     |nil=>intro _ d hd;cases hd
     |cons y l ih2=>
      intro hl d hd n hn;simp only[DataW.weightsAll,Qk]at hl;rcases Ql.1 hd with rfl|hd
      ·exact hl n (.inl hn)
      ·exact ih2 (fun n hn=>hl n (.inr hn)) d hd n hn
    have elt:∀i (hi:i<len),∃az vs,XE T e az∧VRs E az vs∧vs.length=re.size∧ ∀j (hj:j<vs.length),W.cell? ((a.add (i*re.size)).add j)=some vs[j]:=fun i hi=>by
     have h1:=hat i hi;rw[Qb om,hce]at h1;obtain⟨vs,hv1,hv2⟩:=U1.1 h1;obtain⟨az,ha1,ha2⟩:=ih e vs _ heS hv2 (hwe _ hwt _ (Qi.2 ⟨_,Qa om,rfl⟩));obtain⟨c1,c2⟩:=Zh0 hv1;exact⟨az,vs,ha1,ha2,c1,c2⟩
    rcases Gf cap with hc0|hc0
    ·subst hc0;have:len=0:=om;subst this;exact⟨_,.slice [] hr hd hre sm sm,VRs.cons (.slnil _ _ (some a) trivial (fun h=>absurd rfl h)) (VRs.nil E)⟩
    ·have hspot:a.spot=none:=by
      rcases Gf len with hl0|hl0
      ·have hrl:=(hrest rfl).1;have h1:=(hrest rfl).2 0 om;have h0r:0<rest.length:=om;rw[hce,hl0]at h1;rw[Qb h0r]at h1;obtain⟨vs,hv1,_⟩:=U1.1 h1;obtain⟨c1,c2⟩:=Zh0 hv1;have:=c2 0 om;simp only[QK,GV,Addr.add,if_true]at this;exact World.cell?_spot this
      ·obtain⟨az,vs,_,_,c1,c2⟩:=elt 0 hl0;have:=c2 0 om;simp only[GV,Addr.add,if_true]at this;exact World.cell?_spot this
     obtain⟨b,off,sp⟩:=a;simp only at hspot;subst hspot;obtain⟨fa,hfa⟩:∃fa:Nat→List AV×List Value,∀i,i<len→XE T e (fa i).1∧VRs E (fa i).1 (fa i).2∧(fa i).2.length=re.size∧ ∀j (hj:j<(fa i).2.length),W.cell? ⟨b,off+(i*re.size+j),none⟩=some (fa i).2[j]:=by
      refine⟨fun i=>if hi:i<len then((elt i hi).choose,(elt i hi).choose_spec.choose)else([],[]),fun i hi=>?_⟩;obtain⟨q1,q2,q3,q4⟩:=(elt i hi).choose_spec.choose_spec;simp only[dif_pos hi];refine⟨q1,q2,q3,fun j hj=>?_⟩;have:=q4 j hj;have e1:((⟨b,off,none⟩:Addr).add (i*re.size)).add j=⟨b,off+(i*re.size+j),none⟩:=by rw[add_plain,add_plain,Gn]
      exact(congrArg W.cell? e1).symm.trans this
     have hnX:0<len→ ¬X b:=fun hl0 hXb=>by
      obtain⟨q1,q2,q3,q4⟩:=hfa 0 hl0;obtain⟨a0,r0,e1,e2,e3⟩:=q1.lead 10 hlead;have hj:0<(fa 0).2.length:=om;have hv:=q2.2 0 (by rw[e1];simp) hj;have hx:=hX b _ _ hXb (q4 0 hj);simp only[e1,Uh]at hv;rcases hx with⟨n,hx⟩|⟨n,hx⟩<;>rw[hx]at hv
      ·cases hv with
       |int=>exact e2 _ rfl
       |dead=>exact e3.2 rfl
      ·cases hv with
       |int=>exact e3.1 _ rfl
       |dead=>exact e3.2 rfl
     refine⟨[.sl re.size (((List.range len).map fun i=>(fa i).1).map (XY re)) .any],.slice _ hr hd hre (fun x hx=>?_) (by simpa using hwl),VRs.cons ?_ (VRs.nil E)⟩
     ·simp only[Qi,U9]at hx;obtain⟨i,hi,rfl⟩:=hx;exact(hfa i hi).1
     ·have hlx:(((List.range len).map fun i=>(fa i).1).map (XY re)).length=len:=sm;have hwc:∀i,i<len→(XY re (fa i).1).cells=(fa i).1:=fun i hi=>ZjT (fun ha=>(hfa i hi).1.one hre ha)
      have hgx:∀i (hi:i<(((List.range len).map fun i=>(fa i).1).map (XY re)).length),(((List.range len).map fun i=>(fa i).1).map (XY re))[i].cells=(fa i).1:=fun i hi=>by
       have hi':i<len:=by rw[hlx]at hi;exact hi
       simp only[QN,MZ];exact hwc i hi'
      have hv:=VR.sl (E:=E) re.size (((List.range len).map fun i=>(fa i).1).map (XY re)) .any b off cap (fun i j=>(fa i).2.getD j undef) (fun i hi=>by
        have hi':i<len:=by rw[hlx]at hi;exact hi
        rw[hgx i hi,←(hfa i hi').2.1.1];exact(hfa i hi').2.2.1)
       (fun i j hi hj=>by
        have hi':i<len:=by rw[hlx]at hi;exact hi
        obtain⟨_,_,q3,q4⟩:=hfa i hi';have hj':j<(fa i).2.length:=om;rw[Qn,Qb hj',Um];exact hF _ _ _ (hnX om) (q4 j hj'))
       (fun i hi j hj=>by
        have hi':i<len:=by rw[hlx]at hi;exact hi
        obtain⟨_,q2,q3,_⟩:=hfa i hi';have hj2:j<(fa i).1.length:=by rw[←hgx i hi];exact hj
        have hj':j<(fa i).2.length:=by rw[q2.1];exact hj2
        rw[Qn,Qb hj',Um];have:=q2.2 j hj2 hj';simp only[hgx i hi];exact this)
       (by rw[hlx];exact hlc) (by rw[hlx];exact Ue hlc hcm) trivial
      rw[hlx]at hv;exact hv
  |struct fs=>
   simp only[hd,Qd,beq_iff_eq,Qy]at hSt;obtain⟨hfsS,hcg⟩:=hSt;obtain⟨gs,rfl,hgs⟩:∃gs:Array Field,d= .struct gs∧gs.toList.map (fun g=>(g.offset,g.type))=fs:=by
    have:=hf.fits;rw[hd]at this;cases d<;>simp only[TD.fits,QW]at this;simp only[Qd,beq_iff_eq]at this;exact⟨_,rfl,this.1⟩
   obtain⟨xs,m,hm,rfl,hcl,hxl,hat⟩:=DataW.trod_struct hf.und h;have hm':m=fuel:=om;subst hm';have hct:P.cellsOf t=r.size:=by simp[Program.cellsOf,hf.info,hf.size]
   have hwe:∀(ts:List TypeId) (l:List (DataW H)),(∀n∈DataW.weightsEach P ts l,n≤reachBytes)→ ∀i (h:i<ts.length) (h':i<l.length),∀n∈l[i].weights P ts[i],n≤reachBytes:=by
    intro ts;induction ts with
    |nil=>intro l _ i h;exact absurd h (Qo _)
    |cons t ts ih2=>
     intro l hl i h h' n hn;cases l with
     |nil=>exact absurd h' (Qo _)
     |cons y l=>
      simp only[DataW.weightsEach,Qk]at hl;cases i with
      |zero=>exact hl n (.inl hn)
      |succ i=>exact ih2 l (fun n hn=>hl n (.inr hn)) i (by simpa using h) (by simpa using h') n hn
   have hwts:∀n∈DataW.weightsEach P (gs.toList.map (·.type)) (xs.map (·.1)),n≤reachBytes:=fun n hn=>hw n (by simp only[DataW.weights,hf.und];exact hn)
   have key:∀(fs':List (Nat×TypeId)) (o m':Nat),Zby T o fs'=some m'→(∀x∈fs',∀rf,T x.2=some rf→ ∃az,XE T x.2 az∧VRs E az ((cs.drop x.1).take rf.size))→
     ∃ps:List (List AV),ps.length=fs'.length∧(∀i (h:i<ps.length) (h':i<fs'.length),XE T fs'[i].2 ps[i])∧VRs E ps.flatten ((cs.drop o).take (m' - o)):=by
    intro fs';induction fs' with
    |nil=>
     intro o m' hc _;simp only[Zby,Qp]at hc;subst hc;exact⟨[],rfl,fun i h=>absurd h (Qo _),by simpa using VRs.nil E⟩
    |cons x fs' ih2=>
     intro o m' hc hx;simp only[Zby]at hc;split at hc
     ·rename_i hxo;cases hrf:T x.2 with
      |none=>rw[hrf]at hc;cases hc
      |some rf=>
       rw[hrf]at hc;simp only at hc;obtain⟨az,a1,a2⟩:=hx x sm rf hrf;obtain⟨ps,p1,p2,p3⟩:=ih2 (o+rf.size) m' hc (fun y hy=>hx y (by simp[hy]));have hle:=ZgC hc;refine⟨az::ps,by simp[p1],fun i h h'=>?_,?_⟩
       ·cases i with
        |zero=>exact a1
        |succ i=>exact p2 i (by simpa using h) (by simpa using h')
       ·rw[List.flatten_cons];have e:(cs.drop o).take (m' - o)=(cs.drop x.1).take rf.size++(cs.drop (o+rf.size)).take (m' - (o+rf.size)):=by
         rw[hxo,show m' - o=rf.size+(m' - (o+rf.size)) by omega,List.take_add,UZ]
        rw[e];exact a2.append p3
     ·cases hc
   obtain⟨ps,p1,p2,p3⟩:=key fs 0 r.size hcg (fun x hx rf hrf=>by
    rw[←hgs,Qi]at hx;obtain⟨g,hg,rfl⟩:=hx;obtain⟨i,hi,rfl⟩:=QJ hg;obtain⟨d',i',z',hf'⟩:=Zd (hT _ rf hrf);have hce:P.cellsOf (gs.toList[i]).type=rf.size:=by simp only[Program.cellsOf,hf'.info,Us,Um,hf'.size]
    have hi2:i<gs.size:=by simpa using hi
    have h1:=hat i gs.toList[i] (by simp[hi2]);rw[hce,Qb om]at h1;have hSi:gs.toList[i].type∈S:=by
     have:=hfsS (gs.toList[i].offset,gs.toList[i].type) (by rw[←hgs];exact Qi.2 ⟨_,hg,rfl⟩);simpa using this
    refine ih _ _ _ hSi h1 ?_;have:=hwe _ _ hwts i (by simpa using hi) (by simp;omega);simpa using this)
   rw[Qab,MW,Q9 (by rw[hcl,hct];exact Qg _)]at p3;exact⟨_,.struct hr hd ps p1 p2,p3⟩
  |_=>simp[hd]at hSt
end
section
variable {T:TT} {t:TypeId} {cs:List AV} {r:Zu}
def XE.ZdM{k:IntKind}(h:XE T t cs)(hr:T t=some r)(hd:r.td= .int k):∃n,cs=[.int k n]∧(Lit.int k n).wf=true:=by
 cases h with
 |int h hd' hw=>rw[hr]at h;cases h;rw[hd]at hd';cases hd';exact⟨_,rfl,hw⟩
 |bool h hd'=>rw[hr]at h;cases h;rw[hd]at hd';cases hd'
 |str h hd'=>rw[hr]at h;cases h;rw[hd]at hd';cases hd'
 |slice _ h hd'=>rw[hr]at h;cases h;rw[hd]at hd';cases hd'
 |struct h hd'=>rw[hr]at h;cases h;rw[hd]at hd';cases hd'
def XE.ZjC(h:XE T t cs)(hr:T t=some r)(hd:r.td= .bool):∃b,cs=[.bool b]:=by
 cases h with
 |int h hd' hw=>rw[hr]at h;cases h;rw[hd]at hd';cases hd'
 |bool h hd'=>exact⟨_,rfl⟩
 |str h hd'=>rw[hr]at h;cases h;rw[hd]at hd';cases hd'
 |slice _ h hd'=>rw[hr]at h;cases h;rw[hd]at hd';cases hd'
 |struct h hd'=>rw[hr]at h;cases h;rw[hd]at hd';cases hd'
def XE.Zjd(h:XE T t cs)(hr:T t=some r)(hd:r.td= .str):∃s,cs=[.str s]∧s.length≤reachBytes:=by
 cases h with
 |int h hd' hw=>rw[hr]at h;cases h;rw[hd]at hd';cases hd'
 |bool h hd'=>rw[hr]at h;cases h;rw[hd]at hd';cases hd'
 |str h hd' hl=>exact⟨_,rfl,hl⟩
 |slice _ h hd'=>rw[hr]at h;cases h;rw[hd]at hd';cases hd'
 |struct h hd'=>rw[hr]at h;cases h;rw[hd]at hd';cases hd'
def XE.Zor{e:TypeId}{re:Zu}(h:XE T t cs)(hr:T t=some r)(hd:r.td= .slice e)(he:T e=some re):∃xs:List (List AV),cs=[.sl re.size (xs.map (XY re)) .any]∧(∀x∈xs,XE T e x)∧xs.length*re.bytes≤reachBytes:=by
 cases h with
 |int h hd' hw=>rw[hr]at h;cases h;rw[hd]at hd';cases hd'
 |bool h hd'=>rw[hr]at h;cases h;rw[hd]at hd';cases hd'
 |str h hd' hl=>rw[hr]at h;cases h;rw[hd]at hd';cases hd'
 |slice xs h hd' he' hx hl=>rw[hr]at h;cases h;rw[hd]at hd';cases hd';rw[he]at he';cases he';exact⟨xs,rfl,hx,hl⟩
 |struct h hd'=>rw[hr]at h;cases h;rw[hd]at hd';cases hd'
def XE.Zhe{fs:List (Nat×TypeId)}(h:XE T t cs)(hr:T t=some r)(hd:r.td= .struct fs):∃ps:List (List AV),cs=ps.flatten∧ps.length=fs.length∧ ∀i (h:i<ps.length) (h':i<fs.length),XE T fs[i].2 ps[i]:=by
 cases h with
 |int h hd' hw=>rw[hr]at h;cases h;rw[hd]at hd';cases hd'
 |bool h hd'=>rw[hr]at h;cases h;rw[hd]at hd';cases hd'
 |str h hd' hl=>rw[hr]at h;cases h;rw[hd]at hd';cases hd'
 |slice xs h hd' he' hx hl=>rw[hr]at h;cases h;rw[hd]at hd';cases hd'
 |struct h hd' ps hl hf=>rw[hr]at h;cases h;rw[hd]at hd';cases hd';exact⟨ps,rfl,hl,hf⟩
end
def XE.row(h:XE T t cs):∃r,T t=some r∧((∃k,r.td= .int k)∨r.td= .bool∨r.td= .str∨(∃e,r.td= .slice e)∨ ∃fs,r.td= .struct fs):=by
 cases h with
 |int h hd hw=>exact⟨_,h,.inl ⟨_,hd⟩⟩
 |bool h hd=>exact⟨_,h,.inr (.inl hd)⟩
 |str h hd hl=>exact⟨_,h,.inr (.inr (.inl hd))⟩
 |slice xs h hd he hx hl=>exact⟨_,h,.inr (.inr (.inr (.inl ⟨_,hd⟩)))⟩
 |struct h hd ps hl hf=>exact⟨_,h,.inr (.inr (.inr (.inr ⟨_,hd⟩)))⟩
def Zk9(T:TT):List TypeId→List (List AV)→Prop
 |[],[]=>True
 |t::ts,c::cs=>XE T t c∧Zk9 T ts cs
 |_,_=>False
def Zic(T:TT)(t:TypeId)(cs:List AV):AV:=match T t with
 |some r=>XY r cs
 |none=>.dead
def wraps(T:TT):List TypeId→List (List AV)→List AV
 |t::ts,c::cs=>Zic T t c::wraps T ts cs
 |_,_=>[]
def Jp{v:Value}{E:Env}{a:AV}(h:VRs E [a] v.cells.toList)(hv:∀cs,v≠ .agg cs):VR E a v:=by
 have:v.cells= #[v]:=by cases v<;>first|rfl|(exact absurd rfl (hv _))
 rw[this]at h;exact h.2 0 sm sm
def ZsV{P:Program}{W:World}{E:Env}{base:Nat}{v:Value}(hT:TOK P T)(hf:XE T t cs)(hv:VRs E cs v.cells.toList)(hok:Value.okWide P W .any base t v):VR E (Zic T t cs) v:=by
 obtain⟨r,hr,hkind⟩:=hf.row;obtain⟨d,i,z,hfa⟩:=Zd (hT t r hr);have hwr:Zic T t cs=XY r cs:=by unfold Zic;rw[hr]
 rw[hwr];rcases hkind with⟨k,hd⟩|hd|hd|⟨e,hd⟩|⟨fs,hd⟩
 ·have hd':d= .int k:=by have:=hfa.fits;rw[hd]at this;cases d<;>simp[TD.fits]at this;subst this;rfl
  subst hd';obtain⟨n,rfl,_⟩:=hf.ZdM hr hd;obtain⟨m,rfl⟩:=okWide_int hfa.und hok;have:XY r [.int k n]= .int k n:=by simp[XY,Zu.isAgg,hd]
  rw[this];exact Jp hv (fun _ h=>by cases h)
 ·have hd':d= .bool:=by have:=hfa.fits;rw[hd]at this;cases d<;>simp[TD.fits]at this;rfl
  subst hd';obtain⟨n,rfl⟩:=hf.ZjC hr hd;obtain⟨m,rfl⟩:=okWide_bool hfa.und hok;have:XY r [.bool n]= .bool n:=by simp[XY,Zu.isAgg,hd]
  rw[this];exact Jp hv (fun _ h=>by cases h)
 ·have hd':d= .string:=by have:=hfa.fits;rw[hd]at this;cases d<;>simp[TD.fits]at this;rfl
  subst hd';obtain⟨n,rfl,_⟩:=hf.Zjd hr hd;obtain⟨m,rfl⟩:=okWide_string hfa.und hok;have:XY r [.str n]= .str n:=by simp[XY,Zu.isAgg,hd]
  rw[this];exact Jp hv (fun _ h=>by cases h)
 ·have hd':d= .slice e:=ZJ (hd▸hfa.fits);subst hd';obtain⟨c,rfl,_⟩:=hf.one hr (by simp[Zu.isAgg,hd]);obtain⟨a,len,cap,rfl⟩:=okWide_slice hfa.und hok;have:XY r [c]=c:=by simp[XY,Zu.isAgg,hd]
  rw[this];exact Jp hv (fun _ h=>by cases h)
 ·obtain⟨gs,rfl⟩:∃gs:Array Field,d= .struct gs:=by
   have:=hfa.fits;rw[hd]at this;cases d<;>simp only[TD.fits,QW]at this;exact⟨_,rfl⟩
  obtain⟨ws,rfl,_⟩:=okWide_struct hfa.und hok;have:XY r cs= .agg cs:=by simp[XY,Zu.isAgg,hd]
  rw[this];have h:=VR.agg (E:=E) cs ws.toList hv.1 hv.2;simpa using h
def Zm1{P:Program}{T:TT}{H:Type}{enc:TypeId×Value→H}{W:World}{E:Env}{X:Nat→Prop}{base:Nat}(hT:TOK P T)(S:List TypeId)(hS:Zmt T S=true)(hF:∀b o v,¬X b→W.cell? ⟨b,o,none⟩=some v→E.F b o=some v)
  (hX:∀b o v,X b→W.cell? ⟨b,o,none⟩=some v→(∃n,v= .int .i64 n)∨ ∃n,v= .int .u64 n):∀(ts:List TypeId) (vs:List Value) (ds:List (DataW H)) (ps:List MemPlace),
   DataW.TrodAll enc P W 0 (fun _=>true) true ts vs ds ps→(∀t∈ts,t∈S)→(∀(j:Nat) t v,ts[j]? =some t→vs[j]? =some v→Value.okWide P W .any base t v)→(∀n∈DataW.weightsEach P ts ds,n≤reachBytes)→
   ∃cs,Zk9 T ts cs∧VRs E (wraps T ts cs) vs
 |[],vs,ds,ps,h,_,_,_=>by
  obtain⟨rfl,rfl,rfl⟩:=trodAll_nil h;exact⟨[],trivial,VRs.nil E⟩
 |t::ts,vs,ds,ps,h,hts,hok,hw=>by
  obtain⟨v,vs',d,ds',p,q,rfl,rfl,rfl,h1,h2⟩:=trodAll_cons h;obtain⟨fuel,hf⟩:=h1;simp only[DataW.weightsEach,Qk]at hw;obtain⟨c,c1,c2⟩:=Zsf hT S hS hF hX fuel t v.cells.toList (d,p) (hts t sm) hf (fun n hn=>hw n (.inl hn));obtain⟨cs,d1,d2⟩:=Zm1 hT S hS hF hX ts vs' ds' q h2 (fun u hu=>hts u (by simp[hu])) (fun j u w hu hv=>hok (j+1) u w (by simpa using hu) (by simpa using hv)) (fun n hn=>hw n (.inr hn));exact⟨c::cs,⟨c1,d1⟩,VRs.cons (ZsV hT c1 c2 (hok 0 t v rfl rfl)) d2⟩
end
end Go.Abs

namespace Go.Abs
inductive Tm where
 |mk (kind num:Int) (name:List UInt8) (args:List Tm)
section
variable {u t:Tm} {n:Nat} {p:Nat→Prop}
namespace Tm
def kind:Tm→Int|mk k _ _ _=>k
def num:Tm→Int|mk _ n _ _=>n
def name:Tm→List UInt8|mk _ _ s _=>s
def args:Tm→List Tm|mk _ _ _ l=>l
def enc:Tm→AV
 |mk k n s l=>.agg [.int .u8 k,.int .i64 n,.str s,.sl 4 (encs l) .any]
where encs:List Tm→List AV
 |[]=>[]
 |t::r=>enc t::encs r
abbrev encs(l:List Tm):List AV:=l.map enc
theorem encs_eq:∀l:List Tm,enc.encs l=l.map enc
 |[]=>rfl
 |t::r=>by rw[enc.encs,encs_eq r];rfl
def VJ(t:Tm):t.enc= .agg [.int .u8 t.kind,.int .i64 t.num,.str t.name,.sl 4 (t.args.map enc) .any]:=by
 cases t;rw[enc,encs_eq];rfl
def cs(t:Tm):List AV:=[.int .u8 t.kind,.int .i64 t.num,.str t.name,.sl 4 (t.args.map enc) .any]
def J4(t:Tm):t.enc= .agg t.cs:=t.VJ
def ZeK(t:Tm):t.enc.cells=t.cs:=by rw[J4];rfl
def Y2(h:u∈t.args):SizeOf.sizeOf u<SizeOf.sizeOf t:=by
 cases t with
 |mk k n s l=>have:=QL (show u∈l from h);simp;omega
def blw(n:Nat):∀t:Tm,Below n t.enc
 |mk k m s l=>by
  have hl:∀u∈l,Below n u.enc:=fun u hu=>by
   have:=QL hu;exact blw n u
  rw[VJ];refine Xf ?_;simp only[Ql,QA,or_false,forall_eq_or_imp,forall_eq];refine⟨.int _ _,.int _ _,.str _,ZB fun x hx=>?_⟩;obtain⟨u,hu,rfl⟩:=Qi.1 hx;exact hl u hu
termination_by t=>SizeOf.sizeOf t
def _root_.Go.Abs.Zq{cs:List AV}(h:Yg (fun c=>Below n c) cs):Below n (.iptr cs):=.iptr cs fun j hj=>h.mem _ (Qa hj)
def bcs(t:Tm):Yg (fun c=>Below n c) t.cs:=⟨.int _ _,.int _ _,.str _,ZB (fun x hx=>by obtain⟨u,_,rfl⟩:=Qi.1 hx;exact blw n u),trivial⟩
def Zf6(l:List Tm)(k:Nat):Inside n p (.sl k (l.map enc) .any):=Below.inside (ZB fun x hx=>by obtain⟨u,_,rfl⟩:=Qi.1 hx;exact blw n u)
def Xg(t:Tm):t.enc.cells=[.int .u8 t.kind,.int .i64 t.num,.str t.name,.sl 4 (t.args.map enc) .any]:=ZeK t
def fold(t:Tm):AV.agg [.int .u8 t.kind,.int .i64 t.num,.str t.name,.sl 4 (t.args.map enc) .any]=t.enc:=t.VJ.symm
def sz:Tm→Nat
 |mk _ _ _ l=>1+szs l
where szs:List Tm→Nat
 |[]=>0
 |t::r=>sz t+szs r
def ZbY{u:Tm}:∀{l:List Tm},u∈l→u.sz≤sz.szs l
 |t::r,h=>by
  simp only[sz.szs];rcases Ql.1 h with rfl|h
  ·omega
  ·have:=ZbY h;omega
def Zc7(t:Tm):1≤t.sz:=by cases t;simp only[sz];omega
def sz_len:∀l:List Tm,l.length≤sz.szs l
 |[]=>Qg _
 |t::r=>by have:=sz_len r;have:=Zc7 t;simp only[sz.szs,Qq];omega
def ZhJ(t:Tm):t.sz=1+sz.szs t.args:=by cases t;rfl
def ZpB(h:u∈t.args):u.sz<t.sz:=by rw[ZhJ t];have:=ZbY h;omega
def ZgM(t:Tm):t.args.length<t.sz:=by rw[ZhJ t];have:=sz_len t.args;omega
inductive Nm:Tm→Prop
 |mk (k n:Int) (s:List UInt8) (l:List Tm) (h:s.length≤140737488355328) (hk:0≤k∧k≤255) (hn:-9223372036854775808≤n∧n≤9223372036854775807) (ha:l.length≤1000000) (hl:∀u∈l,Nm u):Nm (.mk k n s l)
def Nm.arg(h:Nm t):∀u∈t.args,Nm u:=by cases h with|mk _ _ _ _ _ _ _ _ h=>exact h
def Nm.kd(h:Nm t):0≤t.kind:=by cases h with|mk _ _ _ _ _ h=>exact h.1
structure Good (t:Tm):Prop where
 sz:t.sz≤3000000000000
 nm:Nm t
def Good.name{t:Tm}(h:Good t):t.name.length≤140737488355328:=by
 obtain⟨_,h⟩:=h;cases h;assumption
def Good.arg(h:Good t)(hu:u∈t.args):Good u:=by
 refine⟨MP (Un (ZpB hu) h.sz),?_⟩;obtain⟨_,h⟩:=h;cases h with|mk k n s l _ _ _ _ hl=>exact hl u hu
def Good.kind{t:Tm}(h:Good t):0≤t.kind∧t.kind≤255:=by obtain⟨_,h⟩:=h;cases h;assumption
def Good.num{t:Tm}(h:Good t):-9223372036854775808≤t.num∧t.num≤9223372036854775807:=by obtain⟨_,h⟩:=h;cases h;assumption
def Good.len(h:Good t):t.args.length≤1000000:=by obtain⟨_,h⟩:=h;cases h;assumption
def all(p:Tm→Bool):Tm→Bool
 |mk k n s l=>p (mk k n s l)&&alls p l
where alls (p:Tm→Bool):List Tm→Bool
 |[]=>true
 |t::r=>all p t&&alls p r
def all_eq(p:Tm→Bool)(t:Tm):all p t=(p t&&all.alls p t.args):=by cases t;rfl
theorem WJ(p:Tm→Bool):∀l:List Tm,all.alls p l=l.all (all p)
 |[]=>rfl
 |t::r=>by rw[all.alls,WJ p r];rfl
def Zh(l:List Tm)(i:Nat)(h:i<l.length)(d:AV):(l.map enc).getD i d=(l[i]).enc:=by
 rw[Qn,Ua,Qb h];rfl
end Tm
structure Am where
 pred:List UInt8
 args:List Tm
namespace Am
def cs(a:Am):List AV:=[.str a.pred,.sl 4 (a.args.map Tm.enc) .any]
def enc(a:Am):AV:=.agg a.cs
theorem Xg(a:Am):a.enc.cells=[.str a.pred,.sl 4 (a.args.map Tm.enc) .any]:=rfl
theorem fold(a:Am):AV.agg [.str a.pred,.sl 4 (a.args.map Tm.enc) .any]=a.enc:=rfl
def bcs(a:Am):Yg (fun c=>Below n c) a.cs:=⟨.str _,ZB (fun x hx=>by obtain⟨u,_,rfl⟩:=Qi.1 hx;exact u.blw n),trivial⟩
def blw(n:Nat)(a:Am):Below n a.enc:=Xf a.bcs.mem
def Zf6(l:List Am)(k:Nat):Inside n p (.sl k (l.map enc) .any):=Below.inside (ZB fun x hx=>by obtain⟨u,_,rfl⟩:=Qi.1 hx;exact blw n u)
def Zh(l:List Am)(i:Nat)(h:i<l.length)(d:AV):(l.map enc).getD i d=(l[i]).enc:=by
 rw[Qn,Ua,Qb h];rfl
def sz(a:Am):Nat:=1+Tm.sz.szs a.args
structure Good (a:Am):Prop where
 pred:a.pred.length≤140737488355328
 sz:a.sz≤1000000
 nm:∀t∈a.args,Tm.Nm t
def Good.arg{a:Am}(h:Good a)(ht:t∈a.args):t.Good:=by
 refine⟨?_,h.nm t ht⟩;have:=Tm.ZbY ht;have:=h.sz;simp only[Am.sz]at this;omega
def Good.len{a:Am}(h:Good a):a.args.length≤1000000:=by
 have:=Tm.sz_len a.args;have:=h.sz;simp only[Am.sz]at this;omega
end Am
variable {k:Nat}
def Yj{j:Nat}{xs:List AV}(hx:∀x∈xs,Below n x)(h:p j):Inside n p (.sl k xs (.buf n j)):=
 .sl k xs _ (fun i hi c hc=>(((hx _ (Qa hi)).cells _ (Qa hc))).inside) (fun l j' e=>by cases e;exact .inr ⟨rfl,h⟩)
def Ze4{j:Nat}{l:List (List UInt8)}(h:p j):Inside n p (.sl k (l.map .str) (.buf n j)):=Yj (fun x hx=>by obtain⟨u,_,rfl⟩:=Qi.1 hx;exact .str _) h
def Tm.Yj{n k j:Nat}{p:Nat→Prop}{l:List Tm}(h:p j):Inside n p (.sl k (l.map Tm.enc) (.buf n j)):=Abs.Yj (fun x hx=>by obtain⟨u,_,rfl⟩:=Qi.1 hx;exact u.blw n) h
def Am.Yj{n k j:Nat}{p:Nat→Prop}{l:List Am}(h:p j):Inside n p (.sl k (l.map Am.enc) (.buf n j)):=Abs.Yj (fun x hx=>by obtain⟨u,_,rfl⟩:=Qi.1 hx;exact u.blw n) h
def Zlz(l:List (List UInt8)):Below n (.sl k (l.map .str) .any):=ZB fun x hx=>by obtain⟨u,_,rfl⟩:=Qi.1 hx;exact .str _
def ZH(l:List Tm):Below n (.sl k (l.map Tm.enc) .any):=ZB fun x hx=>by obtain⟨u,_,rfl⟩:=Qi.1 hx;exact u.blw n
def Xp(l:List Am):Below n (.sl k (l.map Am.enc) .any):=ZB fun x hx=>by obtain⟨u,_,rfl⟩:=Qi.1 hx;exact u.blw n
end
end Go.Abs

namespace Go.Abs
def thn(c d:Int):Int:=if c=0 then d else c
theorem Y5(d:Int):thn 0 d=d:=rfl
def Zb6{c:Int}(h:c≠0)(d:Int):thn c d=c:=if_neg h
def Wv{c d:Int}(h:thn c d=0):c=0∧d=0:=by
 unfold thn at h;split at h
 ·exact⟨by assumption,h⟩
 ·exact absurd h (by assumption)
def Jw(a b c:Int):thn (thn a b) c=thn a (thn b c):=by unfold thn;split<;>simp_all
def Jv(a:Int):thn a 0=a:=by unfold thn;split<;>simp_all
def YO(a b:Int):Int:=if a<b then -1 else if b<a then 1 else 0
def ZaL(a:Int):YO a a=0:=by simp[YO]
def ZaI{a b:Int}(h:YO a b=0):a=b:=by
 unfold YO at h;split at h
 ·cases h
 ·split at h
  ·cases h
  ·omega
def ZoP(a b:Int):YO b a= -YO a b:=by
 unfold YO;split<;>split<;>first|omega|(split<;>omega)|rfl
def lexI:List Int→List Int→Int
 |[],[]=>0
 |[],_::_=>-1
 |_::_,[]=>1
 |a::x,b::y=>thn (YO a b) (lexI x y)
theorem lexI_self:∀x:List Int,lexI x x=0
 |[]=>rfl
 |a::x=>by rw[lexI,ZaL,Y5,lexI_self x]
theorem lexI_anti:∀x y:List Int,lexI y x= -lexI x y
 |[],[]=>rfl
 |[],_::_=>rfl
 |_::_,[]=>rfl
 |a::x,b::y=>by
  rw[lexI,lexI,ZoP a b,lexI_anti x y];unfold thn;split<;>split<;>first|rfl|omega
def lexI_trans:∀x y z:List Int,lexI x y≤0→lexI y z≤0→lexI x z≤0
 |[],[],[],_,_=>by decide
 |[],[],_::_,_,_=>by show(-1:Int)≤0;decide
 |[],_::_,[],_,_=>by decide
 |[],_::_,_::_,_,_=>by show(-1:Int)≤0;decide
 |_::_,[],_,h,_=>by exact absurd h (by show¬(1:Int)≤0;decide)
 |_::_,_::_,[],_,h=>by exact absurd h (by show¬(1:Int)≤0;decide)
 |a::x,b::y,c::z,h,h'=>by
  have ih:=lexI_trans x y z;rw[lexI]at h h'⊢;unfold thn at*;unfold YO at*;rcases Int.lt_trichotomy a b with h1|h1|h1<;>rcases Int.lt_trichotomy b c with h2|h2|h2
  all_goals
   first
   |subst h1
   |skip
   first
   |subst h2
   |skip
   repeat' split at h
   all_goals repeat' split at h'
   all_goals repeat' split
   all_goals first|omega|(exact ih h h')|skip
def rank(k:Int):Int:=if k=1 then 0 else if k=2 then 1 else if k=4 then 2 else if k=3 then 3 else if k=5 then 4 else if k=6 then 5 else 6+k
def Zj4{a b:Int}(ha:0≤a)(hb:0≤b)(h:rank a=rank b):a=b:=by
 unfold rank at h;repeat' split at h
 all_goals omega
def cmpT:Tm→Tm→Int
 | .mk k n s l,.mk k' n' s' l'=>thn (YO (rank k) (rank k')) (thn (if k=1 then YO n n' else 0) (thn (YO l.length l'.length) (thn (Lib.compareBytes s s') (thn (cmps l l') (YO n n')))))
where cmps:List Tm→List Tm→Int
 |[],[]=>0
 |[],_::_=>-1
 |_::_,[]=>1
 |a::x,b::y=>thn (cmpT a b) (cmps x y)
def ZfD(a b:Tm):cmpT a b=thn (YO (rank a.kind) (rank b.kind)) (thn (if a.kind=1 then YO a.num b.num else 0) (thn (YO a.args.length b.args.length) (thn (Lib.compareBytes a.name b.name) (thn (cmpT.cmps a.args b.args) (YO a.num b.num))))):=by
 cases a;cases b;rw[cmpT];rfl
def Zfp(s:List UInt8):List Int:=s.map (fun b=>(b.toNat:Int)+1)++[0]
def lex_serS:∀(s t:List UInt8) (x y:List Int),lexI (Zfp s++x) (Zfp t++y)=thn (Lib.compareBytes s t) (lexI x y)
 |[],[],x,y=>by simp[Zfp,lexI,Lib.compareBytes,ZaL,Y5]
 |[],b::t,x,y=>by
  simp only[Zfp,Ux,Q5,Qv,Q8,lexI,Lib.compareBytes];have:YO 0 ((b.toNat:Int)+1)= -1:=by unfold YO;rw[if_pos om]
  rw[this];rfl
 |a::s,[],x,y=>by
  simp only[Zfp,Ux,Q5,Qv,Q8,lexI,Lib.compareBytes];have:YO ((a.toNat:Int)+1) 0=1:=by unfold YO;rw[if_neg om,if_pos om]
  rw[this];rfl
 |a::s,b::t,x,y=>by
  have ih:=lex_serS s t x y;simp only[Zfp,Uc,Q8,Q5]at ih;simp only[Zfp,Qv,Q8,lexI,Lib.compareBytes,Uc,Q5];rw[ih];by_cases h1:a<b
  ·have:YO ((a.toNat:Int)+1) ((b.toNat:Int)+1)= -1:=by unfold YO;rw[if_pos (by have:=UInt8.lt_iff_toNat_lt.1 h1;omega)]
   rw[this,if_pos h1];rfl
  ·rw[if_neg h1];by_cases h2:b<a
   ·have:YO ((a.toNat:Int)+1) ((b.toNat:Int)+1)=1:=by
     have:=UInt8.lt_iff_toNat_lt.1 h2;unfold YO;rw[if_neg om,if_pos om]
    rw[this,if_pos h2];rfl
   ·have:YO ((a.toNat:Int)+1) ((b.toNat:Int)+1)=0:=by
     have e1:¬a.toNat<b.toNat:=fun h=>h1 (UInt8.lt_iff_toNat_lt.2 h)
     have e2:¬b.toNat<a.toNat:=fun h=>h2 (UInt8.lt_iff_toNat_lt.2 h)
     unfold YO;rw[if_neg om,if_neg om]
    rw[this,if_neg h2,Y5]
def ser:Tm→List Int
 | .mk k n s l=>rank k::(if k=1 then n else 0)::(l.length:Int)::(Zfp s++(sers l++[n]))
where sers:List Tm→List Int
 |[]=>[]
 |t::r=>ser t++sers r
def Zs8(t:Tm):ser t=rank t.kind::(if t.kind=1 then t.num else 0)::(t.args.length:Int)::(Zfp t.name++(ser.sers t.args++[t.num])):=by cases t;rw[ser];rfl
def lex_ser:∀(a b:Tm) (_:a.Nm) (_:b.Nm) (x y:List Int),lexI (ser a++x) (ser b++y)=thn (cmpT a b) (lexI x y)
 | .mk k n s l,b,ha,hb,x,y=>by
  have hl:∀(p q:List Tm),(∀u∈p,u∈l)→(∀u∈q,u.Nm)→p.length=q.length→ ∀x y:List Int,lexI (ser.sers p++x) (ser.sers q++y)=thn (cmpT.cmps p q) (lexI x y):=by
   intro p;induction p with
   |nil=>
    intro q _ _ hlen x y;have:q=[]:=Ug hlen.symm;subst this;rfl
   |cons t p ih=>
    intro q hp hq hlen x y;cases q with
    |nil=>cases hlen
    |cons u q=>
     have ht:=lex_ser t u (ha.arg t (hp t sm)) (hq u sm);simp only[ser.sers,Uc,cmpT.cmps];rw[ht,ih q (fun v hv=>hp v (Qz _ hv)) (fun v hv=>hq v (Qz _ hv)) (by simpa using hlen),Jw]
  have hk:0≤k:=ha.kd;have hk':0≤b.kind:=hb.kd;have hbn:∀u∈b.args,u.Nm:=hb.arg;have e4:(Tm.mk k n s l).kind=k:=rfl;have e5:(Tm.mk k n s l).num=n:=rfl;have e6:(Tm.mk k n s l).args=l:=rfl;have e7:(Tm.mk k n s l).name=s:=rfl;rw[Zs8 b,ser,ZfD,e4,e5,e6,e7];simp only[Q8,Uc,Q5,lexI];rw[lex_serS];by_cases h1:YO (rank k) (rank b.kind)=0
  ·have hkk:=Zj4 hk hk' (ZaI h1);by_cases h3:YO (l.length:Int) (b.args.length:Int)=0
   ·have hlen:=ZaI h3;rw[hl l b.args (fun u h=>h) hbn om,lexI];subst hkk;simp only[Jw];by_cases h2:b.kind=1
    ·simp[h2,Jw,lexI]
    ·simp[h2,Jw,lexI,ZaL,Y5]
   ·subst hkk;by_cases h2:b.kind=1
    ·simp[h2,Jw,Zb6 h3]
    ·simp[h2,Jw,Zb6 h3,ZaL,Y5]
  ·simp only[Zb6 h1]
termination_by a=>SizeOf.sizeOf a
decreasing_by
 have:=QL (hp t sm);simp only[Tm.mk.sizeOf_spec];omega
theorem cmpBytes_zero:∀{s t:List UInt8},Lib.compareBytes s t=0→s=t
 |[],[],_=>rfl
 |[],_::_,h=>by cases h
 |_::_,[],h=>by cases h
 |a::s,b::t,h=>by
  rw[Lib.compareBytes]at h;split at h
  ·cases h
  ·split at h
   ·cases h
   ·rename_i h1 h2;have:a=b:=UInt8.le_antisymm (UInt8.not_lt.1 h2) (UInt8.not_lt.1 h1);rw[this,cmpBytes_zero h]
theorem cmpBytes_self:∀s:List UInt8,Lib.compareBytes s s=0
 |[]=>rfl
 |a::s=>by rw[Lib.compareBytes,if_neg (UInt8.lt_irrefl a),if_neg (UInt8.lt_irrefl a),cmpBytes_self s]
def cmpBytes_val:∀s t:List UInt8,Lib.compareBytes s t= -1∨Lib.compareBytes s t=0∨Lib.compareBytes s t=1
 |[],[]=>.inr (.inl rfl)
 |[],_::_=>.inl rfl
 |_::_,[]=>.inr (.inr rfl)
 |a::s,b::t=>by
  rw[Lib.compareBytes];split
  ·exact .inl rfl
  ·split
   ·exact .inr (.inr rfl)
   ·exact cmpBytes_val s t
theorem less_cmp:∀s t:List UInt8,Op.bytesLess s t=decide (Lib.compareBytes s t= -1)
 |[],[]=>rfl
 |[],_::_=>rfl
 |_::_,[]=>rfl
 |a::s,b::t=>by
  rw[Lib.compareBytes,Op.bytesLess,less_cmp s t];by_cases h1:a<b
  ·simp[h1]
  ·rw[if_neg h1];by_cases h2:b<a
   ·have:a≠b:=fun e=>by subst e;exact UInt8.lt_irrefl _ h2
    simp[h1,h2,this]
   ·have:a=b:=UInt8.le_antisymm (UInt8.not_lt.1 h2) (UInt8.not_lt.1 h1);subst this;simp[h1]
def Zj9{a b:Tm}(ha:a.Nm)(hb:b.Nm):cmpT a b=lexI (ser a) (ser b):=by
 have:=lex_ser a b ha hb [] [];simp only[Qs,lexI,Jv]at this;exact this.symm
theorem cmpT_zero:∀{a b:Tm},a.Nm→b.Nm→cmpT a b=0→a=b
 | .mk k n s l,b,ha,hb,h=>by
  have hl:∀(p q:List Tm),(∀u∈p,u∈l)→(∀u∈q,u.Nm)→cmpT.cmps p q=0→p=q:=by
   intro p;induction p with
   |nil=>intro q _ _ h;cases q with
    |nil=>rfl
    |cons u q=>cases h
   |cons t p ih=>
    intro q hp hq h;cases q with
    |nil=>cases h
    |cons u q=>
     simp only[cmpT.cmps]at h;obtain⟨h1,h2⟩:=Wv h;rw[ih q (fun v hv=>hp v (Qz _ hv)) (fun v hv=>hq v (Qz _ hv)) h2];rw[cmpT_zero (a:=t) (b:=u) (ha.arg t (hp t sm)) (hq u sm) h1]
  have hk:0≤k:=ha.kd;have hk':0≤b.kind:=hb.kd;have hbn:∀u∈b.args,u.Nm:=hb.arg;rw[ZfD]at h;obtain⟨h1,h⟩:=Wv h;obtain⟨h2,h⟩:=Wv h;obtain⟨h3,h⟩:=Wv h;obtain⟨h4,h⟩:=Wv h;obtain⟨h5,h⟩:=Wv h;cases b with
  |mk k' n' s' l'=>
   have e1:k=k':=Zj4 hk hk' (ZaI h1);have e2:n=n':=ZaI h;have e3:s=s':=cmpBytes_zero h4;have e4:l=l':=hl l l' (fun u h=>h) hbn h5;rw[e1,e2,e3,e4]
termination_by a=>SizeOf.sizeOf a
decreasing_by
 have:=QL (hp t sm);simp only[Tm.mk.sizeOf_spec];omega
def lex_sers:∀(p q:List Tm),(∀u∈p,u.Nm)→(∀u∈q,u.Nm)→p.length=q.length→lexI (ser.sers p) (ser.sers q)=cmpT.cmps p q
 |[],q,_,_,h=>by
  have:q=[]:=Ug h.symm;subst this;rfl
 |t::p,[],_,_,h=>by cases h
 |t::p,u::q,hp,hq,h=>by
  simp only[ser.sers,cmpT.cmps];rw[lex_ser t u (hp t sm) (hq u sm),lex_sers p q (fun v hv=>hp v (by simp[hv])) (fun v hv=>hq v (by simp[hv])) (by simpa using h)]
theorem cmps_zero:∀{p q:List Tm},(∀u∈p,u.Nm)→(∀u∈q,u.Nm)→cmpT.cmps p q=0→p=q
 |[],[],_,_,_=>rfl
 |[],_::_,_,_,h=>by cases h
 |_::_,[],_,_,h=>by cases h
 |t::p,u::q,hp,hq,h=>by
  simp only[cmpT.cmps]at h;obtain⟨h1,h2⟩:=Wv h;rw[cmpT_zero (hp t sm) (hq u sm) h1,cmps_zero (fun v hv=>hp v (by simp[hv])) (fun v hv=>hq v (by simp[hv])) h2]
def fl{α:Type}(cs:α→List AV)(l:List α):List AV:=l.flatMap cs
section
variable {α:Type} {cs:α→List AV} (hcs:∀x,(cs x).length=2)
include hcs
theorem Zaq:∀l:List α,(fl cs l).length=l.length*2
 |[]=>rfl
 |x::l=>by
  have:=Zaq l;simp only[fl,QV,Qh,Qq,hcs]at this⊢;omega
end
section
variable {α:Type} (lt:α→α→Bool)
def ZfV{β:Type}(f:β→α→β)(b:β)(l:List α)(i:Nat)(h:i<l.length):(l.take (i+1)).foldl f b=f ((l.take i).foldl f b) l[i]:=by
 rw[Qj h,Md];rfl
end
structure Lt where
 kind:Int
 neg:Bool
 at_:Am
 op:Int
 L:Tm
 R:Tm
abbrev Bnd:=List (List UInt8×Tm)
def Zz(n:List UInt8):Bnd→Option Tm
 |[]=>none
 |p::r=>if p.1=n then some p.2 else Zz n r
def posB(n:List UInt8):Bnd→Nat
 |[]=>0
 |p::r=>if Lib.compareBytes p.1 n<0 then posB n r+1 else 0
def WH(n:List UInt8)(v:Tm):Bnd→Bnd
 |[]=>[(n,v)]
 |p::r=>if Lib.compareBytes p.1 n<0 then p::WH n v r else(n,v)::p::r
def Zv(b:Bnd):Tm→Tm
 | .mk k n s l=>match (if k=3 then Zz s b else none)with
  |some v=>v
  |none=>.mk k n s (apps b l)
where apps (b:Bnd):List Tm→List Tm
 |[]=>[]
 |t::r=>Zv b t::apps b r
def matT:Tm→Tm→Bnd→Option Bnd
 | .mk k n s l,v,b=>
  if k=3 then match Zz s b with
   |none=>some (WH s v b)
   |some w=>if cmpT w v=0 then some b else none
  else if k=v.kind∧n=v.num∧s=v.name∧l.length=v.args.length then matL l v.args b else none
where matL:List Tm→List Tm→Bnd→Option Bnd
 |[],_,b=>some b
 |t::r,[],b=>some b
 |t::r,v::q,b=>match matT t v b with
  |none=>none
  |some c=>matL r q c
def nmT:Tm→List (List UInt8)
 | .mk k _ s l=>(if k=3 then [s]else [])++nms l
where nms:List Tm→List (List UInt8)
 |[]=>[]
 |t::r=>nmT t++nms r
def Zeq{α:Type}(c:α→α→Int)(x:α):List α→List α
 |[]=>[x]
 |y::r=>if c x y=0 then y::r else if c x y<0 then x::y::r else y::Zeq c x r
def XT{α:Type}(c:α→α→Int)(l:List α):List α:=l.foldr (Zeq c) []
def ZU(t:Tm):List (List UInt8):=XT Lib.compareBytes (nmT t)
def ZA(x:Lt):List (List UInt8):=(if x.kind=2 then [x.L,x.R]else x.at_.args).flatMap ZU
def YX(op:Int)(a b:Tm):Bool:=
 if op=1 then cmpT a b==0 else if op=2 then !(cmpT a b==0)else if op=3 then decide (cmpT a b<0)
 else if op=4 then decide (cmpT a b≤0)else if op=5 then decide (cmpT a b>0)else if op=6 then decide (cmpT a b ≥ 0)else false
/-! Expansions. -/
def Y6(n:Int):Bool:=decide (-2147483647≤n)&&decide (n≤2147483647)
def VX(op:List UInt8)(a b:Int):Option Int:=
 let r:=if op=[43]then some (a+b)else if op=[45]then some (a - b)else if op=[42]then some (a*b)
  else if op=[47]then(if b=0 then none else some (a.tdiv b))else if op=[92]then(if b=0 then none else some (a.tmod b))else none
 r.bind fun n=>if Y6 n then some n else none
def Wj(op:List UInt8)(a:List Int):Option Int:=
 if a.all Y6 then match a with
  |[x]=>if op=[45]then some (-x)else none
  |[x,y]=>VX op x y
  |_=>none
 else none
def Yp(l:List Tm):List Int:=(l.filter fun t=>t.kind==1).map Tm.num
def Z7{α:Type}:List (List α)→List (List α)
 |[]=>[[]]
 |p::r=>p.flatMap fun x=>(Z7 r).map (x:: ·)
def Ye(n:Int):Tm:=.mk 1 n [] []
def Zo7(l:List Int):Option (List Tm):=if(1000:Nat)<l.length then none else some (l.map Ye)
def minS:List Int→Int
 |[]=>0
 |x::r=>r.foldl min x
def maxS:List Int→Int
 |[]=>0
 |x::r=>r.foldl max x
def WY(lo hi:List Int):Option (List Tm):=
 if lo=[]∨hi=[]then some []else
 if 1000<maxS hi - minS lo+1 then none else some ((List.range (maxS hi - minS lo+1).toNat).map fun i:Nat=>Ye (minS lo+(i:Int)))
def Zbu(op:List UInt8)(ps:List (List Tm)):Option (List Tm):=Zo7 (XT YO ((Z7 (ps.map Yp)).filterMap (Wj op)))
def Zkr(ps:List (List Tm)):Option Nat:=ps.foldlM (fun n p=>if 1000<n*p.length then none else some (n*p.length)) 1
def ZcX(s:List UInt8)(ps:List (List Tm)):Option (List Tm):=
 if ps.any (·.isEmpty)then some []else(Zkr ps).bind fun _=>some ((Z7 ps).map fun r=>.mk 4 0 s r)
def expandS:Tm→Option (List Tm)
 | .mk k n s l=>match l with
  |[]=>some [.mk k n s []]
  |t::r=>(expandSs (t::r)).bind fun ps=>
   if k=6 then WY (Yp (ps.getD 0 [])) (Yp (ps.getD 1 []))else if k=5 then Zbu s ps else ZcX s ps
where expandSs:List Tm→Option (List (List Tm))
 |[]=>some []
 |t::r=>(expandS t).bind fun p=>(expandSs r).bind fun ps=>some (p::ps)
end Go.Abs

namespace Go.Proofs.YtmdeagmbfhbbnaaGreatDoorR
open Go.Abs
section
universe u
variable {α:Sort u} (k:TD→Nat→Nat→List AV→α)
abbrev y1:=k (.func) 1 8 [.nilf]
abbrev y2:=k (.int .i64) 1 8 [.int .i64 0]
abbrev y4:=k (.bool) 1 1 [.bool false]
abbrev y5:=k (.int .u8) 1 1 [.int .u8 0]
abbrev y7:=k (.struct [(0,2),(1,3),(2,4),(3,6)]) 4 24 [.int .i64 0,.int .i64 0,.bool false,.int .u8 0]
abbrev y9:=k (.str) 1 16 [.str []]
abbrev y12:=k (.int .u64) 1 8 [.int .u64 0]
abbrev y15:=k (.ptr) 1 8 [.nilp]
abbrev y20:=k (.iface) 1 16 [.nili]
abbrev y21:=k (.int .i32) 1 4 [.int .i32 0]
abbrev y22:=k (.slice 54) 1 24 [.sl 13 [] .full]
abbrev y23:=k (.slice 52) 1 24 [.sl 2 [] .full]
abbrev y28:=k (.slice 34) 1 24 [.sl 1 [] .full]
abbrev y33:=k (.slice 42) 1 24 [.sl 5 [] .full]
abbrev y35:=k (.slice 9) 1 24 [.sl 1 [] .full]
abbrev y37:=k (.slice 40) 1 24 [.sl 4 [] .full]
abbrev y39:=k (.struct [(0,5),(1,3),(2,9),(3,37)]) 4 56 [.int .u8 0,.int .i64 0,.str [],.sl 4 [] .full]
abbrev y41:=k (.struct [(0,9),(1,40)]) 5 72 [.str [],.int .u8 0,.int .i64 0,.str [],.sl 4 [] .full]
abbrev y51:=k (.struct [(0,9),(1,37)]) 2 40 [.str [],.sl 4 [] .full]
abbrev y53:=k (.struct [(0,5),(1,4),(2,52),(4,5),(5,40),(9,40)]) 13 168 [.int .u8 0,.bool false,.str [],.sl 4 [] .full,.int .u8 0,.int .u8 0,.int .i64 0,.str [],.sl 4 [] .full,.int .u8 0,.int .i64 0,.str [],.sl 4 [] .full]
abbrev y77:=k (.map 9 128) 1 8 [.nilm]
abbrev y81:=k (.slice 84) 1 24 [.sl 1 [] .full]
abbrev y83:=k (.struct [(0,77),(1,26),(2,28),(3,81)]) 4 64 [.nilm,.nilp,.sl 1 [] .full,.sl 1 [] .full]
abbrev y103:=k (.struct [(0,23)]) 1 24 [.sl 2 [] .full]
abbrev y104:=k (.map 9 3) 1 8 [.nilm]
abbrev y105:=k (.map 110 113) 1 8 [.nilm]
abbrev y106:=k (.map 116 113) 1 8 [.nilm]
abbrev y108:=k (.struct [(0,103),(1,104),(2,105),(3,106)]) 4 48 [.sl 2 [] .full,.nilm,.nilm,.nilm]
abbrev y110:=k (.struct [(0,9),(1,3)]) 2 24 [.str [],.int .i64 0]
abbrev y113:=k (.slice 3) 1 24 [.sl 1 [] .full]
abbrev y116:=k (.struct [(0,110),(2,3),(3,9)]) 4 48 [.str [],.int .i64 0,.int .i64 0,.str []]
abbrev y120:=k (.struct [(0,77),(1,3),(2,22)]) 3 40 [.nilm,.int .i64 0,.sl 13 [] .full]
abbrev y128:=k (.struct []) 0 0 []
abbrev y130:=k (.slice 35) 1 24 [.sl 1 [] .full]
abbrev y159:=k (.struct [(0,40)]) 4 56 [.int .u8 0,.int .i64 0,.str [],.sl 4 [] .full]
abbrev y194:=k (.int .u32) 1 4 [.int .u32 0]
abbrev y201:=k (.array 7 200) 7 56 [.nilf,.nilf,.nilf,.nilf,.nilf,.nilf,.nilf]
abbrev y206:=k (.map 5 24) 1 8 [.nilm]
abbrev y207:=k (.slice 5) 1 24 [.sl 1 [] .full]
abbrev y211:=k (.struct [(0,209),(1,207)]) 2 32 [.nilp,.sl 1 [] .full]
abbrev y229:=k (.slice 37) 1 24 [.sl 1 [] .full]
abbrev y258:=k (.slice 113) 1 24 [.sl 1 [] .full]
abbrev y259:=k (.map 3 3) 1 8 [.nilm]
abbrev y276:=k (.array 24 5) 24 24 (List.replicate 24 (.int .u8 0))
abbrev y292:=k (.array 20 196) 20 160 (List.replicate 20 (.int .u64 0))
abbrev y297:=k (.map 9 296) 1 8 [.nilm]
abbrev y311:=k (.array 32 5) 32 32 (List.replicate 32 (.int .u8 0))
end
def dat:List (Zu×List Nat):=[(y1 .mk,[1,24,25,27,31,32,36,38,43,44,45,46,47,48,49,50,56,57,58,59,60,61,62,84,87,89,90,92,96,100,114,127,134,146,151,152,179,182,200,216,219,235,260,261,266,267,268,283,296]),(y2 .mk,[2,3,29,187]),(y4 .mk,[4]),(y5 .mk,[5,6]),(y7 .mk,[7,8]),(y9 .mk,[9,10,11]),(y12 .mk,[12,144,196,223]),(y15 .mk,[15,16,17,26,80,118,209,227,233,243,252,253]),(y20 .mk,[20,213]),(y21 .mk,[21]),(y22 .mk,[22]),(y23 .mk,[23]),(y28 .mk,[28]),(y33 .mk,[33,34]),(y35 .mk,[35]),(y37 .mk,[37]),(y39 .mk,[39,40]),(y41 .mk,[41,42]),(y51 .mk,[51,52]),(y53 .mk,[53,54]),(y77 .mk,[77]),(y81 .mk,[81]),(y83 .mk,[83]),(y103 .mk,[103]),(y104 .mk,[104]),(y105 .mk,[105]),(y106 .mk,[106]),(y108 .mk,[108]),(y110 .mk,[110]),(y113 .mk,[113]),(y116 .mk,[116]),(y120 .mk,[120]),(y128 .mk,[128,197]),(y130 .mk,[130]),(y159 .mk,[159]),(y194 .mk,[194]),(y201 .mk,[201]),(y206 .mk,[206]),(y207 .mk,[207]),(y211 .mk,[211]),(y229 .mk,[229]),(y258 .mk,[258]),(y259 .mk,[259]),(y276 .mk,[276]),(y292 .mk,[292]),(y297 .mk,[297]),(y311 .mk,[311])]
def rows:List (TypeId×Zu):=dat.flatMap fun p=>p.2.map fun t=>(t,p.1)
def tt:TT:=fun t=>(rows.find? (·.1==t)).map (·.2)
def tok:TOK prog tt:=Zjm (by kernel_rfl)
theorem mixed:prog.follows .mixedOrders=true:=by kernel_rfl
def cxP(P:Program)(φ:Fm)(n N:Nat):Cx:=⟨P,tt,φ,n,N⟩
abbrev tb3(f:Nat→Prop)(a b c:Nat):Prop:=f a∧f b∧f c
abbrev tb9(f:Nat→Prop)(a b c d e g h i j:Nat):Prop:=tb3 f a b c∧tb3 f d e g∧tb3 f h i j
abbrev Rw:=(TD→Nat→Nat→List AV→Prop)→Prop
abbrev tbT(r:Rw)(t:Nat):Prop:=r fun a b c d=>tt t=some ⟨a,b,c,d⟩
abbrev tbD(d:TD)(t:Nat):Prop:=JY tt t=some d
abbrev tbF(t i o:Nat)(r:Rw):Prop:=r fun a b c d=>Zdv tt t i=some (o,⟨a,b,c,d⟩)
abbrev tbS(t e:Nat)(r:Rw):Prop:=r fun a b c d=>sliceOf tt t=some (e,⟨a,b,c,d⟩)
abbrev tbM(t k e:Nat)(r:Rw):Prop:=r fun a b c d=>mapOf tt t=some (k,e,⟨a,b,c,d⟩)
def ttT:tb9 (tbT y1) 1 24 25 27 31 32 36 38 43∧tb9 (tbT y1) 44 45 46 47 48 49 50 56 57∧tb9 (tbT y1) 58 59 60 61 62 84 87 89 90∧tb9 (tbT y1) 92 96 100 114 127 134 146 151 152∧tb9 (tbT y1) 179 182 200 216 219 235 260 261 266∧tb3 (tbT y1) 267 268 283∧tbT y1 296∧tb3 (tbT y2) 2 3 29∧tbT y2 187∧tbT y4 4∧tbT y5 5∧tbT y5 6∧tbT y7 7∧tbT y7 8∧tb3 (tbT y9) 9 10 11∧tb3 (tbT y12) 12 144 196∧tbT y12 223∧tb9 (tbT y15) 15 16 17 26 80 118 209 227 233∧tb3 (tbT y15) 243 252 253∧tbT y20 20∧tbT y20 213∧tbT y21 21∧tbT y22 22∧tbT y23 23∧tbT y28 28∧tbT y33 33∧tbT y33 34∧tbT y35 35∧tbT y37 37∧tbT y39 39∧tbT y39 40∧tbT y41 41∧tbT y41 42∧tbT y51 51∧tbT y51 52∧tbT y53 53∧tbT y53 54∧tbT y77 77∧tbT y81 81∧tbT y83 83∧tbT y103 103∧tbT y104 104∧tbT y105 105∧tbT y106 106∧tbT y108 108∧tbT y110 110∧tbT y113 113∧tbT y116 116∧tbT y120 120∧tbT y128 128∧tbT y128 197∧tbT y130 130∧tbT y159 159∧tbT y194 194∧tbT y201 201∧tbT y206 206∧tbT y207 207∧tbT y211 211∧tbT y229 229∧tbT y258 258∧tbT y259 259∧tbT y276 276∧tbT y292 292∧tbT y297 297∧tbT y311 311:=by
 repeat' first|exact rfl|refine Qa5 ?_ ?_
def ttF:tbF 7 0 0 y2∧tbF 7 1 1 y2∧tbF 7 2 2 y4∧tbF 7 3 3 y5∧tbF 8 0 0 y2∧tbF 8 1 1 y2∧tbF 8 2 2 y4∧tbF 8 3 3 y5∧tbF 39 0 0 y5∧tbF 39 1 1 y2∧tbF 39 2 2 y9∧tbF 39 3 3 y37∧tbF 40 0 0 y5∧tbF 40 1 1 y2∧tbF 40 2 2 y9∧tbF 40 3 3 y37∧tbF 41 0 0 y9∧tbF 41 1 1 y39∧tbF 42 0 0 y9∧tbF 42 1 1 y39∧tbF 51 0 0 y9∧tbF 51 1 1 y37∧tbF 52 0 0 y9∧tbF 52 1 1 y37∧tbF 53 0 0 y5∧tbF 53 1 1 y4∧tbF 53 2 2 y51∧tbF 53 3 4 y5∧tbF 53 4 5 y39∧tbF 53 5 9 y39∧tbF 54 0 0 y5∧tbF 54 1 1 y4∧tbF 54 2 2 y51∧tbF 54 3 4 y5∧tbF 54 4 5 y39∧tbF 54 5 9 y39∧tbF 83 0 0 y77∧tbF 83 1 1 y15∧tbF 83 2 2 y28∧tbF 83 3 3 y81∧tbF 103 0 0 y23∧tbF 108 0 0 y103∧tbF 108 1 1 y104∧tbF 108 2 2 y105∧tbF 108 3 3 y106∧tbF 110 0 0 y9∧tbF 110 1 1 y2∧tbF 116 0 0 y110∧tbF 116 1 2 y2∧tbF 116 2 3 y9∧tbF 120 0 0 y77∧tbF 120 1 1 y2∧tbF 120 2 2 y22∧tbF 159 0 0 y39∧tbF 211 0 0 y15∧tbF 211 1 1 y207:=by
 repeat' first|exact rfl|refine Qa5 ?_ ?_
def ttS:tbS 22 54 y53∧tbS 23 52 y51∧tbS 28 34 y33∧tbS 33 42 y41∧tbS 34 42 y41∧tbS 35 9 y9∧tbS 37 40 y39∧tbS 81 84 y1∧tbS 113 3 y2∧tbS 130 35 y35∧tbS 207 5 y5∧tbS 229 37 y37∧tbS 258 113 y113:=by
 repeat' first|exact rfl|refine Qa5 ?_ ?_
def ttD:tb9 (tbD (.func)) 1 24 25 27 31 32 36 38 43∧tb9 (tbD (.func)) 44 45 46 47 48 49 50 56 57∧tb9 (tbD (.func)) 58 59 60 61 62 84 87 89 90∧tb9 (tbD (.func)) 92 96 100 114 127 134 146 151 152∧tb9 (tbD (.func)) 179 182 200 216 219 235 260 261 266∧tb3 (tbD (.func)) 267 268 283∧tbD (.func) 296∧tb3 (tbD (.int .i64)) 2 3 29∧tbD (.int .i64) 187∧tbD (.bool) 4∧tbD (.int .u8) 5∧tbD (.int .u8) 6∧tb3 (tbD (.str)) 9 10 11∧tb3 (tbD (.int .u64)) 12 144 196∧tbD (.int .u64) 223∧tb9 (tbD (.ptr)) 15 16 17 26 80 118 209 227 233∧tb3 (tbD (.ptr)) 243 252 253∧tbD (.iface) 20∧tbD (.iface) 213∧tbD (.int .i32) 21∧tbD (.map 9 128) 77∧tbD (.map 9 3) 104∧tbD (.map 110 113) 105∧tbD (.map 116 113) 106∧tbD (.int .u32) 194∧tbD (.map 5 24) 206∧tbD (.map 3 3) 259∧tbD (.map 9 296) 297:=by
 repeat' first|exact rfl|refine Qa5 ?_ ?_
def ttM:tbM 77 9 128 y128∧tbM 104 9 3 y2∧tbM 105 110 113 y113∧tbM 106 116 113 y113∧tbM 206 5 24 y1∧tbM 259 3 3 y2∧tbM 297 9 296 y1:=by
 repeat' first|exact rfl|refine Qa5 ?_ ?_
end Go.Proofs.YtmdeagmbfhbbnaaGreatDoorR

namespace Go.Abs
section
variable {cx:Cx} {k k' l:List Itm} {Q:Exit→Zb→Prop} {s:Zb} {c:Code} {p:Prop}
def nR{id:Nat}{ops:Array Oper}(h:p)(hl:norm 60 l= .code c::k:=by exact rfl)(hc:c= .region id ops false:=by exact rfl)(hT:TOK cx.P cx.T:=by exact tok)(e:YP cx plainO ops.toList k Q ops.toList s=p:=by simp only[go_sem,simprocAttr];exact rfl)(hd:XH cx.N ops.toList=true:=by kernel_rfl):AKc cx l Q s:=
 V8 hT hl hc (e▸h) hd
def nr{id:Nat}{ops:Array Oper}(h:YP cx plainO ops.toList k Q ops.toList s)(hl:norm 60 l= .code c::k:=by exact rfl)(hc:c= .region id ops false:=by exact rfl)(hT:TOK cx.P cx.T:=by exact tok)(hd:XH cx.N ops.toList=true:=by kernel_rfl):AKc cx l Q s:=
 V8 hT hl hc h hd
def nq{r:Prop}{id:Nat}{ops:Array Oper}(x:r)(h:p)(hl:norm 60 l= .code c::k:=by exact rfl)(hc:c= .region id ops false:=by exact rfl)(hT:TOK cx.P cx.T:=by exact tok)(e:r→YP cx plainO ops.toList k Q ops.toList s=p:=by intro zz;simp only[go_sem,simprocAttr,zz];exact rfl)(hd:XH cx.N ops.toList=true:=by kernel_rfl):AKc cx l Q s:=
 V8 hT hl hc ((e x).mpr h) hd
def nq2{r r':Prop}{id:Nat}{ops:Array Oper}(x:r)(y:r')(h:p)(hl:norm 60 l= .code c::k:=by exact rfl)(hc:c= .region id ops false:=by exact rfl)(hT:TOK cx.P cx.T:=by exact tok)(e:r→r'→YP cx plainO ops.toList k Q ops.toList s=p:=by intro zz zy;simp only[go_sem,simprocAttr,zz,zy];exact rfl)(hd:XH cx.N ops.toList=true:=by kernel_rfl):AKc cx l Q s:=
 V8 hT hl hc ((e x y).mpr h) hd
def nq3{r r' r'':Prop}{id:Nat}{ops:Array Oper}(x:r)(y:r')(z:r'')(h:p)(hl:norm 60 l= .code c::k:=by exact rfl)(hc:c= .region id ops false:=by exact rfl)(hT:TOK cx.P cx.T:=by exact tok)(e:r→r'→r''→YP cx plainO ops.toList k Q ops.toList s=p:=by intro zz zy zx;simp only[go_sem,simprocAttr,zz,zy,zx];exact rfl)(hd:XH cx.N ops.toList=true:=by kernel_rfl):AKc cx l Q s:=
 V8 hT hl hc ((e x y z).mpr h) hd
def nq4{r r' r'' r3:Prop}{id:Nat}{ops:Array Oper}(x:r)(y:r')(z:r'')(u:r3)(h:p)(hl:norm 60 l= .code c::k:=by exact rfl)(hc:c= .region id ops false:=by exact rfl)(hT:TOK cx.P cx.T:=by exact tok)(e:r→r'→r''→r3→YP cx plainO ops.toList k Q ops.toList s=p:=by intro zz zy zx zw;simp only[go_sem,simprocAttr,zz,zy,zx,zw];exact rfl)(hd:XH cx.N ops.toList=true:=by kernel_rfl):AKc cx l Q s:=
 V8 hT hl hc ((e x y z u).mpr h) hd
def nt{r:Prop}{id:Nat}{ops:Array Oper}(x:r)(h:p)(hl:norm 60 l= .code c::k:=by exact rfl)(hc:c= .region id ops false:=by exact rfl)(hT:TOK cx.P cx.T:=by exact tok)(e:r→YP cx plainO ops.toList k Q ops.toList s=p:=by intro zz;simp only[go_sem,simprocAttr,QI,zz];exact rfl)(hd:XH cx.N ops.toList=true:=by kernel_rfl):AKc cx l Q s:=
 V8 hT hl hc ((e x).mpr h) hd
def nt0{id:Nat}{ops:Array Oper}(h:p)(hl:norm 60 l= .code c::k:=by exact rfl)(hc:c= .region id ops false:=by exact rfl)(hT:TOK cx.P cx.T:=by exact tok)(e:YP cx plainO ops.toList k Q ops.toList s=p:=by simp only[go_sem,simprocAttr,QI];exact rfl)(hd:XH cx.N ops.toList=true:=by kernel_rfl):AKc cx l Q s:=
 V8 hT hl hc (e.mpr h) hd
def dq{r:Prop}{id:Nat}{ops:Array Oper}(x:r)(h:p)(hl:norm 60 l= .code c::k:=by exact rfl)(hc:c= .region id ops true:=by exact rfl)(hT:TOK cx.P cx.T:=by exact tok)(hm:cx.P.follows .mixedOrders=true:=by exact mixed)(e:r→YP cx drawO ops.toList k Q ops.toList s=p:=by intro zz;simp only[go_sem,simprocAttr,zz];exact rfl)
  (hd:XH cx.N ops.toList=true:=by kernel_rfl) (hok:(WI ops.toList (ZcA drawO ops.toList)&&ZcN drawO ops.toList)=true:=by kernel_rfl):AKc cx l Q s:=Xz hT hm drawO hl hc rfl ((e x).mpr h) hd hok
def dq2{r r':Prop}{id:Nat}{ops:Array Oper}(x:r)(y:r')(h:p)(hl:norm 60 l= .code c::k:=by exact rfl)(hc:c= .region id ops true:=by exact rfl)(hT:TOK cx.P cx.T:=by exact tok)(hm:cx.P.follows .mixedOrders=true:=by exact mixed)(e:r→r'→YP cx drawO ops.toList k Q ops.toList s=p:=by intro zz zy;simp only[go_sem,simprocAttr,zz,zy];exact rfl)
  (hd:XH cx.N ops.toList=true:=by kernel_rfl) (hok:(WI ops.toList (ZcA drawO ops.toList)&&ZcN drawO ops.toList)=true:=by kernel_rfl):AKc cx l Q s:=Xz hT hm drawO hl hc rfl ((e x y).mpr h) hd hok
def dq4{r r' r'' r3:Prop}{id:Nat}{ops:Array Oper}(x:r)(y:r')(z:r'')(u:r3)(h:p)(hl:norm 60 l= .code c::k:=by exact rfl)(hc:c= .region id ops true:=by exact rfl)(hT:TOK cx.P cx.T:=by exact tok)(hm:cx.P.follows .mixedOrders=true:=by exact mixed)(e:r→r'→r''→r3→YP cx drawO ops.toList k Q ops.toList s=p:=by intro zz zy zx zw;simp only[go_sem,simprocAttr,zz,zy,zx,zw];exact rfl)
  (hd:XH cx.N ops.toList=true:=by kernel_rfl) (hok:(WI ops.toList (ZcA drawO ops.toList)&&ZcN drawO ops.toList)=true:=by kernel_rfl):AKc cx l Q s:=Xz hT hm drawO hl hc rfl ((e x y z u).mpr h) hd hok
def kK(h:p)(e:p→AKc cx l Q s:=by intro zz;(repeat refine kn rfl ?_);exact zz):AKc cx l Q s:=e h
def nD{id:Nat}{ops:Array Oper}(op:Opt)(h:YP cx op ops.toList k Q ops.toList s)(hl:norm 60 l= .code c::k:=by exact rfl)(hc:c= .region id ops true:=by exact rfl)(hT:TOK cx.P cx.T:=by exact tok)(hm:cx.P.follows .mixedOrders=true:=by exact mixed)(hop:op.dr=true:=by exact rfl)
  (hd:XH cx.N ops.toList=true:=by kernel_rfl) (hok:(WI ops.toList (ZcA op ops.toList)&&ZcN op ops.toList)=true:=by kernel_rfl):AKc cx l Q s:=Xz hT hm op hl hc hop h hd hok
def nT{o:Operand}(h:AKc cx (.code c.fst::k) Q s)(hl:norm 60 l= .code c::k:=by exact rfl)(hc:c= .cond o c.fst c.snd:=by exact rfl)(ho:evT s.tmps o= .bool true:=by exact rfl):AKc cx l Q s:=Zrq hl hc ho h
def nF{o:Operand}(h:AKc cx (.code c.snd::k) Q s)(hl:norm 60 l= .code c::k:=by exact rfl)(hc:c= .cond o c.fst c.snd:=by exact rfl)(ho:evT s.tmps o= .bool false:=by exact rfl):AKc cx l Q s:=Zti hl hc ho h
def nTq{o:Operand}{r:Prop}(x:r)(h:AKc cx (.code c.fst::k) Q s)(hl:norm 60 l= .code c::k:=by exact rfl)(hc:c= .cond o c.fst c.snd:=by exact rfl)(ho:r→evT s.tmps o= .bool true:=by intro zz;simp only[go_sem,simprocAttr,zz]):AKc cx l Q s:=Zrq hl hc (ho x) h
def nFq{o:Operand}{r:Prop}(x:r)(h:AKc cx (.code c.snd::k) Q s)(hl:norm 60 l= .code c::k:=by exact rfl)(hc:c= .cond o c.fst c.snd:=by exact rfl)(ho:r→evT s.tmps o= .bool false:=by intro zz;simp only[go_sem,simprocAttr,zz]):AKc cx l Q s:=Zti hl hc (ho x) h
def nV(h:Q .ret s)(hl:norm 60 l= .code c::k:=by exact rfl)(hc:c= .ret:=by exact rfl):AKc cx l Q s:=YG hl hc h
def nN(h:Q .normal s)(hl:norm 60 l=[]:=by exact rfl):AKc cx l Q s:=ZtZ hl h
def nX{kk:List Itm}{R:Zb→Prop}{id:Nat}(h:AKc cx k' Q s)(hl:norm 60 l= .code c::kk:=by exact rfl)(hc:c= .exit id:=by exact rfl)(hn:V3 id kk=none:=by exact rfl)(hp:V3 id k=some k':=by exact rfl):AKc cx l (Round cx k Q R) s:=Zvn hl hc hn hp h
def nW{kk:List Itm}{R:Zb→Prop}(h:Q .ret s)(hl:norm 60 l= .code c::kk:=by exact rfl)(hc:c= .ret:=by exact rfl):AKc cx l (Round cx k Q R) s:=ZtW hl hc h
end
def isFun(P:Program)(f:FuncId):Bool:=match P.funcs[f]? with
 | some fn => fn.body.isSome && !(fn.name == "runtime.NumGoroutine")
 |none=>false
section
variable {f:FuncId}
def Zdg{P:Program}(h:isFun P f=true):∃fn c,Fun P f fn c:=by
 unfold isFun at h;split at h
 ·rename_i fn hf;rw[Qd]at h;exact⟨fn,_,Zf hf h.1 (by simpa using h.2)⟩
 ·cases h
variable {p:Prop} {avs:List AV} {r:AV} {cx:Cx}
def cP{dr:Bool}{o:Oper}{args:List Operand}{ts:List TypeId}{s:Zb}{F:Zb→Prop}(h:Pure cx.P f avs r)(hk:p)(hx:isFun cx.P f=true:=by kernel_rfl)(ha:Yn cx.T (evT s.tmps) args ts=avs:=by exact rfl)(e:F ⟨Yk s.tmps o.dst r,s.L,s.H⟩=p:=by simp only[go_sem,simprocAttr];exact rfl):WO cx dr o (.func f) args ts s F:=by
 obtain⟨fn,c,hf⟩:=Zdg hx;exact WE hf h ha (e▸hk)
variable {H:Za} {n:Nat} {T:TT}
def aF {P : Program} {fn : Func} {args : List AV} {Q : AV → Za → Prop} (h0 : P.funcs[f]? = some fn) (h : ∀ B, AKc ⟨P, T, ⟨none, B⟩, n, fn.ntmps⟩ [.code (ZW fn)] (PostF P T n fn.results.toList Q) ⟨numbered 0 args, [], H⟩) (hN : args.length ≤ fn.ntmps := by simp) (hb : fn.body.isSome = true := by exact rfl) (hn : (fn.name == "runtime.NumGoroutine") = false := by exact rfl) (hT : TOK P T := by exact tok) : Zi P n f args H Q :=
 Zuh hT (Zf h0 hb hn) hN h
def xx(h:p:=by first|exact trivial|exact qb|exact q1|exact q2|exact q3|exact rfl|exact qA rfl|exact Inside.ptr _ _ _ (.inr ⟨rfl,rfl⟩)|exact Tm.ins _|exact Tm.Zf6 _ _|exact Am.ins _|exact Am.Zf6 _ _|exact Ze4 rfl|exact Tm.Yj rfl|exact Am.Yj rfl):p:=h
variable {F:Zb→Prop} {s:Zb} {ts:List TypeId} {args:List Operand} {o:Oper}
def cQ{dr:Bool}(h:PC cx.P (cx.n+1) f avs (full cx.n s.L s.H) r)(hF:F ⟨Yk s.tmps o.dst r,s.L,s.H⟩)(ha:Yn cx.T (evT s.tmps) args ts=avs:=by first|exact rfl|simp only[go_sem,simprocAttr])(hx:isFun cx.P f=true:=by kernel_rfl):WO cx dr o (.func f) args ts s F:=by
 obtain⟨fn,c,hf⟩:=Zdg hx;exact Zdw hf h ha hF
def cR{o:Oper}{args:List Operand}{ts:List TypeId}{s:Zb}{F:Zb→Prop}(h:Pure cx.P f avs r)(hk:p)(hx:isFun cx.P f=true:=by kernel_rfl)(ha:Yn cx.T (evT s.tmps) args ts=avs:=by exact rfl)(e:F ⟨Yk s.tmps o.dst r,s.L,s.H⟩=p:=by simp only[go_sem,simprocAttr];exact rfl):Zjc cx o (.func f) args ts s F:=by
 obtain⟨fn,c,hf⟩:=Zdg hx;exact Zep hf h ha (e▸hk)
def iw{x:Int}(h:-9223372036854775808≤x∧x≤9223372036854775807:=by omega):IntKind.i64.wrap x=x:=IntWalk.i64_in x h
def pB{cx:Cx}{k l:List Itm}{c:Code}{P:Program}{T:TT}{n t:Nat}{b:Bool}{H:Za}(hv:Wk (lkv s.tmps t) (.bool b):=by(try simp only[go_sem,simprocAttr]);exact .refl _)(hl:norm 60 l= .code c::k:=by exact rfl)(hc:c= .ret:=by exact rfl)(hH:s.H=H:=by exact rfl):AKc cx l (PostF P T n [.tmp t] (fun r' H'=>r'= .bool b∧H'=H)) s:=
 YG hl hc (Zc hv (.bool _) hH)
def pW{cx:Cx}{k kk l:List Itm}{c:Code}{P:Program}{T:TT}{n t:Nat}{b:Bool}{H:Za}{R:Zb→Prop}(hv:Wk (lkv s.tmps t) (.bool b):=by exact .refl _)(hl:norm 60 l= .code c::kk:=by exact rfl)(hc:c= .ret:=by exact rfl)(hH:s.H=H:=by exact rfl):AKc cx l (Round cx k (PostF P T n [.tmp t] (fun r' H'=>r'= .bool b∧H'=H)) R) s:=
 ZtW hl hc (Zc hv (.bool _) hH)
def mB{α β:Type}{f:α→β}{p:β→Prop}{l:List α}(h:∀u,p (f u)):∀x∈l.map f,p x:=fun x hx=>by obtain⟨u,_,e⟩:=Qi.1 hx;subst e;exact h u
variable {L L':List (Nat×Ze)} {tm tm':List (Nat×AV)}
def kZ{N:Nat}(h:Yg (fun p=>Wk (lkv tm p.1) p.2) tm'∧Yg (fun p=>lkb L p.1=some p.2) L'∧Yg (fun p=>Inside n (fun k=>(lkb L' k).isSome=true) p.2) tm'∧Yg (fun p=>p.2.Inside n (fun k=>(lkb L' k).isSome=true)) L'):AWk n N ⟨tm,L,H⟩ ⟨tm',L',H⟩:=Zgf h.1 h.2.1 h.2.2.1 h.2.2.2
def KK{N:Nat}{H:Za}(h:Yg (fun p=>Wk (lkv tm p.1) p.2) tm'∧Yg (fun p=>lkb L p.1=some p.2) L'∧Yg (fun p=>Inside n (fun k=>(lkb L' k).isSome=true) p.2) tm'∧Yg (fun p=>p.2.Inside n (fun k=>(lkb L' k).isSome=true)) L':=by repeat' first|exact trivial|refine q0 ?_|exact qb|exact q1|exact q2|exact q3|exact rfl|refine Qa5 ?_ ?_|exact qA rfl|exact Inside.ptr _ _ _ (.inr ⟨rfl,rfl⟩)|exact Tm.ins _|exact Tm.Zf6 _ _|exact Am.ins _|exact Am.Zf6 _ _|refine Ze4 ?_|refine Tm.Yj ?_|refine Am.Yj ?_|exact(Yf _).inside|exact inZ|exact Zeu rfl|exact Zjz _|exact(Zw n _).inside|exact hfi _|exact .ptr _ _ _ (.inl hl)|exact ZmQ (.inr ⟨rfl,rfl⟩)|exact(ZF _).inside|exact .msl _ _ _ _ (.inr ⟨rfl,rfl⟩)|exact(ZH _).inside|exact(hall _).2|exact(hall _).1|exact hbi _|exact Inside.ptr _ _ _ (.inl hls)|exact Zsu rfl|exact ZbH _|exact Zq4 rfl|exact(hin _).1|exact(hin _).2.1|exact(hin _).2.2|exact hmi _|exact hfi _ _|exact ho _ _ rfl|exact ho _ [] rfl|exact Zfl hl|exact(ZhT _).inside|exact Zbm hl rfl|exact(Zcp _).inside|exact Zga _|exact hxi _|exact Zjl rfl|exact hai _|exact(Xp _).inside|exact Zk3 _|exact Inside.map _ _ (.inl hl)|exact(Wq _).inside|exact(ZaP (caps:=[]) trivial).inside|exact hpi _|exact hmb _ _|exact hms _ rfl|exact hal _|exact hms _ _ _|exact ZeR _|exact hso _ [] rfl|exact hso _ _ rfl|exact .ptr _ _ _ (.inl (Qr n))|exact(hall _).2.1|exact(hall _).2.2|exact hsl _ _|exact hstr _|exact(hin _).2|exact hall _|exact hbuf _ _ rfl|exact hbuf _ [] rfl|exact hsl _ l'|exact ho _ U rfl|exact hoi _|exact Inside.map _ _ (.inr ⟨rfl,rfl⟩)|exact hbs _ _ rfl|exact hob _ rfl|exact ZmS _|exact moreAt_ins _ _ _|exact Xo _|exact Tm.Yj rfl|exact(Zon _).inside|exact hbs [] _ rfl|exact hmb _ [] _|exact ZaM (fun x hx=>by cases hx)|exact .any _ _ _|(refine ZmN ?_ D;rfl)|(subst hk0;rfl)|(intro a ha;simp[Ze.avs]at ha;done)|(intro q hq;simp only[Ze.at_,Qm]at hq;subst hq;exact .inr ⟨rfl,rfl⟩)|(simp only[go_sem,simprocAttr];rw[IntWalk.i64_in _ om];exact .refl _)|(simp only[go_sem,simprocAttr];exact .refl _)|(simp only[go_sem,simprocAttr];rw[he,IntWalk.i64_in _ om];exact .refl _)|(simp only[go_sem,simprocAttr];exact .any _ _ _)|(simp only[go_sem,simprocAttr];exact Tm.Zf6 _ _)):AWk n N ⟨tm,L,H⟩ ⟨tm',L',H⟩:=kZ h
def aI{a b:Prop}(h:a)(k:b):a∧b:=⟨h,k⟩
variable {q:Prop}
def aS(h:q)(e:p=q:=by simp only[go_sem,simprocAttr];exact rfl):p:=e.mpr h
def aq{r:Prop}(x:r)(h:q)(e:r→p=q:=by intro zz;simp only[go_sem,simprocAttr,zz];exact rfl):p:=(e x).mpr h
def aq2{r r':Prop}(x:r)(y:r')(h:q)(e:r→r'→p=q:=by intro zz zy;simp only[go_sem,simprocAttr,zz,zy];exact rfl):p:=(e x y).mpr h
def sT(h:p:=by simp only[go_sem,simprocAttr]):p:=h
def xS{a b:AV}(h:Wk a b:=by simp only[go_sem,simprocAttr];exact .refl _):Wk a b:=h
def xI{a b:AV}(h:Wk a b:=by simp only[go_sem,simprocAttr];rw[iw];exact .refl _):Wk a b:=h
variable {P:Prop}
def gc(h:p)(e:p→P:=by intro zz;refine nR ?_;refine nR ?_;exact zz):P:=e h
def gd(h:p)(e:p→P:=by intro zz;refine nR ?_;refine nN ?_;exact zz):P:=e h
def ge(h:p)(e:p→P:=by intro zz;refine nR ?_;refine nV ?_;exact zz):P:=e h
def gg(h:p)(e:p→P:=by intro zz;refine nF ?_;refine nX ?_;exact zz):P:=e h
def gh(h:p)(e:p→P:=by intro zz;refine nR ?_;refine kK ?_;exact zz):P:=e h
def gi(h:p)(e:p→P:=by intro zz;refine nT ?_;refine nR ?_;exact zz):P:=e h
def gj(h:p)(e:p→P:=by intro zz;refine nT ?_;refine ge ?_;exact zz):P:=e h
def gk(h:p)(e:p→P:=by intro zz;refine gc ?_;refine kK ?_;exact zz):P:=e h
def gm(h:p)(e:p→P:=by intro zz;refine nF ?_;refine gd ?_;exact zz):P:=e h
def gn(h:p)(e:p→P:=by intro zz;refine gi ?_;refine nW ?_;exact zz):P:=e h
def gt(h:p)(e:p→P:=by intro zz;refine gg ?_;refine ge ?_;exact zz):P:=e h
def gu(h:p)(e:p→P:=by intro zz;refine nF ?_;refine kK ?_;exact zz):P:=e h
def gv(h:p)(e:p→P:=by intro zz;refine nF ?_;refine nR ?_;exact zz):P:=e h
def gw(h:p)(e:p→P:=by intro zz;refine aS ?_;refine nV ?_;exact zz):P:=e h
def gz(h:p)(e:p→P:=by intro zz;refine gc ?_;refine gh ?_;exact zz):P:=e h
def gD(h:p)(e:p→P:=by intro zz;refine gu ?_;refine gd ?_;exact zz):P:=e h
def gE(h:p)(e:p→P:=by intro zz;refine nt0 ?_;refine nV ?_;exact zz):P:=e h
def gF(h:p)(e:p→P:=by intro zz;refine nF ?_;refine ge ?_;exact zz):P:=e h
def gG(h:p)(e:p→P:=by intro zz;refine gg ?_;refine nR ?_;exact zz):P:=e h
def gH(h:p)(e:p→P:=by intro zz;refine nT ?_;refine nr ?_;exact zz):P:=e h
def gI(h:p)(e:p→P:=by intro zz;refine aS ?_;refine gm ?_;exact zz):P:=e h
def gJ(h:p)(e:p→P:=by intro zz;refine gg ?_;refine nN ?_;exact zz):P:=e h
def gK(h:p)(e:p→P:=by intro zz;refine gc ?_;refine nV ?_;exact zz):P:=e h
def gM(h:p)(e:p→P:=by intro zz;refine aS ?_;refine kK ?_;exact zz):P:=e h
def gN(h:p)(e:p→P:=by intro zz;refine nF ?_;refine gh ?_;exact zz):P:=e h
def gO(h:p)(e:p→P:=by intro zz;refine aS ?_;refine nN ?_;exact zz):P:=e h
def gP(h:p)(e:p→P:=by intro zz;refine aS ?_;refine nR ?_;exact zz):P:=e h
end
end Go.Abs

namespace Go.Proofs.YtmdeagmbfhbbnaaGreatDoorR
open Go.Abs
theorem Zu8(n:Int):YF tt 5 (.int .u8 n)=true:=rfl
theorem Zev(l:List UInt8):YF tt 9 (.str l)=true:=rfl
def Zl2(l:List UInt8)(n:Int):YF tt 110 (.agg [.str l,.int .i64 n])=true:=by
 simp only[YF,show tt 110=some ⟨.struct [(0,9),(1,3)],2,24,[.str [],.int .i64 0]⟩ from rfl,AV.cells,klAll,AV.kl];rfl
attribute [go_sem] ZpC evO amT Zms evS ZiJ fullOwn zeroV Am.fold Am.cs Am.Xg Ql Qm forall_eq_or_imp forall_eq QA or_false delb Zu8 Zev Zl2 Tm.cs cxP Zox ZlD Jc ZsC Zs9 Zth ZsS Zts ZbU ZbX plainO drawO Wu ZcG Zkc stepW ZdG ZqA ZmT evP evR evW evA evT avoids lookOpd ZdZ setH AV.ofValue AV.ofCell mv Zgh lkv lkb Yk setb full Yn ldA isBuf isEq eqB Zrv ZnH ZmO ZdK Y4 Jr splice bnd inOrder ones numbered Zu.isAgg cellsT oneT List.drop_succ_cons Qab MR QaN MF Qa2 Qq QB Qbp List.all_nil Qv Ux Qao Ud QaT UA Gq and_true true_and and_self QK Qg Uw UF ne_eq not_true_eq_false not_false_eq_true Qp exists_eq' exists_eq forall_const false_implies implies_true QW Bool.true_eq_false Qw GI U2 List.contains_nil Q5 Qs Q8 List.drop_nil List.take_nil true_or or_true Int.natCast_nonneg Int.toNat_natCast Int.natCast_one Int.natCast_zero Int.cast_ofNat_Int gt_iff_lt ge_iff_le beq_self_eq_true List.isEmpty_cons List.isEmpty_nil U6 U8 Int.ofNat_lt Int.ofNat_le decide_true decide_false Us UJ Option.join_some Tm.fold Tm.Xg ttT ttF ttS ttD ttM Zrs nilA XP cellsU oneU Zpr evL
def isLow(b:Int):Bool:=decide (b ≥ 97)&&decide (b≤122)
def isUp(b:Int):Bool:=decide (b ≥ 65)&&decide (b≤90)
def Zfa(b:Int):Bool:=decide (b ≥ 48)&&decide (b≤57)
def isIn(b:Int):Bool:=isLow b||isUp b||Zfa b||b==95
def a79(b:Int):Pure prog 127 [.int .u8 b] (.bool (isLow b)):=by
 intro n H;refine aF func127 fun B=>?_
 refine Zca rfl ?_;refine nR ?_;refine Zca rfl ?_;refine nR ?_;refine VY _ (fun hb=>?_) (fun hb=>?_)<;>simp only[go_sem,simprocAttr,hb];all_goals
  refine Zg2 rfl (Zc ?_ (.bool _) rfl);simp only[go_sem,simprocAttr,isLow,hb];exact .refl _
def a160(b:Int):Pure prog 215 [.int .u8 b] (.bool (isUp b)):=by
 intro n H;refine aF func215 fun B=>?_
 refine Zca rfl ?_;refine nR ?_;refine Zca rfl ?_;refine nR ?_;refine VY _ (fun hb=>?_) (fun hb=>?_)<;>simp only[go_sem,simprocAttr,hb];all_goals
  refine Zg2 rfl (Zc ?_ (.bool _) rfl);simp only[go_sem,simprocAttr,isUp,hb];exact .refl _
def Zua(b:Int):Pure prog 216 [.int .u8 b] (.bool (Zfa b)):=by
 intro n H;refine aF func216 fun B=>?_
 refine Zca rfl ?_;refine nR ?_;refine Zca rfl ?_;refine nR ?_;refine VY _ (fun hb=>?_) (fun hb=>?_)<;>simp only[go_sem,simprocAttr,hb];all_goals
  refine Zg2 rfl (Zc ?_ (.bool _) rfl);simp only[go_sem,simprocAttr,Zfa,hb];exact .refl _
def ZvQ(b:Int):Pure prog 186 [.int .u8 b] (.bool (isIn b)):=by
 intro n H;refine aF func186 fun B=>?_
 refine Zca rfl ?_;refine nR ?_;refine Zca rfl ?_;refine nR ?_;refine cP (a79 b) ?_;refine VY _ (fun hb=>?_) (fun hb=>?_)<;>simp only[go_sem,simprocAttr,hb]
 ·refine Zg2 rfl (Zc ?_ (.bool _) rfl);simp only[go_sem,simprocAttr,isIn,hb,UR];exact .refl _
 refine cP (a160 b) ?_;refine VY _ (fun h2=>?_) (fun h2=>?_)<;>simp only[go_sem,simprocAttr,h2]
 ·refine Zg2 rfl (Zc ?_ (.bool _) rfl);simp only[go_sem,simprocAttr,isIn,h2,UR,Gz];exact .refl _
 refine cP (Zua b) ?_;refine VY _ (fun h3=>?_) (fun h3=>?_)<;>simp only[go_sem,simprocAttr,h3];all_goals
  refine Zg2 rfl (Zc ?_ (.bool _) rfl);simp only[go_sem,simprocAttr,isIn,hb,h2,h3,UR,Gz,U5];exact .refl _
abbrev bt(s:List UInt8)(i:Nat):Int:=((s.getD i 0).toNat:Int)
def und:List UInt8→Nat
 |[]=>0
 |b::r=>if((b.toNat:Int)==95)=true then und r+1 else 0
def und_le:∀s:List UInt8,und s≤s.length
 |[]=>Qg _
 |b::r=>by
  simp only[und];split
  ·have:=und_le r;simp;omega
  ·simp
def und_lt:∀{s:List UInt8} {i:Nat},i<und s→(bt s i==95)=true
 |[],i,h=>by simp[und]at h
 |b::r,i,h=>by
  simp only[und]at h;split at h
  ·rename_i hb;cases i with
   |zero=>exact hb
   |succ i=>exact und_lt (s:=r) om
  ·omega
def und_at:∀{s:List UInt8},und s<s.length→(bt s (und s)==95)=false
 |[],h=>by simp at h
 |b::r,h=>by
  simp only[und]at h⊢;split
  ·rename_i hb;rw[if_pos hb]at h;exact und_at (s:=r) (by simpa using h)
  ·rename_i hb;exact Gl _▸hb
def wd(s:List UInt8)(f:Nat):Bool:=(s.drop f).all (fun b=>isIn (b.toNat:Int))&&decide (s.length≤32)
def sNot:List UInt8:=[110,111,116]
def sym(s:List UInt8):Bool:=decide (und s<s.length)&&isLow (bt s (und s))&&wd s (und s)&& !(s==sNot)
def ZtR(s:List UInt8)(H:Za)(i:Nat):Zb:=⟨[(0,.str (s.drop i)),(1,.int .u8 95)],[],H⟩
def ZmV(s:List UInt8)(i j:Nat):bt (s.drop i) j=bt s (i+j):=by
 simp[bt,Qn,UM]
def a156(s:List UInt8):Pure prog 223 [.str s,.int .u8 95] (.str (s.drop (und s))):=by
 intro n H;have hu:=und_le s;refine aF func223 fun B=>?_
 refine gh ?_;refine Zm (ZtR s H) (und s) rfl ?_ ?_
 ·exact KK
 intro i hi;refine ZQ rfl ?_;have hlen:(s.drop i).length=s.length - i:=QU;have hb0:bt (s.drop i) 0=bt s i:=ZmV s i 0;rcases Qe i (und s)with h|h
 ·have h1:(decide (0<((s.drop i).length:Int)))=true:=by rw[hlen];simp;omega
  have h2:(0:Int)<((s.drop i).length:Int):=by rw[hlen];omega
  have h3:(bt (s.drop i) 0==95)=true:=by rw[hb0];exact und_lt h
  refine nq3 h1 h2 h3 ?_;refine nT ?_;refine nt0 ?_;refine⟨om,?_⟩;refine nN ?_;refine⟨h,?_⟩;apply kZ;repeat' first|apply q0|exact xx|apply aI
  simp only[go_sem,simprocAttr,UZ,Nat.add_comm];exact .refl _
 ·have hi:i=und s:=om;subst hi;have fin:∀tm,lkv tm 0= .str (s.drop (und s))→AKc (cxP prog ⟨none,B⟩ n Tryz.f223.ntmps) [.code (ZW Tryz.f223).snd.snd] (PostF prog tt n Tryz.f223.results.toList fun r' H'=>r'= .str (s.drop (und s))∧H'=H) ⟨tm,[],H⟩:=by
   intro tm htm;refine nq htm ?_;refine nV ?_;refine Zc ?_ (.str _) rfl;exact xS
  rcases Qe (und s) s.length with hl|hl
  ·have h1:(decide (0<((s.drop (und s)).length:Int)))=true:=by rw[hlen];simp;omega
   have h2:(0:Int)<((s.drop (und s)).length:Int):=by rw[hlen];omega
   have h3:(bt (s.drop (und s)) 0==95)=false:=by rw[hb0];exact und_at hl
   refine nq3 h1 h2 h3 ?_;refine nF ?_;refine ZaS rfl rfl rfl (fin _ ?_);exact sT
  ·have h1:(decide (0<((s.drop (und s)).length:Int)))=false:=by rw[hlen];simp;omega
   refine nq h1 ?_;refine nF ?_;refine ZaS rfl rfl rfl (fin _ ?_);exact sT
def ZvK(s:List UInt8):Pure prog 184 [.str s,.str [95]] (.str (s.drop (und s))):=by
 intro n H;refine aF func184 fun B=>?_
 refine nR ?_;cases h:s.isEmpty with
 |true=>
  have:s=[]:=by simpa using h
  subst this;refine nr ?_;simp only[go_sem,simprocAttr,Qa1,List.isEmpty_nil];refine gj ?_;refine Zc ?_ (.str _) rfl;exact xS
 |false=>
  refine nr ?_;simp only[go_sem,simprocAttr,h,Qa1,List.isEmpty_cons];refine gv ?_;refine gi ?_;refine cP (a156 s) ?_;refine nV ?_;exact Zc (.refl _) (.str _) rfl
def Zcb(f:Nat)(p:Int→Bool):Prop:=(∃fn c,Fun prog f fn c)∧ ∀b:Int,Pure prog f [.int .u8 b] (.bool (p b))
def cls79:Zcb 127 isLow:=⟨⟨_,_,Zf func127 rfl rfl⟩,a79⟩
def cls160:Zcb 215 isUp:=⟨⟨_,_,Zf func215 rfl rfl⟩,a160⟩
def cls161:Zcb 216 Zfa:=⟨⟨_,_,Zf func216 rfl rfl⟩,Zua⟩
def cls114:Zcb 186 isIn:=⟨⟨_,_,Zf func186 rfl rfl⟩,ZvQ⟩
def ZtQ(s:List UInt8)(f:Nat)(H:Za)(i:Nat):Zb:=⟨[(8,.int .i64 i),(7,.int .i64 s.length),(1,.fn (.func f) []),(0,.str s)],[],H⟩
def ZuQ(s:List UInt8)(f:Nat)(p:Int→Bool)(hp:Zcb f p)(hs:s.length≤9223372036854775807):Pure prog 185 [.str s,.fn (.func f) []] (.bool (s.all fun b=>p (b.toNat:Int))):=by
 intro n H;obtain⟨⟨fn,c,hf⟩,hp⟩:=hp;refine aF func185 fun B=>?_
 refine gk ?_;refine ZL (ZtQ s f H) (fun i=>∀j,j<i→p (bt s j)=true) s.length rfl ?_ (fun j h=>absurd h (Qo _)) ?_
 ·exact KK
 intro i hi hq;refine ZQ rfl ?_;have hall:(s.all fun b=>p (b.toNat:Int))=true↔ ∀j,j<s.length→p (bt s j)=true:=by
  rw[Qy];constructor
  ·intro h j hj;have:=h s[j] (Qa hj);simpa[bt,Qn,Qb hj]using this
  ·intro h b hb;obtain⟨j,hj,rfl⟩:=QJ hb;have:=h j hj;simpa[bt,Qn,Qb hj]using this
 rcases Qe i s.length with h|h
 ·refine nq h ?_;refine gi ?_;refine nq h ?_;refine YE (avs:=[.int .u8 (bt s i)]) sS hf (hp (bt s i) _ _) sS ?_;cases h1:p (bt s i)with
  |false=>
   refine aq h1 ?_;refine gn ?_;refine Zc ?_ (.bool _) rfl;have:(s.all fun b=>p (b.toNat:Int))=false:=by
    rw[←Gl,hall];intro hh;have:=hh i h;rw[h1]at this;cases this
   rw[this];exact .refl _
  |true=>
   refine aq h1 ?_;refine gm ?_;refine⟨fun j hj=>?_,?_⟩
   ·rcases Qe j i with h'|h'
    ·exact hq j h'
    ·have:j=i:=om;subst this;exact h1
   ·apply kZ;repeat' first|apply q0|exact xx|apply aI
    ·refine aS ?_;rw[iw];exact .refl _
 ·refine nq (QD.2 h) ?_;refine gt ?_;refine Zc ?_ (.bool _) rfl;rw[hall.2 (fun j hj=>hq j om)];exact .refl _
def a78(s:List UInt8)(f:Nat)(p:Int→Bool)(hp:Zcb f p)(hs:s.length≤9223372036854775807):
  Pure prog 126 [.str s,.fn (.func f) []] (.bool (decide (und s<s.length)&&p (bt s (und s))&&wd s (und s))):=by
 intro n H;have hu:=und_le s;obtain⟨⟨fn,c,hf⟩,hp⟩:=hp;have hlen:(s.drop (und s)).length=s.length - und s:=QU;have hb0:bt (s.drop (und s)) 0=bt s (und s):=ZmV s (und s) 0;refine aF func126 fun B=>?_
 refine gc ?_;refine cP (ZvK s) ?_;rcases Qe (und s) s.length with h|h
 ·have he:(s.drop (und s)).isEmpty=false:=by
   rw[←Gl,List.isEmpty_iff,←Gm,hlen];omega
  have h2:(0:Int)<((s.drop (und s)).length:Int):=by rw[hlen];omega
  have h3:0<(s.drop (und s)).length:=by rw[hlen];omega
  refine nr ?_;simp only[go_sem,simprocAttr,he,h2,h3,Qa1];refine YE (avs:=[.int .u8 (bt s (und s))]) sS hf (hp (bt s (und s)) _ _) (by simp only[go_sem,simprocAttr,hb0]) ?_;cases h1:p (bt s (und s))with
  |false=>
   refine aq h1 ?_;refine nV ?_;refine Zc ?_ (.bool _) rfl;refine aq h ?_;exact .refl _
  |true=>
   refine aq h1 ?_;refine cP (ZuQ (s.drop (und s)) _ isIn cls114 (by rw[hlen];omega)) ?_;cases h4:(s.drop (und s)).all (fun b=>isIn (b.toNat:Int))with
   |false=>
    refine aq h4 ?_;refine nV ?_;refine Zc ?_ (.bool _) rfl;simp only[go_sem,simprocAttr,h,wd,h4];exact .refl _
   |true=>
    refine aq h4 ?_;refine nV ?_;refine Zc ?_ (.bool _) rfl;simp only[go_sem,simprocAttr,h,wd,h4];have e:decide ((s.length:Int)≤32)=decide (s.length≤32):=by congr 1;simp;omega
    first|exact .refl _|(rw[e];exact .refl _)
 ·have he:(s.drop (und s)).isEmpty=true:=by
   rw[List.isEmpty_iff,←Gm,hlen];omega
  refine nr ?_;simp only[go_sem,simprocAttr,he,Qa1];refine nV ?_;refine Zc ?_ (.bool _) rfl;refine aq (QD.2 h) ?_;exact .refl _
def a45(s:List UInt8)(hs:s.length≤9223372036854775807):Pure prog 80 [.str s] (.bool (sym s)):=by
 intro n H;refine aF func80 fun B=>?_
 refine gc ?_;refine cP (a78 s _ isLow cls79 hs) ?_;refine VY _ (fun hb=>?_) (fun hb=>?_)<;>simp only[go_sem,simprocAttr,hb];all_goals
  refine nV ?_;refine Zc ?_ (.bool _) rfl;simp only[go_sem,simprocAttr,sym,hb];exact .refl _
def hpre(s p:List UInt8):Bool:=decide (p.length≤s.length)&&(s.take p.length==p)
def a198(s p:List UInt8):Pure prog 222 [.str s,.str p] (.bool (hpre s p)):=by
 intro n H;refine aF func222 fun B=>?_
 refine nR ?_;rcases Qe s.length p.length with h|h
 ·refine nr ?_;refine aq (QbL.2 h) ?_;refine nV ?_;refine Zc ?_ (.bool _) rfl;simp only[go_sem,simprocAttr,hpre,QbL.2 h];exact .refl _
 ·refine nr ?_;simp only[go_sem,simprocAttr,h,Qab];refine nV ?_;refine Zc ?_ (.bool _) rfl;simp only[go_sem,simprocAttr,hpre,h];exact .refl _
def Zme{P:Program}{T:TT}{n:Nat}{t u:Nat}{v w:AV}{H:Za}{s:Zb}(hv:Wk (lkv s.tmps t) v)(hw:Wk (lkv s.tmps u) w)(hb:Below n v)(hc:Below n w)(hH:s.H=H):
  PostF P T n [.tmp t,.tmp u] (fun r' H'=>r'= .tup [v,w]∧H'=H) .ret s:=ZG hv hw hb hc hH
def Zvp(s p:List UInt8):Pure prog 246 [.str s,.str p] (.tup [.str (if hpre s p then s.drop p.length else s),.bool (hpre s p)]):=by
 intro n H;refine aF func246 fun B=>?_
 refine gc ?_;refine cP (a198 s p) ?_;cases h:hpre s p with
 |false=>
  refine gj ?_;refine Zme ?_ ?_ (.str _) (.bool _) rfl
  ·exact xS
  ·exact xS
 |true=>
  have hl:p.length≤s.length:=by
   simp only[hpre,Qd,decide_eq_true_eq]at h;exact h.1
  refine nF ?_;refine nr ?_;simp only[go_sem,simprocAttr,hl,QI];refine nV ?_;refine Zme ?_ ?_ (.str _) (.bool _) rfl
  ·exact xS
  ·exact xS
def ZwC(s p:List UInt8):Pure prog 214 [.str s,.str p] (.tup [.str (if hpre s p then s.drop p.length else s),.bool (hpre s p)]):=by
 intro n H;refine aF func214 fun B=>?_
 refine gc ?_;refine cP (Zvp s p) ?_;refine nV ?_;refine Zme ?_ ?_ (.str _) (.bool _) rfl
 ·exact xS
 ·exact xS
def ZeX(s:List UInt8):Bool:=
 (decide (und s<s.length)&&isUp (bt s (und s))&&wd s (und s))||(hpre s [95]&&(s.drop 1).all (fun b=>Zfa (b.toNat:Int))&&decide (s.length≤32))
def ZvL(s:List UInt8)(hs:s.length≤9223372036854775807):Pure prog 171 [.str s] (.bool (ZeX s)):=by
 intro n H;refine aF func171 fun B=>?_
 refine gc ?_;refine cP (ZwC s [95]) ?_;refine nR ?_;refine cP (a78 s _ isUp cls160 hs) ?_;refine VY _ (fun h1=>?_) (fun h1=>?_)<;>simp only[go_sem,simprocAttr,h1]
 ·refine nV ?_;refine Zc ?_ (.bool _) rfl;simp only[go_sem,simprocAttr,ZeX,h1,UR];exact .refl _
 ·cases h2:hpre s [95]with
  |false=>
   refine aq h2 ?_;refine nV ?_;refine Zc ?_ (.bool _) rfl;simp only[go_sem,simprocAttr,ZeX,h1,h2,MB];exact .refl _
  |true=>
   refine aq h2 ?_;refine cP (ZuQ (s.drop 1) _ Zfa cls161 (by rw[QU];omega)) ?_;cases h3:(s.drop 1).all (fun b=>Zfa (b.toNat:Int))with
   |false=>
    refine aq h3 ?_;refine nV ?_;refine Zc ?_ (.bool _) rfl;simp only[go_sem,simprocAttr,ZeX,h1,h2,h3,MB];exact .refl _
   |true=>
    refine aq h3 ?_;refine nV ?_;refine Zc ?_ (.bool _) rfl;simp only[go_sem,simprocAttr,ZeX,h1,h2,h3,U5];have e:decide ((s.length:Int)≤32)=decide (s.length≤32):=by congr 1;simp;omega
    first|exact .refl _|(rw[e];exact .refl _)

def _root_.Go.Abs.Za.YS(H:Za)(x:Nat)(S:Nat→Option Ze):Za:=fun l k=>if l=x then S k else H l k
section
variable {n x:Nat}
def VB(h:x≠n)(L:List (Nat×Ze))(H:Za)(S:Nat→Option Ze):full n L (H.YS x S)=(full n L H).YS x S:=by
 funext l k;simp only[full,Za.YS];by_cases h1:l=n
 ·subst h1;rw[if_pos rfl,if_neg (fun e=>h e.symm),if_pos rfl]
 ·rw[if_neg h1,if_neg h1]
variable {S:Nat→Option Ze} {H:Za}
def Js(h:x<n)(hS:∀k b,S k=some b→b.Below (x+1)):ZM n H (H.YS x S):=fun l k b hl hb=>by
 simp only[Za.YS]at hb;split at hb
 ·have:=hS k b hb;exact .inr ⟨fun a ha=>(this.1 a ha).mono h,fun p hp=>Un (this.2 p hp) h⟩
 ·exact .inl hb
def Zso(P:Program)(x l:Nat)(p:Tm→Bool)(S:Nat→Option Ze)(H0:Za):Prop:=
 ∀m H (t:Tm),t.Good→x<m→(∀l' k,l'≤x→H l' k=H0 l' k)→VO P m l [t.enc] H fun r H1=>r= .bool (p t)∧H1=if p t then H else H.YS x S
def Zuk(t:Tm)(l n:Nat)(H:Za)(i:Nat):Zb:=
 ⟨[(14,.int .i64 i),(13,.int .i64 t.args.length),(12,.sl 4 (t.args.map Tm.enc) .any),(1,.fn (.yield l) []),(2,.ptr n 2 0)],[(2,.box t.cs)],H⟩
def a145{x l:Nat}{p:Tm→Bool}{S:Nat→Option Ze}{H0:Za}(hY:Zso prog x l p S H0)(hS:∀k b,S k=some b→b.Below (x+1))(t:Tm)(ht:t.Good)(n:Nat)(H:Za)(hx:x<n)(hH:∀l' k,l'≤x→H l' k=H0 l' k):
  Zi prog n 164 [t.enc,.fn (.yield l) []] H fun r H1=>r= .bool (t.all p)∧H1=if t.all p then H else H.YS x S:=by
 have hlen:=ht.len;refine aF func164 fun B=>?_
 have hf:∀(L:List (Nat×Ze)) (l' k:Nat),l'≤x→full n L H l' k=H0 l' k:=fun L l' k h=>by
  simp only[full];rw[if_neg om];exact hH l' k h
 refine gc ?_;refine Zsq sS (hY _ _ t ht (show x<n+1 by omega) (hf _)) sS ?_;rintro _ _ ⟨rfl,rfl⟩;have fail:∀(L:List (Nat×Ze)) (tm:List (Nat×AV)),t.all p=false→lkv tm 4= .bool false→PostF prog tt n Tryz.f164.results.toList (fun r H1=>r= .bool (t.all p)∧H1=if t.all p then H else H.YS x S) .ret ⟨tm,L,H.YS x S⟩:=by
  intro L tm hall h4;refine⟨by simp[X8],[.bool false],⟨?_,trivial⟩,by simp[Zc4],by rw[hall];rfl,by rw[hall];rfl⟩;show Wk (lkv tm 4) _;rw[h4];exact .refl _
 cases hp:p t with
 |false=>
  have hall:t.all p=false:=by rw[Tm.all_eq,hp];rfl
  refine⟨[(2,.box t.cs)],H.YS x S,by rw[VB (show x≠n by omega)];rfl,Js hx hS,?_⟩;refine aS ?_;refine gj ?_;exact fail _ _ hall sS
 |true=>
  refine⟨[(2,.box t.cs)],H,rfl,.refl _ _,?_⟩;refine aS ?_;refine gN ?_;refine ZL (Zuk t l n H) (fun i=>∀j (h:j<t.args.length),j<i→(t.args[j]).all p=true) t.args.length rfl ?_ (fun j _ h=>absurd h (Qo _)) ?_
  ·exact KK
  intro i hi hq;refine ZQ rfl ?_;rcases Qe i t.args.length with h|h
  ·refine nq h ?_;refine nT ?_;refine nq2 (Tm.Zh _ _ h) h ?_;refine nR ?_;have hu:=ht.arg (Qa h);refine YT (caps:=[]) (avs:=[t.args[i].enc,.fn (.yield l) []]) rfl (Zf func164 rfl rfl) (by rw[Qs];exact a145 hY hS t.args[i] hu (n+1) _ (show x<n+1 by omega) (hf _)) sS ?_;rintro _ _ ⟨rfl,rfl⟩;cases h1:(t.args[i]).all p with
   |false=>
    refine⟨[(2,.box t.cs),(6,.box t.args[i].cs)],H.YS x S,by rw[VB (show x≠n by omega)];rfl,Js hx hS,?_⟩;refine aS ?_;refine gn ?_;refine fail _ _ ?_ sS;rw[Tm.all_eq,hp,Tm.WJ,Ud,←Gl,Qy];intro hh;have:=hh _ (Qa h);rw[h1]at this;cases this
   |true=>
    refine⟨[(2,.box t.cs),(6,.box t.args[i].cs)],H,rfl,.refl _ _,?_⟩;refine gI ?_;refine⟨fun j hj hji=>?_,?_⟩
    ·rcases Qe j i with h'|h'
     ·exact hq j hj h'
     ·have:j=i:=om;subst this;exact h1
    ·apply kZ;repeat' first|apply q0|exact xx|apply aI
     ·refine aS ?_;rw[iw];exact .refl _
  ·refine nq (QD.2 h) ?_;refine gt ?_;have hall:t.all p=true:=by
    rw[Tm.all_eq,hp,Tm.WJ,Ud,Qy];intro u hu;obtain⟨j,hj,rfl⟩:=QJ hu;exact hq j hj om
   refine⟨by simp[X8],[.bool true],⟨?_,trivial⟩,by simp[Zc4],by rw[hall];rfl,by rw[hall];rfl⟩;exact xS
termination_by SizeOf.sizeOf t
decreasing_by exact Tm.Y2 (Qa h)
def ZwE{l:Nat}{p:Tm→Bool}{H0:Za}(hY:Zso prog x l p S H0)(hS:∀k b,S k=some b→b.Below (x+1))(t:Tm)(ht:t.Good)(n:Nat)(H:Za)(hx:x<n)(hH:∀l' k,l'≤x→H l' k=H0 l' k):
  Zi prog n 163 [.fn (.yield l) [],.iptr t.cs] H fun r H1=>H1=if t.all p then H else H.YS x S:=by
 refine aF func163 fun B=>?_
 have hf:∀(L:List (Nat×Ze)) (l' k:Nat),l'≤x→full n L H l' k=H0 l' k:=fun L l' k h=>by
  simp only[full];rw[if_neg om];exact hH l' k h
 refine nR ?_;refine YT (caps:=[]) (avs:=[t.enc,.fn (.yield l) []]) rfl (Zf func164 rfl rfl) (by rw[Qs];exact a145 hY hS t ht (n+1) _ (show x<n+1 by omega) (hf _)) sS ?_;rintro _ _ ⟨rfl,rfl⟩;refine⟨[],if t.all p then H else H.YS x S,?_,?_,?_⟩
 ·split
  ·rfl
  ·rw[VB (show x≠n by omega)]
 ·split
  ·exact .refl _ _
  ·exact Js hx hS
 refine gO ?_;exact⟨by simp[X8],[],trivial,sm,rfl⟩
def Zu9(t:Tm):Pure prog 104 [t.enc] (.fn (.func 163) [.iptr t.cs]):=by
 intro n H;refine aF func104 fun B=>?_
 refine nR ?_;refine Ya 1 t.cs [(1,.iptr t.cs)] rfl ?_ ?_ trivial ?_
 ·exact⟨.int _ _,.int _ _,.str _,Tm.Zf6 _ _,trivial⟩
 ·exact⟨.inr ⟨0,rfl,rfl⟩,trivial⟩
 refine ge ?_;refine Zc ?_ (.fn _ _ fun i hi=>?_) rfl
 ·exact xS
 ·have:i=0:=by simp at hi;exact hi
  subst this;have hb:=(t.blw n)
  rw[Tm.VJ]at hb;cases hb with
  |agg _ hb=>exact .iptr _ hb
def ZkH{G:Za}(h1:∀k,G n k=S k)(h2:∀l k,l≠n→G l k=H l k):G=H.YS n S:=by
 funext l k;simp only[Za.YS];split
 ·rename_i e;subst e;exact h1 k
 ·rename_i e;exact h2 l k e
def Zlo{y:Nat}{b b':Ze}(h:H n y=some b):(H.upd n y b').upd n y b=H:=by
 funext l k;simp only[Za.upd];split
 ·rename_i e;rw[e.1,e.2,h]
 ·rfl
def Zr3{B:Base}{N:Nat}{g:Operand}{v:Nat}{c d:Code}{k:List Itm}{Q:Exit→Zb→Prop}{tm:List (Nat×AV)}{L:List (Nat×Ze)}(y:Nat)(t:Tm)(ht:t.Good)(p:Tm→Bool)(L2:List (Nat×Ze))
  (hc:c= .rangeFunc g #[v] c.fst c.snd) (hg:evT tm g= .fn (.func 163) [.iptr t.cs]) (hy:lkb L y=none) (hv:v<N)
  (hb:∀l,Yg (fun q=>q.2.Below (n+1)) (setb L2 y (.lrec l N 0 tm #[v] c.fst c.snd .done (some d))))
  (hbody:∀l m B' (t':Tm) H',t'.Good→n<m→(∀j,H' n j=lkb (setb L y (.lrec l N 0 tm #[v] c.fst c.snd .ready none)) j)→(∀l' j,l'<n→H' l' j=H l' j)→
   AKc ⟨prog,tt,⟨some l,B'⟩,m,N⟩ [.code c.fst] (fun e s=>e= .normal∧s.H n y=some (.lrec l N 0 tm #[v] c.fst c.snd .ready none)∧
    AKc ⟨prog,tt,⟨some l,B'⟩,m,N⟩ [.code c.snd] (Zjf (fun r H1=>r= .bool (p t')∧H1=if p t' then H' else H'.YS n (lkb (setb L2 y (.lrec l N 0 tm #[v] c.fst c.snd .done (some d))))) n y l N 0 tm #[v] c.fst c.snd)
     ⟨s.tmps,s.L,s.H.upd n y (.lrec l N 0 tm #[v] c.fst c.snd .busy none)⟩) ⟨(v,t'.enc)::tm,[],H'⟩)
  (hgo:∀l,t.all p=true→AKc ⟨prog,tt,⟨none,B⟩,n,N⟩ k Q ⟨tm,setb L y (.lrec l N 0 tm #[v] c.fst c.snd .exhausted none),H⟩)
  (hstop:∀l,t.all p=false→AKc ⟨prog,tt,⟨none,B⟩,n,N⟩ (.code d::k) Q ⟨tm,setb L2 y (.lrec l N 0 tm #[v] c.fst c.snd .exhausted (some d)),H⟩):
  AKc ⟨prog,tt,⟨none,B⟩,n,N⟩ (.code c::k) Q ⟨tm,L,H⟩:=by
 refine Ze5 (caps:=[.iptr t.cs]) y hc hg (Zf func163 rfl rfl) hy fun l=>?_
 refine⟨_,ZwE (x:=n) (l:=l) (p:=p) (S:=lkb (setb L2 y (.lrec l N 0 tm #[v] c.fst c.snd .done (some d)))) (H0:=full n (setb L y (.lrec l N 0 tm #[v] c.fst c.snd .ready none)) H) ?_ (fun j b h=>(hb l).mem _ (lkb_mem h)) t ht (n+1) _ (Qr n) (fun _ _ _=>rfl),?_⟩
 ·intro m H' t' ht' hm hag;have hlv:∀j,H' n j=lkb (setb L y (.lrec l N 0 tm #[v] c.fst c.snd .ready none)) j:=fun j=>by
   rw[hag n j (Qg _)];simp only[full,if_true]
  refine ZhH tt (x:=n) (y:=y) (by rw[hlv y,lkb_setb,if_pos rfl]) hm rfl (by simpa using hv) fun B'=>hbody l m B' t' H' ht' hm hlv (fun l' j h=>by rw[hag l' j (MP h)];simp only[full];rw[if_neg om])
 ·rintro r H1 rfl;cases hall:t.all p with
  |true=>exact⟨_,H,.ready,none,rfl,.refl _ _,by rw[lkb_setb,if_pos rfl],sm,by
    have:setb (setb L y (.lrec l N 0 tm #[v] c.fst c.snd .ready none)) y (.lrec l N 0 tm #[v] c.fst c.snd .exhausted none)=setb L y (.lrec l N 0 tm #[v] c.fst c.snd .exhausted none):=setb_setb _ _ _ _;simp only[this];exact hgo l hall⟩
  |false=>
   refine⟨setb L2 y (.lrec l N 0 tm #[v] c.fst c.snd .done (some d)),H,.done,some d,?_,.refl _ _,by rw[lkb_setb,if_pos rfl],sm,by
    simp only[setb_setb];exact hstop l hall⟩
   simp only[QW,if_false];funext l' j;simp only[Za.YS,full];by_cases e:l'=n
   ·rw[if_pos e,if_pos e]
   ·rw[if_neg e,if_neg e,if_neg e]
end
def nargs(t:Tm)(lo hi:Int):Bool:=decide (lo≤(t.args.length:Int))&&decide ((t.args.length:Int)≤hi)
def Zmc(t:Tm)(lo hi:Int):Pure prog 168 [t.enc,.int .i64 lo,.int .i64 hi] (.bool (nargs t lo hi)):=by
 intro n H;refine aF func168 fun B=>?_
 refine nR ?_;cases h:decide (lo≤(t.args.length:Int));all_goals
  refine nr ?_;refine aq h ?_;refine nV ?_;refine Zc ?_ (.bool _) rfl;simp only[go_sem,simprocAttr,nargs,h];exact .refl _
def named(t:Tm):Bool:=(t.num==0)&& !(t.name==[])
def ZvG(t:Tm):Pure prog 167 [.iptr t.cs] (.bool (decide (-2147483647≤t.num)&&decide (t.num≤2147483647)&&(t.name==[])&&nargs t 0 0)):=by
 intro n H;refine aF func167 fun B=>?_
 refine nR ?_;cases h1:decide (-2147483647≤t.num)with
 |false=>
  refine nq h1 ?_;exact pB
 |true=>
  cases h2:decide (t.num≤2147483647)with
  |false=>
   refine nq2 h1 h2 ?_;exact pB
  |true=>
   cases h3:(t.name==[])with
   |false=>
    refine nq3 h1 h2 h3 ?_;exact pB
   |true=>
    refine nq3 h1 h2 h3 ?_;refine cP (Zmc t 0 0) ?_;exact pB
def a148(t:Tm)(ht:t.Good):Pure prog 169 [.iptr [.bool (named t)],.iptr t.cs] (.bool (named t&&sym t.name&&nargs t 0 0)):=by
 intro n H;have hs:=ht.name;refine aF func169 fun B=>?_
 refine nR ?_;cases h1:named t with
 |false=>
  refine nq h1 ?_;exact pB
 |true=>
  refine nq h1 ?_;refine cP (a45 t.name om) ?_;cases h2:sym t.name with
  |false=>
   refine aS ?_;exact pB
  |true=>
   refine aS ?_;refine cP (Zmc t 0 0) ?_;exact pB
def Zwm(t:Tm)(ht:t.Good):Pure prog 170 [.iptr [.bool (named t)],.iptr t.cs] (.bool (named t&&ZeX t.name&&nargs t 0 0)):=by
 intro n H;have hs:=ht.name;refine aF func170 fun B=>?_
 refine nR ?_;cases h1:named t with
 |false=>
  refine nq h1 ?_;exact pB
 |true=>
  refine nq h1 ?_;refine cP (ZvL t.name om) ?_;cases h2:ZeX t.name with
  |false=>
   refine aS ?_;exact pB
  |true=>
   refine aS ?_;refine cP (Zmc t 0 0) ?_;exact pB
def ZvY(t:Tm)(ht:t.Good):Pure prog 172 [.iptr [.bool (named t)],.iptr t.cs] (.bool (named t&&sym t.name&&nargs t 1 8)):=by
 intro n H;have hs:=ht.name;refine aF func172 fun B=>?_
 refine nR ?_;cases h1:named t with
 |false=>
  refine nq h1 ?_;exact pB
 |true=>
  refine nq h1 ?_;refine cP (a45 t.name om) ?_;cases h2:sym t.name with
  |false=>
   refine aS ?_;exact pB
  |true=>
   refine aS ?_;refine cP (Zmc t 1 8) ?_;exact pB
def sMinus:List UInt8:=[45]
def a152(t:Tm)(o:Bool):Pure prog 173 [.iptr [.bool (named t)],.iptr [.bool o],.iptr t.cs] (.bool (named t&&o&&(nargs t 2 2||(t.name==sMinus)&&nargs t 1 1))):=by
 intro n H;refine aF func173 fun B=>?_
 refine nR ?_;cases h1:named t with
 |false=>
  refine nq h1 ?_;exact pB
 |true=>
  cases h2:o with
  |false=>
   refine nq2 h1 h2 ?_;exact pB
  |true=>
   refine nq2 h1 h2 ?_;refine cP (Zmc t 2 2) ?_;cases h3:nargs t 2 2 with
   |true=>
    refine aS ?_;refine YG rfl rfl ?_;refine Zc ?_ (.bool _) rfl;try simp only[go_sem,simprocAttr,UR]
    exact .refl _
   |false=>
    cases h4:(t.name==sMinus)with
    |false=>
     refine aq (show(t.name==[45])=false from h4) ?_;refine YG rfl rfl ?_;refine Zc ?_ (.bool _) rfl;try simp only[go_sem,simprocAttr,U5]
     exact .refl _
    |true=>
     refine aq (show(t.name==[45])=true from h4) ?_;refine cP (Zmc t 1 1) ?_;refine YG rfl rfl ?_;refine Zc ?_ (.bool _) rfl;try simp only[go_sem,simprocAttr,U5]
     exact .refl _
def Zv6(t:Tm):Pure prog 174 [.iptr t.cs] (.bool ((t.num==0)&&(t.name==[])&&nargs t 2 2)):=by
 intro n H;refine aF func174 fun B=>?_
 refine nR ?_;cases h1:(t.num==0)with
 |false=>
  refine nq h1 ?_;exact pB
 |true=>
  cases h2:(t.name==[])with
  |false=>
   refine nq2 h1 h2 ?_;exact pB
  |true=>
   refine nq2 h1 h2 ?_;refine cP (Zmc t 2 2) ?_;exact pB
end Go.Proofs.YtmdeagmbfhbbnaaGreatDoorR

namespace Go.Proofs
open Go.Shelf
def Tryz.lays156_ren:Go.Shelf.Ren:=⟨fun|156=>117|165=>178|166=>179|169=>180|240=>218|241=>219|276=>247|277=>248|n=>n,fun|31=>35|9=>9|3=>3|4=>4|0=>0|20=>20|72=>211|76=>214|70=>209|37=>207|75=>213|127=>243|164=>272|5=>5|80=>168|n=>n,fun|n=>n⟩
def Tryz.lays156:Go.Proofs.Lays.n156 prog Tryz.lays156_ren:=by
 repeat' first|kernel_rfl|exact bO|(intro w;kernel_rfl)|constructor
def Tryz.Builder_Extra_156:Builder.Extra prog Tryz.lays156_ren:={
 sizeBuilder:=by kernel_rfl
 liesBuilder:=by kernel_rfl
 t5:=Tryz.underlying5
 a5:=Tryz.isAgg5
 z5:=Tryz.sizeOf5
 v5:=Tryz.zeroValue5
 infoByte:=by kernel_rfl
 cellsByte:=by kernel_rfl
 sizeByte:=by kernel_rfl
 neB5:=by decide}
def Tryz.lays106_ren:Go.Shelf.Ren:=⟨fun|106=>114|213=>177|265=>217|n=>n,fun|9=>9|3=>3|n=>n,fun|n=>n⟩
def Tryz.lays106:Go.Proofs.Lays.n106 prog Tryz.lays106_ren:=by
 repeat' first|kernel_rfl|exact bO|(intro w;kernel_rfl)|constructor
def Tryz.laysM171_ren:Go.Shelf.Ren:=⟨fun|171=>122|243=>182|246=>221|283=>250|284=>251|285=>252|286=>253|129=>151|317=>274|318=>275|319=>276|320=>277|337=>289|338=>290|n=>n,fun|3=>3|9=>9|2=>2|4=>4|171=>276|0=>0|53=>196|37=>207|5=>5|173=>278|212=>292|51=>194|20=>20|213=>293|46=>144|232=>311|233=>312|n=>n,fun|17=>1|18=>4|19=>5|n=>n⟩
def Tryz.laysM171:Go.Proofs.LaysM.n171 prog Tryz.laysM171_ren:=by
 repeat' first|kernel_rfl|exact bO|(intro w;kernel_rfl)|constructor
def Tryz.lays144_ren:Go.Shelf.Ren:=⟨fun|144=>166|143=>213|219=>245|217=>270|225=>271|224=>272|267=>273|266=>287|314=>288|n=>n,fun|9=>9|4=>4|3=>3|5=>5|46=>144|146=>299|51=>194|n=>n,fun|1=>0|n=>n⟩
def Tryz.lays144:Go.Proofs.Lays.n144 prog Tryz.lays144_ren:=by
 repeat' first|kernel_rfl|exact bO|(intro w;kernel_rfl)|constructor
end Go.Proofs

namespace Go.Proofs.YtmdeagmbfhbbnaaGreatDoorR
open Go.Abs
section
variable {E:Env}
def _root_.Go.Abs.Zt.below{n:Nat}{H:Za}{w w':World}(h:Zt n H E w)(hb:Go.RowKit.Below w.heap.size w w')(hd:E.qd=true→w.drawn≤w'.drawn):Zt n H E w'∧Ext n E w E w':=
 h.grow (F':=E.F) hb.os hb.tape hb.output hd hb.size (fun b hlt=>hb.block b hlt) (fun _ _ _ h=>h) (fun b o v hf=>by
  have hlt:=h.ZcB hf;have:=h.F b o v hf;simp only[World.cell?,hb.block b hlt]at this⊢;exact this) (fun _ _ _=>rfl)
variable {r:AV} {args:List AV} {f:FuncId}
def ZoZ{P:Program}(h:∀E w vs,VRs E args vs→ ∃v,VR E r v∧Calls P f vs.toArray w fun e w'=>e= .returned v∧w'=w):Pure P f args r:=fun n H E w vs hr hv=>by
 obtain⟨v,h1,h2⟩:=h E w vs hv;refine h2.mono ?_;rintro e w' ⟨rfl,rfl⟩;exact⟨r,v,H,E,rfl,⟨rfl,rfl⟩,h1,hr,.refl _ _ _⟩
def Tabs(H:Za):Prop:=∃m t t',H 0 0=some (.var 0 t [.int .i64 m])∧H 0 1=some (.var 1 t' (Lib.pow10Tab.map (.int .u64)))
def ZR(P:Program)(f:FuncId)(args:List AV)(r:AV):Prop:=∀n H,0<n→Tabs H→PC P n f args H r
def Abs.Pure.tabs{P:Program}(h:Pure P f args r):ZR P f args r:=fun n H _ _=>h n H
def Tabs.full{n:Nat}{L:List (Nat×Ze)}{H:Za}(h:Tabs H)(hn:0<n):Tabs (full n L H):=by
 obtain⟨m,t,t',h1,h2⟩:=h;refine⟨m,t,t',?_,?_⟩<;>simp only[Abs.full]<;>rw[if_neg om]<;>assumption
variable {avs:List AV} {F:Zb→Prop} {ts:List TypeId}
def Zf9{cx:Cx}{dr:Bool}{o:Oper}{args:List Operand}{s:Zb}{fn:Func}{c:Code}(hf:Fun cx.P f fn c)
  (h:ZR cx.P f avs r) (hn:0<cx.n) (hT:Tabs s.H) (ha:Yn cx.T (evT s.tmps) args ts=avs) (hF:F ⟨Yk s.tmps o.dst r,s.L,s.H⟩):WO cx dr o (.func f) args ts s F:=
 Zlq hf rfl (by rw[Qs,ha];exact h _ _ (QO _) (hT.full hn)) hF
def cT{cx:Cx}{dr:Bool}{o:Oper}{args:List Operand}{ts:List TypeId}{s:Zb}{F:Zb→Prop}{p:Prop}(h:ZR cx.P f avs r)(hk:p)(h0:0<cx.n:=by first|exact hn|exact QO _)(h1:Tabs s.H:=by first|exact hT|exact hTW)(hx:isFun cx.P f=true:=by kernel_rfl)(ha:Yn cx.T (evT s.tmps) args ts=avs:=by exact rfl)(e:F ⟨Yk s.tmps o.dst r,s.L,s.H⟩=p:=by simp only[go_sem,simprocAttr];exact rfl):WO cx dr o (.func f) args ts s F:=by
 obtain⟨fn,c,hf⟩:=Zdg hx;exact Zf9 hf h h0 h1 ha (e▸hk)
def a50(a b:List UInt8):Pure prog 114 [.str a,.str b] (.int .i64 (Lib.compareBytes a b)):=ZoZ fun E w vs hv=>by
 obtain⟨v1,r1,rfl,h1,hv⟩:=hv.YW;obtain⟨v2,r2,rfl,h2,hv⟩:=hv.YW;rw[hv.of_nil];cases h1;cases h2;exact⟨_,.int _ _,Any.strings_Compare Tryz.lays106 ⟨a.toArray⟩ ⟨b.toArray⟩ w⟩
def Zey{n:Nat}{H:Za}{w:World}{l k b:Nat}{t:TypeId}{cs:List AV}(hr:Zt n H E w)(hl:l<n)(h:H l k=some (.var b t cs)):E.qd=false∧ ∃c,w.heap[b]? =some (.cells c t (0,0))∧VRs E cs c.toList:=by
 obtain⟨h1,_,h2⟩:=hr.blk l k _ hl h;exact⟨h1,h2⟩
def a146(s sub:List UInt8)(hs:s.length<4294967281):ZR prog 166 [.str s,.str sub] (.bool (Lib.contains s sub)):=fun n H hn hT E w vs hr hv=>by
 obtain⟨m,t,t',hm,_⟩:=hT;obtain⟨v1,r1,rfl,h1,hv⟩:=hv.YW;obtain⟨v2,r2,rfl,h2,hv⟩:=hv.YW;rw[hv.of_nil];cases h1;cases h2;obtain⟨_,c,hc,hcv⟩:=Zey hr hn hm;obtain⟨x,r,hx,hxv,hrn⟩:=hcv.YW;have hcell:w.cell? ⟨0,0,none⟩=some (.int .i64 m):=by
  cases hxv;simp only[World.cell?,hc];have:c= #[.int .i64 m]:=by
   rw[hrn.of_nil]at hx;exact Qau.1 hx
  rw[this];rfl
 refine(Any.strings_Contains Tryz.lays144 ⟨s.toArray⟩ ⟨sub.toArray⟩ m w (by show s.toArray.size<_;simpa using hs) hcell).mono ?_;rintro e w' ⟨rfl,rfl⟩;exact⟨_,_,H,E,rfl,⟨rfl,rfl⟩,.bool _,hr,.refl _ _ _⟩
def VRs.ZsJ{E:Env}:∀{l:List Int} {vs:List Value},VRs E (l.map (.int .u64)) vs→vs=l.map (Value.int .u64)
 |[],vs,h=>h.of_nil
 |x::l,vs,h=>by
  obtain⟨v,r,rfl,h1,h2⟩:=VRs.YW h;cases h1;rw[VRs.ZsJ h2];rfl
def Ztx(i:Int)(h0:-9223372036854775808≤i)(h1:i≤9223372036854775807):ZR prog 122 [.int .i64 i] (.str (Lib.itoa i)):=fun n H hn hT E w vs hr hv=>by
 obtain⟨m,t,t',_,hm⟩:=hT;obtain⟨v1,r1,rfl,hv1,hv⟩:=hv.YW;rw[hv.of_nil];cases hv1;obtain⟨hq,c,hc,hcv⟩:=Zey hr hn hm;have hg:prog.globalNamed (Rows.joinSortedRow.named.getD 3 default)=some 1:=by kernel_rfl
 have htab:Lib.TabIs prog w (Rows.joinSortedRow.named.getD 3 default) .u64 Lib.pow10Tab:=by
  simp only[Lib.TabIs,World.var?,hg,UJ,hc];exact congrArg some (Qau.1 (VRs.ZsJ hcv))
 refine(Any.strconv_Itoa Tryz.laysM171 i h0 h1 w htab).mono ?_;rintro e w' ⟨rfl,k,os,rfl⟩;obtain⟨hh,hx⟩:=hr.below (w':=Sort.grow (w.drewN k) os) ⟨rfl,rfl,rfl,by simp[Sort.grow,World.drewN],fun b hb=>by simp[Sort.grow,World.drewN,QbD,hb]⟩ (fun hq'=>by rw[hq]at hq';cases hq');exact⟨_,_,H,E,rfl,⟨rfl,rfl⟩,.str _,hh,hx⟩
def ZrZ{b off:Nat}:∀(xs:List (List UInt8)) (c:Nat→Nat→Value),(∀i (h:i<(xs.map AV.str).length) j (h':j<((xs.map AV.str)[i]).cells.length),VR E ((xs.map AV.str)[i]).cells[j] (c i j))→
  ∀j x,(xs.map fun s=>(⟨s.toArray⟩:ByteArray))[j]? =some x→c j 0= .string x:=fun xs c h j x hx=>by
 rw[Ua,Ur]at hx;obtain⟨s,hs,rfl⟩:=hx;obtain⟨hj,rfl⟩:=Ub.1 hs;have:=h j (by simpa using hj) 0 (by simp[AV.cells]);simp only[QN,AV.cells,Uh]at this;generalize c j 0=y at this;cases this;rfl
def a92(xs:List (List UInt8))(sep:List UInt8)(o:Own)(hN:xs.length≤140737488355328)(hl:(Lib.join xs sep).length≤140737488355328):ZR prog 117 [.sl 1 (xs.map .str) o,.str sep] (.str (Lib.join xs sep)):=fun n H hn hT E w vs hr hv=>by
 obtain⟨m,t,t',_,hm⟩:=hT;obtain⟨v1,r1,rfl,hv1,hv⟩:=hv.YW;obtain⟨v2,r2,rfl,hv2,hv⟩:=hv.YW;rw[hv.of_nil];cases hv2;obtain⟨hq,_⟩:=Zey hr hn hm;have fin:∀w',Go.RowKit.Below w.heap.size w w'→ ∃r v H' E',Ending.returned (.string ⟨(Lib.join xs sep).toArray⟩)= .returned v∧(r= .str (Lib.join xs sep)∧H'=H)∧VR E' r v∧Zt n H' E' w'∧Ext n E w E' w':=fun w' hb=>by
  obtain⟨hh,hx⟩:=hr.below hb (fun hq'=>by rw[hq]at hq';cases hq');exact⟨_,_,H,E,rfl,⟨rfl,rfl⟩,.str _,hh,hx⟩
 cases hx:xs with
 |nil=>
  subst hx;have hnone:∀a c,Calls prog 117 #[.slice a 0 c,.string ⟨sep.toArray⟩] w fun e w'=>∃r v H' E',e= .returned v∧(r= .str (Lib.join [] sep)∧H'=H)∧VR E' r v∧Zt n H' E' w'∧Ext n E w E' w':=fun a c=>
   (Any.strings_Join_none Tryz.lays156 Tryz.Builder_Extra_156 a c ⟨sep.toArray⟩ w).mono fun e w' ⟨he,hw⟩=>by
    subst hw;rw[he];exact fin _ (Go.RowKit.Below.refl _ _)
  generalize hxs:AV.sl 1 (List.map AV.str []) o=av at hv1;cases hv1<;>cases hxs
  ·exact hnone _ _
  ·exact hnone _ _
 |cons x r=>
  rw[hx]at hv1 hN hl fin;generalize hxs:AV.sl 1 (List.map AV.str (x::r)) o=av at hv1;cases hv1<;>cases hxs;rename_i b off cap c hv' hcap hml hk hc ho;have hcell:∀i,i<(x::r).length→w.cell? ⟨b,off+i,none⟩=some (c i 0):=fun i hi=>by
   have:=hr.F _ _ _ (hc i 0 (by simpa using hi) om);simpa using this
  have hlen:(List.map AV.str (x::r)).length=((x::r).map fun s=>(⟨s.toArray⟩:ByteArray)).length:=sm;have hmm:((x::r).map fun s=>(⟨s.toArray⟩:ByteArray)).map (·.data.toList)=x::r:=by
   rw[QbN];exact(MH (g:=fun s=>s) (fun s _=>by simp)).trans (Qa3 _)
  have hj:=Any.strings_Join Tryz.lays156 Tryz.Builder_Extra_156 b off cap ((x::r).map fun s=>(⟨s.toArray⟩:ByteArray)) ⟨sep.toArray⟩ w (fun j y hy=>by
   have hlt:j<(x::r).length:=by
    have:=(Ub.1 hy).1;simpa using this
   rw[hcell j hlt,ZrZ (b:=b) (off:=off) _ c hv' j y hy]) (hr.ZcB (hc 0 0 sm om)) (by simpa using hN) (by simpa using hcap) (by rw[hmm];exact hl)
  rw[hmm]at hj;rw[hlen];refine Calls.mono hj ?_;rintro e w' ⟨rfl,hb⟩;exact fin w' hb
end
def sOps:List UInt8:=[43,45,42,47,92]
def oper(t:Tm):Bool:=Lib.contains sOps t.name&&((t.name.length:Int)==1)
def shape(t:Tm):Bool:=
 if t.kind=1 then decide (-2147483647≤t.num)&&decide (t.num≤2147483647)&&(t.name==[])&&nargs t 0 0
 else if t.kind=2 then named t&&sym t.name&&nargs t 0 0
 else if t.kind=4 then named t&&sym t.name&&nargs t 1 8
 else if t.kind=3 then named t&&ZeX t.name&&nargs t 0 0
 else if t.kind=5 then named t&&oper t&&(nargs t 2 2||(t.name==sMinus)&&nargs t 1 1)
 else if t.kind=6 then(t.num==0)&&(t.name==[])&&nargs t 2 2
 else false
def a107(t:Tm)(ht:t.Good):ZR prog 110 [t.enc] (.bool (shape t)):=by
 intro n H hn hT;have hs:=ht.name;refine aF func110 fun B=>?_
 refine gh ?_;refine WM ⟨[(3,.ptr n 3 0),(2,.bool false),(1,.ptr n 1 0)],[(1,.box t.cs),(3,.box [.bool (named t)])],H⟩ ?_ ?_
 ·cases h1:(t.num==0);all_goals
   refine nq h1 ?_;refine nN ?_;refine⟨rfl,?_⟩;apply kZ;repeat' first|apply q0|exact xx|apply aI
   simp only[go_sem,simprocAttr,named,h1,bne]
 refine kK ?_;refine WM ⟨[(4,.ptr n 4 0),(3,.ptr n 3 0),(2,.bool false),(1,.ptr n 1 0)],[(1,.box t.cs),(3,.box [.bool (named t)]),(4,.box [.bool (oper t)])],H⟩ ?_ ?_
 ·refine nR ?_;refine cT (a146 [43,45,42,47,92] t.name dc) ?_;cases h1:Lib.contains [43,45,42,47,92] t.name;all_goals
   try simp only[go_sem,simprocAttr]
   refine nN ?_;refine⟨rfl,?_⟩;apply kZ;repeat' first|apply q0|exact xx|apply aI
   simp only[go_sem,simprocAttr,oper,sOps,h1]
 refine kK ?_;refine Ya 1 t.cs [(4,.ptr n 4 0),(3,.ptr n 3 0),(2,.bool false),(1,.iptr t.cs)] rfl ?_ ?_ ?_ ?_
 ·exact⟨.int _ _,.int _ _,.str _,Tm.Zf6 _ _,trivial⟩
 ·exact⟨.inl ⟨.refl _,.ptr _ _ _ (.inr ⟨rfl,dc⟩)⟩,.inl ⟨.refl _,.ptr _ _ _ (.inr ⟨rfl,dc⟩)⟩,.inl ⟨.refl _,.bool _⟩,.inr ⟨0,rfl,rfl⟩,trivial⟩
 ·exact⟨Ze.Zy ⟨.bool _,trivial⟩,Ze.Zy ⟨.bool _,trivial⟩,trivial⟩
 refine Ya 3 [.bool (named t)] [(4,.ptr n 4 0),(3,.iptr [.bool (named t)]),(2,.bool false),(1,.iptr t.cs)] rfl ?_ ?_ ?_ ?_
 ·exact⟨.bool _,trivial⟩
 ·exact⟨.inl ⟨.refl _,.ptr _ _ _ (.inr ⟨rfl,dc⟩)⟩,.inr ⟨0,rfl,rfl⟩,.inl ⟨.refl _,.bool _⟩,.inl ⟨.refl _,Below.inside (Zq t.bcs)⟩,trivial⟩
 ·exact⟨Ze.Zy ⟨.bool _,trivial⟩,trivial⟩
 refine Ya 4 [.bool (oper t)] [(4,.iptr [.bool (oper t)]),(3,.iptr [.bool (named t)]),(2,.bool false),(1,.iptr t.cs)] rfl ?_ ?_ trivial ?_
 ·exact⟨.bool _,trivial⟩
 ·exact⟨.inr ⟨0,rfl,rfl⟩,.inl ⟨.refl _,Below.inside (Zq ⟨.bool _,trivial⟩)⟩,.inl ⟨.refl _,.bool _⟩,.inl ⟨.refl _,Below.inside (Zq t.bcs)⟩,trivial⟩
 refine nr ?_;simp only[go_sem,simprocAttr,ZaN,XB,XW,AV.kls,klAll,AV.kl,Um,Ql,forall_eq_or_imp,QA,KL.int.injEq,Uf,Qv,Int.reduceEq,false_and,and_false,not_false_eq_true];by_cases k1:t.kind=1
 ·refine nr ?_;simp only[go_sem,simprocAttr,lookA,XB,XW,AV.kls,klAll,AV.kl,Um,Ql,forall_eq_or_imp,QA,KL.int.injEq,Uf,Qv,eq_true k1,true_and,and_true,false_and];refine nr ?_;simp only[go_sem,simprocAttr,bne];refine YE (avs:=[]) rfl (Zf func167 rfl rfl) (ZvG t _ _) rfl ?_;simp only[go_sem,simprocAttr];refine nV ?_;refine Zc ?_ (.bool _) rfl;rw[shape];simp only[k1,reduceIte,Int.reduceEq];simp only[go_sem,simprocAttr]
  first|exact .refl _|(simp;exact .refl _)
 by_cases k2:t.kind=2
 ·refine nr ?_;simp only[go_sem,simprocAttr,lookA,XB,XW,AV.kls,klAll,AV.kl,Um,Ql,forall_eq_or_imp,QA,KL.int.injEq,Uf,Qv,eq_false k1,eq_true k2,true_and,and_true,false_and];refine nr ?_;simp only[go_sem,simprocAttr,bne];refine YE (avs:=[]) rfl (Zf func169 rfl rfl) (a148 t ht _ _) rfl ?_;simp only[go_sem,simprocAttr];refine nV ?_;refine Zc ?_ (.bool _) rfl;rw[shape];simp only[k1,k2,reduceIte,Int.reduceEq];simp only[go_sem,simprocAttr]
  first|exact .refl _|(simp;exact .refl _)
 by_cases k3:t.kind=3
 ·refine nr ?_;simp only[go_sem,simprocAttr,lookA,XB,XW,AV.kls,klAll,AV.kl,Um,Ql,forall_eq_or_imp,QA,KL.int.injEq,Uf,Qv,eq_false k1,eq_false k2,eq_true k3,true_and,and_true,false_and];refine nr ?_;simp only[go_sem,simprocAttr,bne];refine YE (avs:=[]) rfl (Zf func170 rfl rfl) (Zwm t ht _ _) rfl ?_;simp only[go_sem,simprocAttr];refine nV ?_;refine Zc ?_ (.bool _) rfl;rw[shape];simp only[k1,k2,k3,reduceIte,Int.reduceEq];simp only[go_sem,simprocAttr]
  first|exact .refl _|(simp;exact .refl _)
 by_cases k4:t.kind=4
 ·refine nr ?_;simp only[go_sem,simprocAttr,lookA,XB,XW,AV.kls,klAll,AV.kl,Um,Ql,forall_eq_or_imp,QA,KL.int.injEq,Uf,Qv,eq_false k1,eq_false k2,eq_false k3,eq_true k4,true_and,and_true,false_and];refine nr ?_;simp only[go_sem,simprocAttr,bne];refine YE (avs:=[]) rfl (Zf func172 rfl rfl) (ZvY t ht _ _) rfl ?_;simp only[go_sem,simprocAttr];refine nV ?_;refine Zc ?_ (.bool _) rfl;rw[shape];simp only[k1,k2,k3,k4,reduceIte,Int.reduceEq];simp only[go_sem,simprocAttr]
  first|exact .refl _|(simp;exact .refl _)
 by_cases k5:t.kind=5
 ·refine nr ?_;simp only[go_sem,simprocAttr,lookA,XB,XW,AV.kls,klAll,AV.kl,Um,Ql,forall_eq_or_imp,QA,KL.int.injEq,Uf,Qv,eq_false k1,eq_false k2,eq_false k3,eq_false k4,eq_true k5,true_and,and_true,false_and];refine nr ?_;simp only[go_sem,simprocAttr,bne];refine YE (avs:=[]) rfl (Zf func173 rfl rfl) (a152 t (oper t) _ _) rfl ?_;simp only[go_sem,simprocAttr];refine nV ?_;refine Zc ?_ (.bool _) rfl;rw[shape];simp only[k1,k2,k3,k4,k5,reduceIte,Int.reduceEq];simp only[go_sem,simprocAttr]
  first|exact .refl _|(simp;exact .refl _)
 by_cases k6:t.kind=6
 ·refine nr ?_;simp only[go_sem,simprocAttr,lookA,XB,XW,AV.kls,klAll,AV.kl,Um,Ql,forall_eq_or_imp,QA,KL.int.injEq,Uf,Qv,eq_false k1,eq_false k2,eq_false k3,eq_false k4,eq_false k5,eq_true k6,true_and,and_true,false_and];refine nr ?_;simp only[go_sem,simprocAttr,bne];refine YE (avs:=[]) rfl (Zf func174 rfl rfl) (Zv6 t _ _) rfl ?_;simp only[go_sem,simprocAttr];refine nV ?_;refine Zc ?_ (.bool _) rfl;rw[shape];simp only[k1,k2,k3,k4,k5,k6,reduceIte,Int.reduceEq];simp only[go_sem,simprocAttr]
  first|exact .refl _|(simp;exact .refl _)
 refine nr ?_;simp only[go_sem,simprocAttr,lookA,XB,XW,AV.kls,klAll,AV.kl,Um,Ql,forall_eq_or_imp,QA,KL.int.injEq,Uf,Qv,eq_false k1,eq_false k2,eq_false k3,eq_false k4,eq_false k5,eq_false k6,XP];refine nr ?_;simp only[go_sem,simprocAttr,bne];refine nV ?_;refine Zc ?_ (.bool _) rfl;rw[shape];simp only[k1,k2,k3,k4,k5,k6,reduceIte];simp only[go_sem,simprocAttr];exact .refl _
def Tabs.up{G H:Za}(h:Tabs H)(hG:∀k,G 0 k=H 0 k):Tabs G:=by
 obtain⟨m,t,t',h1,h2⟩:=h;exact⟨m,t,t',(hG 0).trans h1,(hG 1).trans h2⟩
def ZlO(f:Nat)(caps:List AV)(p:Tm→Bool):Prop:=(∃fn c,Fun prog f fn c)∧ ∀t:Tm,t.Good→ZR prog f (t.enc::caps) (.bool (p t))
def a71(t:Tm)(ht:t.Good)(f:Nat)(p:Tm→Bool)(hp:ZlO f [] p):ZR prog 60 [t.enc,.fn (.func f) []] (.bool (t.all p)):=by
 intro n H hn hT;obtain⟨⟨fn,c,hf⟩,hp⟩:=hp;refine aF func60 fun B=>?_
 refine gc ?_;refine cP (Zu9 t) ?_;refine kK ?_;refine Zr3 (d:=.ret) 100 t ht p [(2,.box t.cs),(3,.box [.fn (.func f) []]),(4,.box [.bool false])] rfl rfl rfl sm (fun l=>?_) ?_ ?_ ?_
 ·have hb:∀k,Below k (.fn (.func f) []):=fun k=>.fn _ _ fun i h=>absurd h (Qo _)
  have ht:∀k,Yg (fun c=>Below k c) t.cs:=fun k=>⟨.int _ _,.int _ _,.str _,ZB (mB fun u=>u.blw k),trivial⟩
  refine⟨Ze.ZC (ht _),Ze.ZC ⟨hb _,trivial⟩,Ze.ZC ⟨.bool _,trivial⟩,Ze.Za4 ?_,trivial⟩;refine⟨.fn _ _ (fun i hi=>?_),t.blw _,.ptr _ _ _ (Qr n),.ptr _ _ _ (Qr n),.ptr _ _ _ (Qr n),t.blw _,hb _,trivial⟩;have:i=0:=by simp at hi;exact hi
  subst this;exact .iptr _ (fun j hj=>(ht _).mem _ (Qa hj))
 ·intro l m B' t' H' ht' hm hlv hlow;have hne:¬n=m:=om;have h3:=hlv 3;have h4:=hlv 4;have h100:=hlv 100;simp only[go_sem,simprocAttr]at h3 h4 h100;refine gd ?_;refine⟨rfl,h100,?_⟩;refine gM ?_;refine nr ?_;simp only[go_sem,simprocAttr,hne,h3,full,Za.upd,(show¬m=n by omega)];refine YE (avs:=[t'.enc]) (by simp only[go_sem,simprocAttr,hne,h3,full,Za.upd]) hf (hp t' ht' _ _ (QO _) (hT.up (by intro k;simp only[full,Za.upd];rw[if_neg om,if_neg om,hlow 0 k hn]))) sS ?_;have hb4:Ze.Below m (.box [.bool false]):=Ze.ZC ⟨.bool _,trivial⟩;refine aS ?_;cases h1:p t' with
  |false=>
   refine nTq h1 ?_;refine nr ?_;simp only[go_sem,simprocAttr,hne,h4,full,Za.upd,ZdZ,setH,(show¬m=n by omega)];refine⟨.inr hb4,?_⟩;refine nV ?_;refine⟨by simp[Za.upd],rfl,ZkH (fun j=>?_) (fun l' j hne=>?_)⟩
   ·by_cases e1:j=100
    ·subst e1;simp[Za.upd]
    ·by_cases e2:j=4
     ·subst e2;simp[Za.upd]
     ·simp[Za.upd,e1,e2,hlv j,setb,lkb,Ne.symm e1,Ne.symm e2]
   ·simp[Za.upd,hne]
  |true=>
   refine nFq h1 ?_;refine kK ?_;refine nN ?_;exact⟨by simp[Za.upd],rfl,by simp only[if_true];exact Zlo h100⟩
 ·intro l hall;refine kK ?_;refine ge ?_;refine Z9 (.inl rfl) _ n 4 0 [.bool true] sS sF rfl sm sm ?_ (.bool _) rfl;rw[hall];exact .refl _
 ·intro l hall;refine nV ?_;refine Z9 (.inl rfl) _ n 4 0 [.bool false] sS sF rfl sm sm ?_ (.bool _) rfl;rw[hall];exact .refl _
def Zwh(t:Tm)(ht:t.Good):ZR prog 109 [t.enc] (.bool (shape t)):=by
 intro n H hn hT;refine aF func109 fun B=>?_
 refine gc ?_;refine cT (a107 t ht) ?_;exact pB
def pred106:ZlO 109 [] shape:=⟨⟨_,_,Zf func109 rfl rfl⟩,fun t ht=>Zwh t ht⟩
def plain(t:Tm):Bool:=(t.kind==1)||(t.kind==2)||(t.kind==4)
def a70(t:Tm):Pure prog 59 [t.enc] (.bool (plain t)):=by
 intro n H;refine aF func59 fun B=>?_
 refine nR ?_;cases h1:(t.kind==1)<;>cases h2:(t.kind==2)<;>cases h3:(t.kind==4);all_goals
  refine nq3 h1 h2 h3 ?_;refine YG rfl rfl ?_;refine Zc ?_ (.bool _) rfl;try simp only[go_sem,simprocAttr,plain,h1,h2,h3,UR,Gz,U5,UD]
  exact .refl _
def pred70:ZlO 59 [] plain:=⟨⟨_,_,Zf func59 rfl rfl⟩,fun t _=>Abs.Pure.tabs (a70 t)⟩
def dep:Tm→Int
 | .mk _ _ _ l=>deps l 0+1
where deps:List Tm→Int→Int
 |[],m=>m
 |t::r,m=>deps r (if dep t>m then dep t else m)
theorem ZnW(l:List Tm):∀(i:Nat) (m:Int) (h:i<l.length),dep.deps (l.take (i+1)) m=(if dep l[i]>dep.deps (l.take i) m then dep l[i]else dep.deps (l.take i) m):=by
 induction l with
 |nil=>intro i m h;exact absurd h (Qo _)
 |cons t r ih=>
  intro i m h;cases i with
  |zero=>rfl
  |succ i=>simp only[MR,dep.deps,UU];exact ih i _ (by simpa using h)
def Zjo(t:Tm):dep t=dep.deps t.args 0+1:=by cases t;rfl
def dep_sz:∀t:Tm,1≤dep t∧dep t≤t.sz
 | .mk k n s l=>by
  have hl:∀(r:List Tm),(∀u∈r,u∈l)→ ∀m:Int,0≤m→0≤dep.deps r m∧dep.deps r m≤max m (Tm.sz.szs r):=by
   intro r;induction r with
   |nil=>intro _ m hm;simp only[dep.deps,Tm.sz.szs];omega
   |cons t r ih=>
    intro hr m hm;have ht:=dep_sz t;have:=ih (fun u hu=>hr u (Qz _ hu)) (if dep t>m then dep t else m) (by split<;>omega);simp only[dep.deps,Tm.sz.szs];by_cases hc:dep t>m
    ·rw[if_pos hc]at this⊢;omega
    ·rw[if_neg hc]at this⊢;omega
  have:=hl l (fun u h=>h) 0 (G6 _);simp only[dep,Tm.sz];omega
termination_by t=>SizeOf.sizeOf t
decreasing_by
 have:=QL (hr t sm);simp only[Tm.mk.sizeOf_spec];omega
def ZsI{t:Tm}(ht:t.Good):dep t≤3000000000000:=by have:=(dep_sz t).2;have:=ht.sz;omega
def Zvb(n:Nat)(t:Tm)(H:Za)(i:Nat):Zb:=
 ⟨[(9,.int .i64 i),(8,.int .i64 t.args.length),(7,.sl 4 (t.args.map Tm.enc) .any),(3,.int .i64 (dep.deps (t.args.take i) 0)),(1,.ptr n 1 0)],[(1,.box t.cs)],H⟩
def a105(t:Tm)(ht:t.Good):Pure prog 108 [t.enc] (.int .i64 (dep t)):=by
 intro n H;have hd:=Zjo t;have hg:=dep_sz t;have hb:=ZsI ht;have hl:=ht.len;refine aF func108 fun B=>?_
 refine gz ?_;refine Zm (Zvb n t H) t.args.length rfl ?_ ?_
 ·exact KK
 intro i hi;refine ZQ rfl ?_;rcases Qe i t.args.length with h|h
 ·refine nq h ?_;refine nT ?_;refine nq2 (Tm.Zh _ _ h) h ?_;refine nR ?_;refine cP (a105 t.args[i] (ht.arg (Qa h))) ?_;refine gd ?_;apply kZ;repeat' first|apply q0|exact xx|apply aI
  ·refine aS ?_;rw[iw];exact Wk.refl _
  ·refine aS ?_;rw[ZnW _ _ _ h];exact Wk.refl _
 ·refine nq (QD.2 h) ?_;refine gt ?_;have hi:i=t.args.length:=om;subst hi;refine Zc ?_ (.int _ _) rfl;rw[hd];simp only[go_sem,simprocAttr,QI];rw[iw];exact Wk.refl _
termination_by SizeOf.sizeOf t
decreasing_by exact Tm.Y2 (Qa h)
def YI(t:Tm):Bool:=decide (dep t≤12)&&t.all shape
def a72(t:Tm)(ht:t.Good):ZR prog 61 [t.enc] (.bool (YI t)):=by
 intro n H hn hT;refine aF func61 fun B=>?_
 refine gc ?_;refine cP (a105 t ht) ?_;cases h1:decide (dep t≤12)with
 |false=>
  refine aS ?_;refine YG rfl rfl ?_;refine Zc ?_ (.bool _) rfl;try simp only[go_sem,simprocAttr,YI,h1]
  exact .refl _
 |true=>
  refine aS ?_;refine cT (a71 t ht _ shape pred106) ?_;refine YG rfl rfl ?_;refine Zc ?_ (.bool _) rfl;try simp only[go_sem,simprocAttr,YI,h1]
  exact .refl _
def Zo(t:Tm):Bool:=t.all plain&&YI t
def a37(t:Tm)(ht:t.Good):ZR prog 15 [t.enc] (.bool (Zo t)):=by
 intro n H hn hT;refine aF func15 fun B=>?_
 refine gc ?_;refine nR ?_;refine cT (a71 t ht _ plain pred70) ?_;cases h1:t.all plain with
 |false=>
  refine aS ?_;refine YG rfl rfl ?_;refine Zc ?_ (.bool _) rfl;try simp only[go_sem,simprocAttr,Zo,h1]
  exact .refl _
 |true=>
  refine aS ?_;refine cT (a72 t ht) ?_;refine YG rfl rfl ?_;refine Zc ?_ (.bool _) rfl;try simp only[go_sem,simprocAttr,Zo,h1]
  exact .refl _
def txt:Tm→List UInt8
 | .mk k n s l=>if k=1 then Lib.itoa n else if k=4 then((s++[40])++Lib.join (txts l) [44])++[41]else s
where txts:List Tm→List (List UInt8)
 |[]=>[]
 |t::r=>txt t::txts r
theorem txts_eq:∀l:List Tm,txt.txts l=l.map txt
 |[]=>rfl
 |t::r=>by rw[txt.txts,txts_eq r];rfl
def ZbK(t:Tm):txt t=if t.kind=1 then Lib.itoa t.num else if t.kind=4 then((t.name++[40])++Lib.join (t.args.map txt) [44])++[41]else t.name:=by
 cases t;rw[txt,txts_eq];rfl
def okv(t:Tm):Bool:=plain t&&shape t
def Zbf(p q:Tm→Bool):∀t:Tm,t.all (fun u=>p u&&q u)=(t.all p&&t.all q)
 | .mk k n s l=>by
  have hl:∀r:List Tm,(∀u∈r,u∈l)→Tm.all.alls (fun u=>p u&&q u) r=(Tm.all.alls p r&&Tm.all.alls q r):=by
   intro r;induction r with
   |nil=>intro _;rfl
   |cons t r ih=>
    intro hr;have ht:=Zbf p q t;simp only[Tm.all.alls,ht,ih (fun u hu=>hr u (Qz _ hu))];cases t.all p<;>cases t.all q<;>simp
  simp only[Tm.all,hl l (fun u h=>h)];cases p (.mk k n s l)<;>cases q (.mk k n s l)<;>simp
termination_by t=>SizeOf.sizeOf t
decreasing_by
 have:=QL (hr t sm);simp only[Tm.mk.sizeOf_spec];omega
section
variable {t:Tm} {p:Tm→Bool}
def Ym(h:t.all p=true):p t=true:=by
 rw[Tm.all_eq,Qd]at h;exact h.1
def YV{u:Tm}(h:t.all p=true)(hu:u∈t.args):u.all p=true:=by
 rw[Tm.all_eq,Qd,Tm.WJ,Qy]at h;exact h.2 u hu
def Zds{s:List UInt8}(h:sym s=true):s.length≤32:=by
 simp only[sym,wd,Qd,decide_eq_true_eq]at h;exact h.1.2.2
def XK(h:okv t=true):(t.kind=1∧ -2147483647≤t.num∧t.num≤2147483647∧t.name=[]∧t.args=[])∨
  (t.kind=2∧t.num=0∧sym t.name=true∧t.args=[])∨(t.kind=4∧t.num=0∧sym t.name=true∧1≤t.args.length∧t.args.length≤8):=by
 simp only[okv,plain,Qd,GR,beq_iff_eq]at h;obtain⟨(h1|h1)|h1,h2⟩:=h
 ·refine .inl ⟨h1,?_⟩;simp[shape,h1,nargs]at h2;exact⟨h2.1.1.1,h2.1.1.2,h2.1.2,h2.2⟩
 ·refine .inr (.inl ⟨h1,?_⟩);simp[shape,h1,nargs,named]at h2;exact⟨h2.1.1.1,h2.1.2,h2.2⟩
 ·refine .inr (.inr ⟨h1,?_⟩);simp[shape,h1,nargs,named]at h2;refine⟨h2.1.1.1,h2.1.2,?_,?_⟩<;>omega
def txt_len:∀t:Tm,t.all okv=true→(txt t).length≤42*t.sz
 | .mk k n s l=>fun h=>by
  have hl:∀r:List Tm,(∀u∈r,u∈l)→Lib.lens (r.map txt)≤42*Tm.sz.szs r:=by
   intro r;induction r with
   |nil=>intro _;simp[Lib.lens]
   |cons t r ih=>
    intro hr;have:=txt_len t (YV (t:=.mk k n s l) h (hr t sm));have:=ih (fun u hu=>hr u (Qz _ hu));simp only[Qv,Lib.lens,Tm.sz.szs,QaQ]at*;omega
  rw[ZbK];rcases XK (Ym h)with⟨h1,h2,h3,h4,h5⟩|⟨h1,h2,h3,h4⟩|⟨h1,h2,h3,h4,h5⟩
  ·rw[if_pos h1];have:=Lib.itoa_length_le (Tm.mk k n s l).num om om;have:=(Tm.mk k n s l).Zc7;omega
  ·rw[if_neg om,if_neg om];have:=Zds h3;have:=(Tm.mk k n s l).Zc7;omega
  ·rw[if_neg om,if_pos h1];have h6:=Zds h3;have h7:=hl l (fun u h=>h);have h8:(Tm.mk k n s l).args=l:=rfl;have h9:(Tm.mk k n s l).name=s:=rfl;rw[h8]at h4 h5⊢;rw[h9]at h6⊢;simp only[Qh,Qq,QB,Tm.sz];cases hc:l with
   |nil=>rw[hc]at h4;simp at h4
   |cons x r=>
    rw[hc]at h7 h5;rw[Qv,Lib.join_length];simp only[Qv,Qq,QB,Qw]at*;omega
termination_by t=>SizeOf.sizeOf t
decreasing_by
 have:=QL (hr t sm);simp only[Tm.mk.sizeOf_spec];omega
def Zwc(t:Tm)(n:Nat)(H:Za)(i:Nat):Zb:=
 ⟨[(21,.int .i64 i),(20,.int .i64 t.args.length),(19,.sl 4 (t.args.map Tm.enc) .any),(3,.sl 1 (((t.args.take i).map txt).map .str) (.buf n 200)),(1,.ptr n 1 0)],[(1,.box t.cs),(200,.buf 9 1 i)],H⟩
def a94(t:Tm)(ht:t.Good)(hv:t.all okv=true):ZR prog 119 [t.enc] (.str (txt t)):=by
 intro n H hn hT;have hs:=ht.name;have hlen:=ht.len;refine aF func119 fun B=>?_
 refine gk ?_;rcases XK (Ym hv)with⟨h1,h2,h3,h4,h5⟩|⟨h1,h2,h3,h4⟩|⟨h1,h2,h3,h4,h5⟩
 ·have e1:(t.kind==1)=true:=by simp[h1]
  refine nq e1 ?_;refine gi ?_;refine cT (Ztx t.num om om) ?_;refine nV ?_;refine Zc ?_ (.str _) rfl;rw[ZbK,if_pos h1];exact .refl _
 ·have e1:(t.kind==1)=false:=by simp[h1]
  have e4:(t.kind==4)=false:=by simp[h1]
  have e6:(t.kind==6)=false:=by simp[h1]
  have e5:(t.kind==5)=false:=by simp[h1]
  refine nq e1 ?_;refine nF ?_;refine nq e4 ?_;refine nF ?_;refine nq e6 ?_;refine nF ?_;refine nq e5 ?_;refine gu ?_;refine ge ?_;refine Zc ?_ (.str _) rfl;rw[ZbK,if_neg om,if_neg om];exact .refl _
 ·have e1:(t.kind==1)=false:=by simp[h1]
  have e4:(t.kind==4)=true:=by simp[h1]
  refine nq e1 ?_;refine nF ?_;refine nq e4 ?_;refine nT ?_;refine gk ?_;refine Xn 3 200 9 1 rfl rfl ?_;refine Zm (Zwc t n H) t.args.length rfl ?_ ?_
  ·exact KK
  intro i hi;refine ZQ rfl ?_;rcases Qe i t.args.length with h|h
  ·refine nq h ?_;refine nT ?_;refine nq2 (Tm.Zh _ _ h) h ?_;refine nR ?_;have hmin:(t.args.take i).length=i:=Uo om;refine Zf9 (Zf func119 rfl rfl) (a94 t.args[i] (ht.arg (Qa h)) (YV hv (Qa h))) hn hT (by simp only[go_sem,simprocAttr,hmin]) ?_;refine aq hmin ?_;refine⟨by first|exact⟨rfl,dc⟩|exact rfl,⟨Zl om,om⟩,?_⟩;refine gd ?_;apply kZ;repeat' first|apply q0|exact xx|apply aI
   ·refine aS ?_;rw[iw];exact .refl _
   ·simp only[go_sem,simprocAttr,Qj h,QC];exact .refl _
  ·refine nq (QD.2 h) ?_;refine gg ?_;have hi':i=t.args.length:=om;subst hi';have hl:=txt_len t hv;rw[ZbK,if_neg om,if_pos h1]at hl;simp only[Qh,Qq,QB]at hl;have hsz:=ht.sz;refine kK ?_;refine nD drawO ?_;simp only[go_sem,simprocAttr,QI];refine⟨om,?_⟩;refine cT (a92 (t.args.map txt) [44] (.buf n 200) (by simp;omega) om) ?_;refine⟨by simp only[Qh,Qq,QB];omega,by simp only[Qh,Qq,QB];omega,?_⟩;refine nV ?_;refine Zc ?_ (.str _) rfl;rw[ZbK,if_neg om,if_pos h1];exact .refl _
termination_by SizeOf.sizeOf t
decreasing_by exact Tm.Y2 (Qa h)
end
def Xr{t:Tm}(h:Zo t=true):t.all okv=true:=by
 simp only[Zo,YI,Qd]at h;have:=Zbf plain shape t;rw[h.1,h.2.2]at this;exact this
def a58(t:Tm)(ht:t.Good)(hv:Zo t=true):ZR prog 68 [t.enc] (.str (txt t)):=by
 intro n H hn hT;have h1:YI t=true:=by simp only[Zo,Qd]at hv;exact hv.2
 refine aF func68 fun B=>?_
 refine gc ?_;refine Zf9 (Zf func61 rfl rfl) (a72 t ht) hn hT (by simp only[go_sem,simprocAttr,h1]) ?_;refine aq h1 ?_;refine gv ?_;refine cT (a94 t ht (Xr hv)) ?_;refine YG rfl rfl ?_;refine Zc ?_ (.str _) rfl;try simp only[go_sem,simprocAttr]
 exact .refl _
def a44(t:Tm)(ht:t.Good):ZR prog 116 [t.enc] (.bool (!Zo t)):=by
 intro n H hn hT;refine aF func116 fun B=>?_
 refine gc ?_;refine cT (a37 t ht) ?_;exact pB
def ZcR{α:Type}(p:α→Bool)(l:List α):Int:=if l.any p then((l.findIdx p:Nat):Int)else -1
section
variable {α:Type}
def ZfP(p:α→Bool)(l:List α):decide (0≤ZcR p l)=l.any p:=by
 unfold ZcR;split
 ·rename_i h;rw[h];simp
 ·rename_i h;simp only[Gl]at h;rw[h];rfl
def ZaR{p:α→Bool}{l:List α}{i:Nat}(h:i<l.length)(hp:p l[i]=true)(hq:∀j (h:j<l.length),j<i→p l[j]=false):ZcR p l=i:=by
 have h1:l.any p=true:=UW.2 ⟨_,Qa h,hp⟩;unfold ZcR;rw[if_pos h1];congr 1
 rw[List.findIdx_eq h];exact⟨hp,fun j hj=>by rw[hq j om hj]⟩
def VA{p:α→Bool}{l:List α}(hq:∀j (h:j<l.length),p l[j]=false):ZcR p l= -1:=by
 unfold ZcR;rw[if_neg];rw[UW];rintro⟨x,hx,hp⟩;obtain⟨j,hj,rfl⟩:=QJ hx;rw[hq j hj]at hp;cases hp
structure ZeZ {α:Type} (f:Nat) (caps:List AV) (enc:α→AV) (l:List α) (p:α→Bool):Prop where
 fn:∃fn c,Fun prog f fn c
 on:∀x∈l,ZR prog f (enc x::caps) (.bool (p x))
 below:∀n,Yg (fun c=>Below n c) caps
def Zvt(l:List Tm)(f:Nat)(caps:List AV)(H:Za)(i:Nat):Zb:=
 ⟨[(8,.int .i64 i),(7,.int .i64 l.length),(1,.fn (.func f) caps),(0,.sl 4 (l.map Tm.enc) .any)],[],H⟩
def a80(l:List Tm)(hl:l.length≤1000000)(f:Nat)(caps:List AV)(p:Tm→Bool)(hp:ZeZ f caps Tm.enc l p):ZR prog 128 [.sl 4 (l.map Tm.enc) .any,.fn (.func f) caps] (.int .i64 (ZcR p l)):=by
 intro n H hn hT;obtain⟨⟨fn,c,hf⟩,hp,hbl⟩:=hp;have hfi:∀q,Inside n q (.fn (.func f) caps):=fun q=>(Below.fn _ _ fun i hi=>(hbl n).mem _ (Qa hi)).inside
 refine aF func128 fun B=>?_
 refine gk ?_;refine ZL (Zvt l f caps H) (fun i=>∀j (h:j<l.length),j<i→p l[j]=false) l.length rfl ?_ (fun j _ h=>absurd h (Qo _)) ?_
 ·apply kZ;repeat' first|apply q0|exact xx|apply aI
  exact hfi _
 intro i hi hq;refine ZQ rfl ?_;rcases Qe i l.length with h|h
 ·refine nq h ?_;refine gi ?_;refine nq2 (Tm.Zh _ _ h) h ?_;refine YE (avs:=[l[i].enc]) rfl hf (hp l[i] (Qa h) _ _ (QO _) (hT.full hn)) rfl ?_;cases h1:p l[i]with
  |true=>
   refine aS ?_;refine gn ?_;refine Zc ?_ (.int _ _) rfl;rw[ZaR h h1 hq];exact .refl _
  |false=>
   refine gI ?_;refine⟨fun j hj hji=>?_,?_⟩
   ·rcases Qe j i with h'|h'
    ·exact hq j hj h'
    ·have:j=i:=om;subst this;exact h1
   ·apply kZ;repeat' first|apply q0|exact xx|apply aI
    ·refine aS ?_;rw[iw];exact .refl _
    ·exact hfi _
 ·refine nq (QD.2 h) ?_;refine gt ?_;refine Zc ?_ (.int _ _) rfl;rw[VA (fun j hj=>hq j hj om)];exact .refl _
def a46(l:List Tm)(hl:l.length≤1000000)(f:Nat)(caps:List AV)(p:Tm→Bool)(hp:ZeZ f caps Tm.enc l p):ZR prog 81 [.sl 4 (l.map Tm.enc) .any,.fn (.func f) caps] (.bool (l.any p)):=by
 intro n H hn hT;refine aF func81 fun B=>?_
 refine gc ?_;refine cT (a80 l hl f caps p hp) ?_;refine nV ?_;refine Zc ?_ (.bool _) rfl;simp only[go_sem,simprocAttr,ZfP];exact .refl _
def Yh(a:Am):Bool:=sym a.pred&&decide ((a.args.length:Int)≤8)&&a.args.all Zo
def a14(a:Am)(ha:a.Good):ZR prog 64 [a.enc] (.bool (Yh a)):=by
 intro n H hn hT;have hs:=ha.pred;refine aF func64 fun B=>?_
 refine gc ?_;refine nR ?_;refine cP (a45 a.pred om) ?_;cases h1:sym a.pred with
 |false=>
  refine aS ?_;refine YG rfl rfl ?_;refine Zc ?_ (.bool _) rfl;try simp only[go_sem,simprocAttr,Yh,h1]
  exact .refl _
 |true=>
  cases h2:decide ((a.args.length:Int)≤8)with
  |false=>
   refine aq h2 ?_;refine YG rfl rfl ?_;refine Zc ?_ (.bool _) rfl;try simp only[go_sem,simprocAttr,Yh,h1,h2]
   exact .refl _
  |true=>
   refine aq h2 ?_;refine cT (a46 a.args ha.len _ [] (fun t=>!Zo t) ⟨⟨_,_,Zf func116 rfl rfl⟩,fun t ht=>a44 t (ha.arg ht),fun _=>trivial⟩) ?_;refine nV ?_;refine Zc ?_ (.bool _) rfl;simp only[go_sem,simprocAttr,Yh,h1,h2,List.not_any_eq_all_not,Qbz];exact .refl _
end
structure Zft {α β:Type} (f:Nat) (caps:List AV) (ea:α→AV) (eb:β→AV) (l:List α) (g:α→β):Prop where
 fn:∃fn c,Fun prog f fn c
 on:∀x∈l,ZR prog f (ea x::caps) (eb (g x))
 below:∀n,Yg (fun c=>Below n c) caps
def getD_map{α:Type}(f:α→AV)(l:List α)(i:Nat)(h:i<l.length)(d:AV):(l.map f).getD i d=f l[i]:=by
 rw[Qn,Ua,Qb h];rfl
abbrev Str:=List UInt8
abbrev eStr(s:Str):AV:=.str s
abbrev eInt(i:Int):AV:=.int .i64 i
def ZgW{n k:Nat}(l:List Int):Below n (.sl k (l.map eInt) .any):=ZB fun x hx=>by obtain⟨u,_,rfl⟩:=Qi.1 hx;exact .int _ _
def Zga{n k:Nat}{p:Nat→Prop}(l:List Int):Inside n p (.sl k (l.map eInt) .any):=(ZgW l).inside
def Zwe(l:List (Tm))(f:Nat)(caps:List AV)(g:Tm→Str)(n:Nat)(H:Za)(i:Nat):Zb:=
 ⟨[(10,.int .i64 i),(9,.int .i64 l.length),(8,.sl 4 (l.map Tm.enc) .any),(5,.sl 1 (((l.take i).map g).map eStr) (.buf n 200)),(1,.fn (.func f) caps)],[(200,.buf 9 1 i)],H⟩
def a93(l:List (Tm))(hl:l.length≤1000000)(f:Nat)(caps:List AV)(g:Tm→Str)(hp:Zft f caps Tm.enc eStr l g):ZR prog 118 [.sl 4 (l.map Tm.enc) .any,.fn (.func f) caps] (.sl 1 ((l.map g).map eStr) .any):=by
 intro n H hn hT;obtain⟨⟨fn,c,hf⟩,hp,hbl⟩:=hp;have hfi:∀q,Inside n q (.fn (.func f) caps):=fun q=>(Below.fn _ _ fun i hi=>(hbl n).mem _ (Qa hi)).inside
 refine aF func118 fun B=>?_
 refine gz ?_;refine Xn 5 200 9 1 rfl rfl ?_;refine Zm (Zwe l f caps g n H) l.length rfl ?_ ?_
 ·exact KK
 intro i hi;refine ZQ rfl ?_;rcases Qe i l.length with h|h
 ·have hmin:(l.take i).length=i:=Uo om;refine nq h ?_;refine nT ?_;refine nq2 (getD_map Tm.enc _ _ h) h ?_;refine nR ?_;refine YE (avs:=[Tm.enc l[i]]) rfl hf (hp l[i] (Qa h) _ _ (QO _) (hT.full hn)) rfl ?_;refine aq hmin ?_;refine⟨by first|exact⟨rfl,dc⟩|exact rfl,⟨Zl om,om⟩,?_⟩;refine gd ?_;apply kZ;repeat' first|apply q0|exact xx|apply aI
  ·refine aS ?_;rw[iw];exact .refl _
  ·simp only[go_sem,simprocAttr,Qj h,QC];exact .refl _
  all_goals first|exact hfi _|exact Zga _
 ·refine nq (QD.2 h) ?_;refine gg ?_;have hi':i=l.length:=om;subst hi';refine gE ?_;refine Zc ?_ (Zlz _) rfl;refine aS ?_;exact .any _ _ _
def Zv1(l:List (Tm))(f:Nat)(caps:List AV)(g:Tm→Tm)(n:Nat)(H:Za)(i:Nat):Zb:=
 ⟨[(10,.int .i64 i),(9,.int .i64 l.length),(8,.sl 4 (l.map Tm.enc) .any),(5,.sl 4 (((l.take i).map g).map Tm.enc) (.buf n 200)),(1,.fn (.func f) caps)],[(200,.buf 40 4 i)],H⟩
def a95(l:List (Tm))(hl:l.length≤1000000)(f:Nat)(caps:List AV)(g:Tm→Tm)(hp:Zft f caps Tm.enc Tm.enc l g):ZR prog 120 [.sl 4 (l.map Tm.enc) .any,.fn (.func f) caps] (.sl 4 ((l.map g).map Tm.enc) .any):=by
 intro n H hn hT;obtain⟨⟨fn,c,hf⟩,hp,hbl⟩:=hp;have hfi:∀q,Inside n q (.fn (.func f) caps):=fun q=>(Below.fn _ _ fun i hi=>(hbl n).mem _ (Qa hi)).inside
 refine aF func120 fun B=>?_
 refine gz ?_;refine Xn 5 200 40 4 rfl rfl ?_;refine Zm (Zv1 l f caps g n H) l.length rfl ?_ ?_
 ·exact KK
 intro i hi;refine ZQ rfl ?_;rcases Qe i l.length with h|h
 ·have hmin:(l.take i).length=i:=Uo om;refine nq h ?_;refine nT ?_;refine nq2 (getD_map Tm.enc _ _ h) h ?_;refine nR ?_;refine YE (avs:=[Tm.enc l[i]]) rfl hf (hp l[i] (Qa h) _ _ (QO _) (hT.full hn)) rfl ?_;refine aq hmin ?_;refine⟨by first|exact⟨rfl,dc⟩|exact rfl,⟨Zl om,om⟩,?_⟩;refine gd ?_;apply kZ;repeat' first|apply q0|exact xx|apply aI
  ·refine aS ?_;rw[iw];exact .refl _
  ·simp only[go_sem,simprocAttr,Qj h,QC];exact .refl _
  all_goals first|exact hfi _|exact Zga _
 ·refine nq (QD.2 h) ?_;refine gg ?_;have hi':i=l.length:=om;subst hi';refine gE ?_;refine Zc ?_ (ZH _) rfl;refine aS ?_;exact .any _ _ _
def JI(a:Am):List UInt8:=((a.pred++[40])++Lib.join (a.args.map txt) [44])++[41]
def Za1{a:Am}(h:Yh a=true):sym a.pred=true∧a.args.length≤8∧a.args.all Zo=true:=by
 simp only[Yh,Qd,decide_eq_true_eq]at h;exact⟨h.1.1,om,h.2⟩
def txts_len:∀l:List Tm,(∀t∈l,t.all okv=true)→Lib.lens (l.map txt)≤42*Tm.sz.szs l
 |[],_=>by simp[Lib.lens]
 |t::r,h=>by
  have h1:=txt_len t (h t sm);have h2:=txts_len r (fun u hu=>h u (by simp[hu]));simp only[Lib.lens,Qv,QaQ,Tm.sz.szs]at*;omega
def Zph(l:List Tm)(h:∀t∈l,t.all okv=true):(Lib.join (l.map txt) [44]).length≤42*Tm.sz.szs l+l.length:=by
 have h1:=txts_len l h;cases l with
 |nil=>simp[Lib.join]
 |cons t r=>
  rw[Qv,Lib.join_length];simp only[Lib.lens,Qv,QaQ,Qq,QB,Qw]at*;omega
def Zt6(l:List Tm)(hl:∀t∈l,t.Good)(hv:l.all Zo=true):Zft 68 [] Tm.enc eStr l txt:=
 ⟨⟨_,_,Zf func68 rfl rfl⟩,fun t ht=>a58 t (hl t ht) (Qy.1 hv t ht),fun _=>trivial⟩
def a57(a:Am)(ha:a.Good)(hv:Yh a=true):ZR prog 67 [a.enc] (.str (JI a)):=by
 intro n H hn hT;obtain⟨h1,h2,h3⟩:=Za1 hv;have h4:=Zds h1;have h5:=Zph a.args (fun t ht=>Xr (Qy.1 h3 t ht));have h6:=Tm.sz_len a.args;have h7:Tm.sz.szs a.args≤1000000:=by have:=ha.sz;simp only[Am.sz]at this;omega
 refine aF func67 fun B=>?_
 refine nR ?_;refine Xz tok mixed drawO rfl rfl rfl ?_;simp only[go_sem,simprocAttr];refine⟨om,?_⟩;refine cT (a93 a.args om _ [] txt (Zt6 a.args (fun t ht=>ha.arg ht) h3)) ?_;have:=a92 (a.args.map txt) [44] .any (by simp;omega) om;refine cT (this) ?_;refine⟨by simp only[Qh,Qq,QB];omega,by simp only[Qh,Qq,QB];omega,?_⟩;refine nV ?_;refine Zc ?_ (.str _) rfl;simp only[go_sem,simprocAttr,JI];exact .refl _
def ZvR(t:Tm)(ht:t.Good)(hm:Zft 121 [] Tm.enc Tm.enc t.args id):ZR prog 121 [t.enc] t.enc:=by
 intro n H hn hT;have hl:=ht.len;have ha:=a95 t.args hl _ [] id hm;rw[QbI]at ha;refine aF func121 fun B=>?_
 refine gc ?_;refine cT (ha) ?_;refine ge ?_;refine Z9 (.inl rfl) _ n 2 0 t.cs sS sF rfl (Qg _) sS ?_ (Tm.blw _ t) rfl;exact xS
def Zwj(t:Am)(ht:t.Good)(hm:Zft 121 [] Tm.enc Tm.enc t.args id):ZR prog 69 [t.enc] t.enc:=by
 intro n H hn hT;have hl:=ht.len;have ha:=a95 t.args hl _ [] id hm;rw[QbI]at ha;refine aF func69 fun B=>?_
 refine gc ?_;refine cT (ha) ?_;refine ge ?_;refine Z9 (.inl rfl) _ n 2 0 t.cs sS sF rfl (Qg _) sS ?_ (Am.blw _ t) rfl;exact xS
def a96(t:Tm)(ht:t.Good):ZR prog 121 [t.enc] t.enc:=
 ZvR t ht ⟨⟨_,_,Zf func121 rfl rfl⟩,fun u hu=>a96 u (ht.arg hu),fun _=>trivial⟩
termination_by SizeOf.sizeOf t
decreasing_by exact Tm.Y2 hu
def a59(t:Am)(ht:t.Good):ZR prog 69 [t.enc] t.enc:=
 Zwj t ht ⟨⟨_,_,Zf func121 rfl rfl⟩,fun u hu=>a96 u (ht.arg hu),fun _=>trivial⟩

theorem Ztc{s:List UInt8}(h:sym s=true):(s==[])=false:=by
 cases s with
 |nil=>simp[sym,wd]at h
 |cons b r=>rfl
def a87(a:Int):Pure prog 175 [.int .i64 a] (.bool false):=by
 intro n H;refine aF func175 fun B=>?_
 refine nR ?_;refine nr ?_;simp only[go_sem,simprocAttr,bne];exact pB
def a51(a b:Int):Pure prog 111 [.int .i64 a,.int .i64 b] (.int .i64 (YO a b)):=by
 intro n H;refine aF func111 fun B=>?_
 refine gc ?_;refine cP (a87 a) ?_;refine nR ?_;refine cP (a87 b) ?_;refine nR ?_;refine gv ?_;refine nF ?_;cases h1:decide (a<b)with
 |true=>
  refine nq h1 ?_;refine gi ?_;refine YG rfl rfl ?_;refine Zc ?_ (.int _ _) rfl;try simp only[go_sem,simprocAttr,YO,of_decide_eq_true h1]
  exact .refl _
 |false=>
  refine nq h1 ?_;refine nF ?_;cases h2:decide (b<a)with
  |true=>
   refine nq h2 ?_;refine gi ?_;refine YG rfl rfl ?_;refine Zc ?_ (.int _ _) rfl;try simp only[go_sem,simprocAttr,YO,of_decide_eq_false h1,of_decide_eq_true h2]
   exact .refl _
  |false=>
   refine nq h2 ?_;refine gv ?_;refine YG rfl rfl ?_;refine Zc ?_ (.int _ _) rfl;try simp only[go_sem,simprocAttr,YO,of_decide_eq_false h1,of_decide_eq_false h2]
   exact .refl _
def Zn2(a b:List UInt8):(if Op.bytesLess a b=true then(-1:Int)else if(!(Op.bytesLess a b||a==b))=true then 1 else 0)=Lib.compareBytes a b:=by
 rw[less_cmp];by_cases h:a=b
 ·subst h;simp[cmpBytes_self]
 ·rcases cmpBytes_val a b with h1|h1|h1
  ·simp[h1]
  ·exact absurd (cmpBytes_zero h1) h
  ·simp[h1,h]
def orL:List Int→Int
 |[]=>0
 |a::r=>thn a (orL r)
section
variable {l:List Int}
def Ztd{i:Nat}(h:i<l.length)(hn:l[i]≠0)(hq:∀j (h:j<l.length),j<i→l[j]=0):orL l=l[i]:=by
 induction l generalizing i with
 |nil=>exact absurd h (Qo _)
 |cons a r ih=>
  cases i with
  |zero=>simp only[Uh]at hn⊢;rw[orL,Zb6 hn]
  |succ i=>
   have h0:=hq 0 sm om;simp only[Uh]at h0;subst h0;simp only[UU]at hn⊢;rw[orL,Y5];exact ih (by simpa using h) hn (fun j hj hji=>by have:=hq (j+1) (by simpa using hj) om;simpa using this)
theorem Zpb(hq:∀j (h:j<l.length),l[j]=0):orL l=0:=by
 induction l with
 |nil=>rfl
 |cons a r ih=>
  have h0:=hq 0 sm;simp only[Uh]at h0;rw[orL,h0,Y5];exact ih (fun j hj=>by have:=hq (j+1) (by simpa using hj);simpa using this)
def ZaM{n k:Nat}{p:Nat→Prop}{xs:List AV}(hx:∀x∈xs,Below n x):Inside n p (.sl k xs .full):=
 .sl k xs _ (fun i hi c hc=>(((hx _ (Qa hi)).cells _ (Qa hc))).inside) (fun l j e=>by cases e)
def ZbE{n:Nat}(k:IntKind)(l:List Int):∀x∈l.map (AV.int k),Below n x:=fun x hx=>by obtain⟨u,_,rfl⟩:=Qi.1 hx;exact .int _ _
def ZoF(l:List Int)(i:Nat)(h:i<l.length)(d:AV):(l.map eInt).getD i d= .int .i64 l[i]:=getD_map eInt l i h d
def Zwo(l:List Int)(H:Za)(i:Nat):Zb:=
 ⟨[(8,.int .i64 i),(7,.int .i64 l.length),(6,.sl 1 (l.map eInt) .full),(3,.int .i64 0)],[],H⟩
def a49(l:List Int)(hl:l.length≤1000000):Pure prog 113 [.sl 1 (l.map eInt) .full] (.int .i64 (orL l)):=by
 intro n H;refine aF func113 fun B=>?_
 refine gz ?_;refine ZL (Zwo l H) (fun i=>∀j (h:j<l.length),j<i→l[j]=0) l.length rfl ?_ (fun j _ h=>absurd h (Qo _)) ?_
 ·apply kZ;repeat' first|apply q0|exact xx|apply aI
  exact ZaM (ZbE .i64 l)
 intro i hi hq;refine ZQ rfl ?_;rcases Qe i l.length with h|h
 ·refine nq h ?_;refine gH ?_;simp only[go_sem,simprocAttr,ZoF _ _ h,h];refine nR ?_;cases h5:(l[i]==0)with
  |false=>
   simp only[go_sem,simprocAttr,bne,h5];refine gn ?_;refine Zc ?_ (.int _ _) rfl;rw[Ztd h (by simpa using h5) hq];exact .refl _
  |true=>
   simp only[go_sem,simprocAttr,bne,h5];refine gm ?_;refine⟨fun j hj hji=>?_,?_⟩
   ·rcases Qe j i with h'|h'
    ·exact hq j hj h'
    ·have:j=i:=om;subst this;simpa using h5
   ·apply kZ;repeat' first|apply q0|exact xx|apply aI
    ·refine aS ?_;rw[iw];exact .refl _
    ·exact ZaM (ZbE .i64 l)
 ·refine nq (QD.2 h) ?_;refine gt ?_;refine Zc ?_ (.int _ _) rfl;rw[Zpb (fun j hj=>hq j hj om)];exact .refl _
def Zk6(l:List Int)(k:Int):Int:=ZcR (fun x=>k==x) l
def ZuC(l:List Int)(k:Int)(H:Za)(i:Nat):Zb:=
 ⟨[(8,.int .i64 i),(7,.int .i64 l.length),(0,.sl 1 (l.map (AV.int .u8)) .full),(1,.int .u8 k)],[],H⟩
def a119(l:List Int)(k:Int)(hl:l.length≤1000000):Pure prog 176 [.sl 1 (l.map (AV.int .u8)) .full,.int .u8 k] (.int .i64 (Zk6 l k)):=by
 intro n H;refine aF func176 fun B=>?_
 refine gk ?_;refine ZL (ZuC l k H) (fun i=>∀j (h:j<l.length),j<i→(k==l[j])=false) l.length rfl ?_ (fun j _ h=>absurd h (Qo _)) ?_
 ·apply kZ;repeat' first|apply q0|exact xx|apply aI
  exact ZaM (ZbE .u8 l)
 intro i hi hq;refine ZQ rfl ?_;rcases Qe i l.length with h|h
 ·refine nq h ?_;refine gi ?_;refine nq2 (getD_map (AV.int .u8) l i h) h ?_;cases h5:(k==l[i])with
  |true=>
   refine nTq h5 ?_;refine nR ?_;refine nW ?_;refine Zc ?_ (.int _ _) rfl;rw[Zk6,ZaR h h5 hq];exact .refl _
  |false=>
   refine nFq h5 ?_;refine gd ?_;refine⟨fun j hj hji=>?_,?_⟩
   ·rcases Qe j i with h'|h'
    ·exact hq j hj h'
    ·have:j=i:=om;subst this;exact h5
   ·apply kZ;repeat' first|apply q0|exact xx|apply aI
    ·refine aS ?_;rw[iw];exact .refl _
    ·exact ZaM (ZbE .u8 l)
 ·refine nq (QD.2 h) ?_;refine gt ?_;refine Zc ?_ (.int _ _) rfl;rw[Zk6,VA (fun j hj=>hq j hj om)];exact .refl _
def Zpz(k:Int):Zk6 [1,2,4,3,5,6] k=if k=1 then 0 else if k=2 then 1 else if k=4 then 2 else if k=3 then 3 else if k=5 then 4 else if k=6 then 5 else -1:=by
 by_cases h1:k=1
 ·subst h1;rfl
 by_cases h2:k=2
 ·subst h2;rfl
 by_cases h4:k=4
 ·subst h4;rfl
 by_cases h3:k=3
 ·subst h3;rfl
 by_cases h5:k=5
 ·subst h5;rfl
 by_cases h6:k=6
 ·subst h6;rfl
 unfold Zk6 ZcR;simp[h1,h2,h3,h4,h5,h6]
def Zpx(k:Int):rank k=if 0≤Zk6 [1,2,4,3,5,6] k then Zk6 [1,2,4,3,5,6] k else 6+k:=by
 rw[Zpz];unfold rank;repeat' split
 all_goals first|rfl|omega
def a88(k:Int)(hk:0≤k∧k≤255):Pure prog 112 [.int .u8 k] (.int .i64 (rank k)):=by
 intro n H;have hr:=Zpx k;have ha:=a119 [1,2,4,3,5,6] k dc;simp only[Qv,Ux]at ha;generalize Zk6 [1,2,4,3,5,6] k=i at ha hr;refine aF func112 fun B=>?_
 refine gc ?_;refine⟨dc,?_⟩;refine nR ?_;refine cP (ha) ?_;cases h1:decide (0≤i)with
 |true=>
  refine nq h1 ?_;refine gj ?_;refine Zc ?_ (.int _ _) rfl;rw[hr,if_pos (of_decide_eq_true h1)];exact .refl _
 |false=>
  refine nq h1 ?_;refine gF ?_;refine Zc ?_ (.int _ _) rfl;refine aS ?_;rw[hr,if_neg (of_decide_eq_false h1),IntWalk.i64_in k om,iw];exact .refl _
structure ZuB (f:Nat) (p q:List Tm):Prop where
 fn:∃fn c,Fun prog f fn c
 on:∀x∈p,∀y∈q,Pure prog f [x.enc,y.enc] (.int .i64 (cmpT x y))
def ZwN(p q:List Tm)(f:Nat)(H:Za)(i:Nat):Zb:=
 ⟨[(13,.int .i64 i),(12,.int .i64 p.length),(11,.sl 4 (p.map Tm.enc) .any),(0,.sl 4 (p.map Tm.enc) .any),(1,.sl 4 (q.map Tm.enc) .any),(2,.fn (.func f) [])],[],H⟩
def Zej(p q:List Tm)(i:Nat)(h:i<p.length)(h':i<q.length):cmpT.cmps (p.drop i) (q.drop i)=thn (cmpT p[i] q[i]) (cmpT.cmps (p.drop (i+1)) (q.drop (i+1))):=by
 rw[Qu h,Qu h'];rfl
def a52(p q:List Tm)(hp:p.length≤1000000)(hq:q.length≤1000000)(f:Nat)(hf:ZuB f p q):Pure prog 115 [.sl 4 (p.map Tm.enc) .any,.sl 4 (q.map Tm.enc) .any,.fn (.func f) []] (.int .i64 (cmpT.cmps p q)):=by
 intro n H;obtain⟨⟨fn,c,hf⟩,hon⟩:=hf;have hfi:∀r,Inside n r (.fn (.func f) []):=fun r=>Inside.fn _ _ (fun i h=>absurd h (Qo _))
 refine aF func115 fun B=>?_
 refine gk ?_;refine ZL (ZwN p q f H) (fun i=>cmpT.cmps p q=cmpT.cmps (p.drop i) (q.drop i)) p.length rfl ?_ rfl ?_
 ·exact KK
 intro i hi hc;refine ZQ rfl ?_;rcases Qe i p.length with h|h
 ·refine nq h ?_;refine nT ?_;refine nq2 (Tm.Zh _ _ h) h ?_;rcases Qe i q.length with h'|h'
  ·refine nq2 h' (QbL.2 h') ?_;refine nF ?_;refine nq2 (Tm.Zh _ _ h') h' ?_;refine nR ?_;refine YE (avs:=[p[i].enc,q[i].enc]) rfl hf (hon _ (Qa h) _ (Qa h') _ _) rfl ?_;refine aS ?_;cases h5:(cmpT p[i] q[i]==0)with
   |false=>
    refine nr ?_;simp only[go_sem,simprocAttr,bne,h5];refine gn ?_;refine Zc ?_ (.int _ _) rfl;rw[hc,Zej p q i h h',Zb6 (by simpa using h5)];exact .refl _
   |true=>
    refine nr ?_;simp only[go_sem,simprocAttr,bne,h5];refine gm ?_;refine⟨?_,?_⟩
    ·rw[hc,Zej p q i h h',(by simpa using h5:cmpT p[i] q[i]=0),Y5]
    ·apply kZ;repeat' first|apply q0|exact xx|apply aI
     refine aS ?_;rw[iw];exact .refl _
  ·refine nq h' ?_;refine gn ?_;refine Zc ?_ (.int _ _) rfl;rw[hc,QT h',Qu h];exact .refl _
 ·refine nq (QD.2 h) ?_;refine gg ?_;have hi':i=p.length:=om;subst hi';rw[Qad]at hc;cases h1:decide (p.length<q.length)with
  |true=>
   refine nq h1 ?_;refine gj ?_;refine Zc ?_ (.int _ _) rfl;rw[hc,Qu (by have:=of_decide_eq_true h1;omega)];exact .refl _
  |false=>
   refine nq h1 ?_;refine gF ?_;refine Zc ?_ (.int _ _) rfl;rw[hc,QT (by have:=of_decide_eq_false h1;omega)];exact .refl _
end
def Zwk(a b:Tm)(ha:a.Good)(hb:b.Good)(hc:ZuB 62 a.args b.args):Pure prog 62 [a.enc,b.enc] (.int .i64 (cmpT a b)):=by
 intro n H;have hla:=ha.len;have hlb:=hb.len;have hx:=ZfD a b;refine aF func62 fun B=>?_
 refine nR ?_;refine Xz tok mixed drawO rfl rfl rfl ?_;refine aS ?_;refine cP (a88 a.kind ha.kind) ?_;refine cP (a88 b.kind hb.kind) ?_;refine cP (a51 (rank a.kind) (rank b.kind)) ?_;cases h1:(YO (rank a.kind) (rank b.kind)==0)with
 |false=>
  have h1':YO (rank a.kind) (rank b.kind)≠0:=by simpa using h1
  refine nr ?_;simp only[go_sem,simprocAttr,bne,h1];refine gj ?_;refine Zc ?_ (.int _ _) rfl;rw[hx,Zb6 h1'];exact .refl _
 |true=>
 have h1':YO (rank a.kind) (rank b.kind)=0:=by simpa using h1
 rw[h1',Y5]at hx;refine nr ?_;simp only[go_sem,simprocAttr,bne,h1];refine gv ?_;refine cP (a51 a.num b.num) ?_;cases h2:(YO a.num b.num==0)with
 |false=>
  have h2':YO a.num b.num≠0:=by simpa using h2
  cases h3:(a.kind==1)with
  |true=>
   have h3':a.kind=1:=by simpa using h3
   refine nr ?_;simp only[go_sem,simprocAttr,bne,h2,h3];refine gj ?_;refine Zc ?_ (.int _ _) rfl;rw[hx,if_pos h3',Zb6 h2'];exact .refl _
  |false=>
   have h3':¬a.kind=1:=by simpa using h3
   refine nr ?_;simp only[go_sem,simprocAttr,bne,h2,h3];refine nF ?_;rw[if_neg h3',Y5]at hx;refine Xz tok mixed drawO rfl rfl rfl ?_;simp only[go_sem,simprocAttr];refine cP (a51 a.args.length b.args.length) ?_;refine cP (a50 a.name b.name) ?_;refine cP (a52 a.args b.args hla hlb _ hc) ?_;refine cP (a51 a.num b.num) ?_;refine⟨dc,?_⟩;have ho:=a49 [YO a.args.length b.args.length,Lib.compareBytes a.name b.name,cmpT.cmps a.args b.args,YO a.num b.num] sm;simp only[Qv,Ux,eInt,orL,Jv]at ho;refine cP (ho) ?_;refine nV ?_;refine Zc ?_ (.int _ _) rfl;rw[hx];exact .refl _
 |true=>
  have h2':YO a.num b.num=0:=by simpa using h2
  refine nr ?_;simp only[go_sem,simprocAttr,bne,h2];refine nF ?_;rw[h2',(by split<;>rfl:(if a.kind=1 then(0:Int)else 0)=0),Y5]at hx;refine Xz tok mixed drawO rfl rfl rfl ?_;simp only[go_sem,simprocAttr];refine cP (a51 a.args.length b.args.length) ?_;refine cP (a50 a.name b.name) ?_;refine cP (a52 a.args b.args hla hlb _ hc) ?_;refine cP (a51 a.num b.num) ?_;refine⟨dc,?_⟩;have ho:=a49 [YO a.args.length b.args.length,Lib.compareBytes a.name b.name,cmpT.cmps a.args b.args,YO a.num b.num] sm;simp only[Qv,Ux,eInt,orL,Jv]at ho;refine cP (ho) ?_;refine nV ?_;refine Zc ?_ (.int _ _) rfl;rw[hx,h2'];exact .refl _
def a53(a b:Tm)(ha:a.Good)(hb:b.Good):Pure prog 62 [a.enc,b.enc] (.int .i64 (cmpT a b)):=
 Zwk a b ha hb ⟨⟨_,_,Zf func62 rfl rfl⟩,fun x hx y hy=>a53 x y (ha.arg hx) (hb.arg hy)⟩
termination_by SizeOf.sizeOf a
decreasing_by exact Tm.Y2 hx

def nat_ne{m n:Nat}(h:((m:Int)==n)=false):m≠n:=by
 have:(m:Int)≠n:=by simpa using h
 omega
def nat_eq{m n:Nat}(h:((m:Int)==n)=true):m=n:=by
 have:(m:Int)=n:=by simpa using h
 omega
def eqT:Tm→Tm→Bool
 | .mk k n s l,.mk k' n' s' l'=>(k==k')&&(n==n')&&(s==s')&&eqs l l'
where eqs:List Tm→List Tm→Bool
 |[],[]=>true
 |a::x,b::y=>eqT a b&&eqs x y
 |_,_=>false
def ZpS(a b:Tm):eqT a b=((a.kind==b.kind)&&(a.num==b.num)&&(a.name==b.name)&&eqT.eqs a.args b.args):=by
 cases a;cases b;rw[eqT];rfl
def eqT_iff:∀a b:Tm,eqT a b=true↔a=b
 | .mk k n s l,b=>by
  have hl:∀(p q:List Tm),(∀u∈p,u∈l)→(eqT.eqs p q=true↔p=q):=by
   intro p;induction p with
   |nil=>intro q _;cases q<;>simp[eqT.eqs]
   |cons t p ih=>
    intro q hp;cases q with
    |nil=>simp[eqT.eqs]
    |cons u q=>
     have ht:=eqT_iff t u;simp only[eqT.eqs,Qd,Uf];rw[ht,ih q (fun v hv=>hp v (Qz _ hv))]
  rw[ZpS];cases b with
  |mk k' n' s' l'=>
   have:=hl l l' (fun u h=>h);show((k==k')&&(n==n')&&(s==s')&&eqT.eqs l l')=true↔_;simp only[Qd,beq_iff_eq,this,Tm.mk.injEq,and_assoc]
termination_by a=>SizeOf.sizeOf a
decreasing_by
 have:=QL (hp t sm);simp only[Tm.mk.sizeOf_spec];omega
def eqA(a b:Am):Bool:=(a.pred==b.pred)&&eqT.eqs a.args b.args
def eqs_iff:∀(p q:List Tm),eqT.eqs p q=true↔p=q
 |[],[]=>by simp[eqT.eqs]
 |[],_::_=>by simp[eqT.eqs]
 |_::_,[]=>by simp[eqT.eqs]
 |a::p,b::q=>by rw[eqT.eqs,Qd,eqT_iff,eqs_iff p q,Uf]
def Zcf(a b:Am):eqA a b=true↔a=b:=by
 cases a;cases b;simp only[eqA,Qd,beq_iff_eq,eqs_iff,Am.mk.injEq]
end Go.Proofs.YtmdeagmbfhbbnaaGreatDoorR

namespace Go.Abs
structure Sg where
 p:List UInt8
 n:Int
deriving DecidableEq
namespace Sg
def cs(s:Sg):List AV:=[.str s.p,.int .i64 s.n]
def enc(s:Sg):AV:=.agg [.str s.p,.int .i64 s.n]
theorem Xg(s:Sg):s.enc.cells=[.str s.p,.int .i64 s.n]:=rfl
theorem fold(s:Sg):AV.agg [.str s.p,.int .i64 s.n]=s.enc:=rfl
def bcs{n:Nat}(s:Sg):Yg (fun c=>Below n c) s.cs:=⟨.str _,.int _ _,trivial⟩
def blw(n:Nat)(s:Sg):Below n s.enc:=Xf s.bcs.mem
def Zh(l:List Sg)(i:Nat)(h:i<l.length)(d:AV):(l.map enc).getD i d=(l[i]).enc:=by
 rw[Qn,Ua,Qb h];rfl
def Zf6{n:Nat}{p:Nat→Prop}(l:List Sg)(k:Nat):Inside n p (.sl k (l.map enc) .any):=Below.inside (ZB fun x hx=>by obtain⟨u,_,rfl⟩:=Qi.1 hx;exact blw n u)
def Yj{n k j:Nat}{p:Nat→Prop}{l:List Sg}(h:p j):Inside n p (.sl k (l.map enc) (.buf n j)):=Abs.Yj (mB fun u=>u.blw n) h
end Sg
def Am.sg(a:Am):Sg:=⟨a.pred,a.args.length⟩
end Go.Abs
namespace Go.Proofs.YtmdeagmbfhbbnaaGreatDoorR
open Go.Abs
attribute [go_sem] Sg.enc Sg.cs
def a56(a:Am):Pure prog 66 [a.enc] a.sg.enc:=by
 intro n H;refine aF func66 fun B=>?_
 refine gK ?_;refine Z9 (.inl rfl) _ n 2 0 a.sg.cs sS (by simp only[go_sem,simprocAttr,full,Am.sg]) rfl (Qg _) sS ?_ (Sg.blw _ _) rfl;simp only[go_sem,simprocAttr,Am.sg];exact .refl _
theorem Zwy(p:List UInt8)(n:Int):Z8 tt 100 110 [KL.str p,KL.int .i64 n]=true:=rfl
attribute [go_sem] Zwy
def _root_.Go.Abs.Sg.small(s:Sg):Prop:=0≤s.n∧s.n≤1000000
end Go.Proofs.YtmdeagmbfhbbnaaGreatDoorR

namespace Go.Proofs.YtmdeagmbfhbbnaaGreatDoorR
open Go.Abs
def Vp(l:List Am):Prop:=∀a∈l,a.Good
def ZrJ(l:List Am)(a:Am):List Am×Bool×Int:=
 if Yh a=false then(l,false,2)else if l.any (eqA · a)=true then(l,false,0)else if l.length=2000 then(l,false,5)else(l++[a],true,0)
def Zjr(l:List Am)(s:Sg):List Am:=l.filter (fun a=>a.sg==s)
def colEq(a:Am)(c:Int)(v:Tm):Bool:=match a.args[c.toNat]? with
 |some t=>eqT t v
 |none=>false
def ZkN(s:Sg)(c:Int)(v:Tm)(a:Am):Bool:=(a.sg==s)&&decide (0≤c)&&decide (c<s.n)&&colEq a c v
def Zm8(l:List Am)(s:Sg)(c:Int)(v:Tm):List Am:=l.filter (ZkN s c v)
end Go.Proofs.YtmdeagmbfhbbnaaGreatDoorR

namespace Go.Abs
open Go.Proofs.YtmdeagmbfhbbnaaGreatDoorR
def eUnsafe:Int:=120
def newV(n:Nat):List UInt8:=35::Lib.itoa (n:Int)
def plainT:Tm→Tm
 | .mk k n s l=>.mk k n (if k=3∧s.head? =some 35 then [88]else s) (plains l)
where plains:List Tm→List Tm
 |[]=>[]
 |t::r=>plainT t::plains r
def Jf(t:Tm):Bool:=YI (plainT t)
def Yt(x:Lt):Bool:=
 if x.kind=1 then sym x.at_.pred&&decide (x.at_.args.length≤8)&&x.at_.args.all Jf
 else if x.kind=2 then !x.neg&&decide (1≤x.op)&&decide (x.op≤6)&&Jf x.L&&Jf x.R else false
def Zbp(S:List (List UInt8)):Nat→Nat→Nat
 |0,n=>n
 |f+1,n=>if newV n∈S then Zbp S f (n+1)else n
def XG(S:List (List UInt8))(n:Nat):Nat:=Zbp S (S.length+1) (n+1)
def flT(S:List (List UInt8)):Tm→Nat→Tm×Nat×List (Nat×Tm)
 | .mk k n s l,c=>if k=5∨k=6 then let m:=XG S c;(.mk 3 0 (newV m) [],m,[(m,.mk k n s l)])
  else let r:=flTs l c;(.mk k n s r.1,r.2.1,r.2.2)
where flTs:List Tm→Nat→List Tm×Nat×List (Nat×Tm)
 |[],c=>([],c,[])
 |t::r,c=>let p:=flT S t c;let q:=flTs r p.2.1;(p.1::q.1,q.2.1,p.2.2++q.2.2)
def VH(p:Nat×Tm):Lt:=⟨2,false,⟨[],[]⟩,1,.mk 3 0 (newV p.1) [],p.2⟩
def flX(S:List (List UInt8))(x:Lt)(c:Nat):List Lt×Nat:=
 if x.kind=1 then let r:=flT.flTs S x.at_.args c;({x with at_:=⟨x.at_.pred,r.1⟩}::r.2.2.map VH,r.2.1)else([x],c)
def flL(S:List (List UInt8)):List Lt→Nat→List Lt
 |[],_=>[]
 |x::r,c=>let p:=flX S x c;p.1++flL S r p.2
def YB(x:Lt):List Tm:=x.L::x.R::x.at_.args
def XZ(l:List Lt)(used:List (List UInt8)):List Lt:=flL (used++l.flatMap fun x=>(YB x).flatMap ZU) l 0
inductive Stp where
 |test (x:Lt)
 |bind (n:List UInt8) (t:Tm)
 |atom (a:Am)
def Vd(S l:List (List UInt8)):Bool:=l.all (· ∈S)
def Y3(S:List (List UInt8))(x:Lt):Option Stp:=
 if x.kind=2 then
  if Vd S (ZU x.L)&&Vd S (ZU x.R)then some (.test x)
  else if x.op=1∧Vd S (ZU x.R)=true∧x.L.kind=3 then some (if x.L.name=[]then .test x else .bind x.L.name x.R)
  else if x.op=1∧Vd S (ZU x.L)=true∧x.R.kind=3 then some (if x.R.name=[]then .test x else .bind x.R.name x.L)else none
 else none
def JR(x:Lt):Option Stp:=if x.kind=1∧x.neg=false then some (.atom x.at_)else none
def ZaB(f:Lt→Option Stp):List Lt→Option (Stp×Lt×List Lt)
 |[]=>none
 |x::r=>match f x with
  |some s=>some (s,x,r)
  |none=>(ZaB f r).map fun p=>(p.1,p.2.1,x::p.2.2)
def Vj(S:List (List UInt8))(l:List Lt):Option (Stp×Lt×List Lt):=(ZaB (Y3 S) l).or (ZaB JR l)
def planF:Nat→List (List UInt8)→List Lt→List Stp×List (List UInt8)×List Lt
 |0,S,l=>([],S,l)
 |f+1,S,l=>match Vj S l with
  |none=>([],S,l)
  |some (s,x,r)=>let p:=planF f (S++ZA x) r;(s::p.1,p.2)
def X7(S:List (List UInt8))(x:Lt):Bool:=!(x.kind==2)&&Vd S (ZA x)
def Ja(S:List (List UInt8))(l:List Lt):Option (List Stp):=
 let p:=planF l.length S l
 if p.2.2.all (X7 p.2.1)then some p.1 else none
def Yz(t:Tm)(b:Bnd):List Tm×Int:=
 if YI (Zv b t)then match expandS (Zv b t)with
  |some l=>(l,0)
  |none=>([],5)
 else([],3)
def Je(e f:Int):Int:=if e=3∨f=0 then e else f
def Jj(x:Lt)(b:Bnd):List Bnd×Int:=
 let l:=Yz x.L b;let r:=Yz x.R b
 if l.2≠0∨r.2≠0 then([],Je l.2 r.2)else(if l.1.any (fun v=>r.1.any (YX x.op v))then [b]else [],0)
def JF(b:Bnd):List Tm→Int→Option (Int×Tm)
 |[],_=>none
 |t::r,i=>if Zo (Zv b t)then some (i,Zv b t)else JF b r (i+1)
def Vx(A:List Am)(a:Am)(b:Bnd):List Am:=match JF b a.args 0 with
 |some (i,v)=>Zm8 A a.sg i v
 |none=>Zjr A a.sg
def stepS(A:List Am):Stp→Bnd→List Bnd×Int
 | .test x,b=>Jj x b
 | .bind n t,b=>((Yz t b).1.map fun v=>WH n v b,(Yz t b).2)
 | .atom a,b=>((Vx A a b).filterMap fun x=>matT.matL a.args x.args b,0)
def Zg5{α:Type}(l:List α):List α:=if 20000<l.length then l.take 20001 else l
def WC(p:List Bnd×Int)(q:List Bnd×Int):List Bnd×Int:=(Zg5 (p.1++q.1),if q.2=3∨p.2=0 then q.2 else p.2)
def Xo(f:Bnd→List Bnd×Int)(now:List Bnd):List Bnd×Int:=
 let r:=now.foldl (fun p b=>WC p (f b)) ([],0)
 (r.1,if r.2=0∧20000<r.1.length then 5 else r.2)
def Vt(A:List Am):List Stp→List Bnd→List Bnd×Int
 |[],now=>(now,0)
 |s::r,now=>let p:=Xo (stepS A s) now;if p.2=0 then Vt A r p.1 else([],p.2)
def validB:Bnd→Bool
 |[]=>true
 |[p]=>Zo p.2
 |p::q::r=>Zo p.2&&decide (Lib.compareBytes p.1 q.1<0)&&validB (q::r)
def YU(b c:Bnd):Int:=thn (cmpT.cmps (b.map Prod.snd) (c.map Prod.snd)) (YO b.length c.length)
def YL(A:List Am)(l:List Lt)(b:Bnd):List Bnd×Int:=
 if l.all Yt&&validB b then
  let keep:=l.flatMap ZA++b.map Prod.fst
  match Ja (b.map Prod.fst) (XZ l keep)with
  |none=>([],eUnsafe)
  |some p=>let r:=Vt A p [b]
   if r.2=0 then(XT YU (r.1.map fun c=>c.filter fun q=>q.1∈keep),0)else([],r.2)
 else([],2)
end Go.Abs

namespace Go.Proofs.YtmdeagmbfhbbnaaGreatDoorR
open Go.Abs
theorem Am.cs2(a:Am):a.cs.length=2:=rfl
def Yb{p:AV→Prop}:∀{l:List AV},(∀x∈l,p x)→Yg p l
 |[],_=>trivial
 |x::l,h=>⟨h x sm,Yb fun y hy=>h y (by simp[hy])⟩
theorem Sg.cs2(a:Sg):a.cs.length=2:=rfl
def ZkE{x y z:List Int}(h:lexI x y<0)(h':lexI y z<0):lexI x z<0:=by
 have h1:=lexI_trans x y z om om;rcases Int.lt_or_eq_of_le h1 with h2|h2
 ·exact h2
 ·have h3:=lexI_anti x z;have h4:=lexI_trans z x y om om;have h5:=lexI_anti z y;omega
end Go.Proofs.YtmdeagmbfhbbnaaGreatDoorR
